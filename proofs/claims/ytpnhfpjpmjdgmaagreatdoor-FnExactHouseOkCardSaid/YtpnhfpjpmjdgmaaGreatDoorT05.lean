/- Texts of a proof, joined by a program (merge.py): TlAL TlTab TfBase TfDraw TfDrawW TfNm TfNmS TfNmT TfNmU TfNmV TfPutS TfRrD TfPutT TfImN TfRrOk. -/
import Derived.Test.YtpnhfpjpmjdgmaaGreatDoorT04
import Derived.Test.YtpnhfpjpmjdgmaaGreatDoorProg
set_option linter.all false
/- TlAL -/
namespace Go.TL
open Go

variable {P : Program} {f : Nat} {args : List A} {ob : Obs}

/-- There is one outcome, of which something is known. -/
def DCall (P : Program) (f : Nat) (args : List A) (ob : Obs) (Φ : A → Obs → Prop) : Prop := ∃ r o, Φ r o ∧ ACall P f args ob fun x y => x = r ∧ y = o
theorem DCall.acall {Φ : A → Obs → Prop} (h : DCall P f args ob Φ) : ACall P f args ob Φ := by
  obtain ⟨r, o, h1, h2⟩ := h
  exact h2.mono fun x y ⟨e1, e2⟩ => e1 ▸ e2 ▸ h1
theorem DCall.mono {Φ Ψ : A → Obs → Prop} (h : DCall P f args ob Φ) (k : ∀ r o, Φ r o → Ψ r o) : DCall P f args ob Ψ := let ⟨r, o, h1, h2⟩ := h; ⟨r, o, k r o h1, h2⟩
theorem ACall.pure {r : A} {o : Obs} (h : ACall P f args ob fun x y => x = r ∧ y = o) : DCall P f args ob fun x y => x = r ∧ y = o := ⟨r, o, ⟨rfl, rfl⟩, h⟩
theorem calld_det {Φ K : A → Obs → Prop} (h : DCall P f args ob Φ) (hk : ∀ r o, Φ r o → K r o) : CallD (ACall P) f args ob K := let ⟨r, o, h1, h2⟩ := h; ⟨r, o, h2, hk r o h1⟩

section
variable {α : Type} {Φ : α → Prop} {F F' X Y : (α → Prop) → Prop}
/-- A statement about what comes out: one thing does, of which something is known. -/
def Dt (Φ : α → Prop) (F : (α → Prop) → Prop) : Prop := ∃ a, Φ a ∧ ∀ Q : α → Prop, Q a → F Q
theorem dt_eval (e : ∀ Q, F' Q → F Q) (h : Dt Φ F') : Dt Φ F := let ⟨a, h1, h2⟩ := h; ⟨a, h1, fun Q q => e Q (h2 Q q)⟩
theorem dt_ar {G : Ar → (α → Prop) → Prop} (h : ∀ ar, ar = std → Dt Φ (G ar)) : Dt Φ (fun Q => ∀ ar, ar = std → G ar Q) :=
  let ⟨a, h1, h2⟩ := h std rfl; ⟨a, h1, fun Q q _ e => e ▸ h2 Q q⟩
theorem dt_br : ∀ {b : Bool}, (b = true → Dt Φ X) → (b = false → Dt Φ Y) → Dt Φ (fun Q => match b with | true => X Q | false => Y Q)
  | true, h, _ => h rfl
  | false, _, h => h rfl
theorem dt_fact {c : Prop} (h : Dt Φ X) : Dt Φ (fun Q => c → X Q) := let ⟨a, h1, h2⟩ := h; ⟨a, h1, fun Q q _ => h2 Q q⟩
theorem dt_and {c : Prop} (h : c) (k : Dt Φ X) : Dt Φ (fun Q => c ∧ X Q) := let ⟨a, h1, h2⟩ := k; ⟨a, h1, fun Q q => ⟨h, h2 Q q⟩⟩
theorem dt_chk {c : Unit → Bool} (h : c () = true) (k : Dt Φ X) : Dt Φ (fun Q => ChkP c (X Q)) := let ⟨a, h1, h2⟩ := k; ⟨a, h1, fun Q q => ⟨h, h2 Q q⟩⟩
theorem dt_get {ar : Ar} {es : List (List T)} {i : Int} {v : List T} {k : List T → (α → Prop) → Prop} (h : ar.inb i es) (e : ar.get es i = v) (hk : Dt Φ (k v)) : Dt Φ (fun Q => GetP ar es i fun x => k x Q) := by
  subst e
  obtain ⟨a, h1, h2⟩ := hk
  exact ⟨a, h1, fun Q q => ⟨h, h2 Q q⟩⟩
theorem dt_bytes {es : List (List T)} {l : List UInt8} {k : List UInt8 → (α → Prop) → Prop} (h : encB l = es) (hk : Dt Φ (k l)) : Dt Φ (fun Q => BytesP es fun x => k x Q) :=
  let ⟨a, h1, h2⟩ := hk; ⟨a, h1, fun Q q => ⟨l, h.symm, h2 Q q⟩⟩
theorem dt_call {Ψ : A → Obs → Prop} {k : A → Obs → (α → Prop) → Prop} (h : DCall P f args ob Ψ) (hk : ∀ r o, Ψ r o → Dt Φ (k r o)) : Dt Φ (fun Q => CallP (ACall P) f args ob fun r o => k r o Q) := by
  obtain ⟨r, o, g1, g2⟩ := h
  obtain ⟨a, h1, h2⟩ := hk r o g1
  exact ⟨a, h1, fun Q q => ⟨g2.mono fun x y ⟨e1, e2⟩ => e1 ▸ e2 ▸ h2 Q q⟩⟩
theorem dt_calld {Ψ : A → Obs → Prop} {k : A → Obs → (α → Prop) → Prop} (h : DCall P f args ob Ψ) (hk : ∀ r o, Ψ r o → Dt Φ (k r o)) : Dt Φ (fun Q => CallD (ACall P) f args ob fun r o => k r o Q) := by
  obtain ⟨r, o, g1, g2⟩ := h
  obtain ⟨a, h1, h2⟩ := hk r o g1
  exact ⟨a, h1, fun Q q => ⟨r, o, g2, h2 Q q⟩⟩
theorem dt_ret {g : A → Obs → α} {r : A} {o : Obs} (h : Φ (g r o)) : Dt Φ (fun Q => RetP (fun x y => Q (g x y)) r o) := ⟨_, h, fun _ q => ⟨q⟩⟩
theorem dt_acall {Φ : A → Obs → Prop} (h : Dt (fun p => Φ p.1 p.2) fun Q => ACall P f args ob fun r o => Q (r, o)) : DCall P f args ob Φ := by
  obtain ⟨⟨r, o⟩, h1, h2⟩ := h
  exact ⟨r, o, h1, (h2 (fun p => p = (r, o)) rfl).mono fun x y e => by injection e with e1 e2; exact ⟨e1, e2⟩⟩

/-! Loops, each round of which has one outcome: a state at the head, or what is handed back. -/
inductive BackR (k : St → Prop) (s : St) : Prop where
  | mk (h : k s)
theorem backR_eq (k : St → Prop) (s : St) : BackR k s = k s := propext ⟨fun ⟨h⟩ => h, fun h => ⟨h⟩⟩
/-- What a loop's body is asked. -/
def bodyD (body : St → (Exit → St → Prop) → Prop) (s : St) (Kf : (α → Prop) → Exit → St → Prop) (Q : α ⊕ St → Prop) : Prop :=
  body s fun e s' => match e with
    | .normal => BackR (fun s => Q (.inr s)) s'
    | .exit i => Kf (fun p => Q (.inl p)) (.exit i) s'
    | .ret => Kf (fun p => Q (.inl p)) .ret s'
    | _ => False
abbrev sumP {α : Type} (Φ : α → Prop) (p : St → Prop) : α ⊕ St → Prop
  | .inl a => Φ a
  | .inr x => p x
theorem dt_back {g : St → α} {s : St} (h : Φ (g s)) : Dt Φ (fun Q => BackR (fun s => Q (g s)) s) := ⟨_, h, fun _ q => ⟨q⟩⟩
theorem dt_loop {X : Type} {m : Nat} {body : St → (Exit → St → Prop) → Prop} {st : St} {Kf : (α → Prop) → Exit → St → Prop} (ks : List Nat) (vl : List Vt) (U : X → St) (φ : X → Prop) (μ : X → Nat) (x0 : X)
    (h0 : nrm m ks vl st = some (U x0)) (h1 : φ x0) (step : ∀ x, φ x → Dt (sumP Φ fun s => ∃ x', nrm m ks vl s = some (U x') ∧ φ x' ∧ μ x' < μ x) (bodyD body (U x) Kf)) : Dt Φ (fun Q => LoopP m body st (Kf Q)) := by
  have key : ∀ n x, μ x < n → φ x → ∃ a, Φ a ∧ ∀ Q : α → Prop, Q a → ∃ (Y : Type) (S : Y → St) (ψ : Y → Prop) (ν : Y → Nat) (y0 : Y), S y0 = U x ∧ ψ y0 ∧ ∀ y, ψ y → body (S y) fun e s' => match e with
      | .normal => BackP m ks vl S ψ ν y s'
      | .exit i => Kf Q (.exit i) s'
      | .ret => Kf Q .ret s'
      | _ => False := by
    intro n
    induction n with
    | zero => intro x h; omega
    | succ n ih =>
      intro x hn hx
      obtain ⟨o, ho, hF⟩ := step x hx
      cases o with
      | inl a =>
        refine ⟨a, ho, fun Q q => ⟨Unit, fun _ => U x, fun _ => True, fun _ => 0, (), rfl, trivial, fun y _ => ?_⟩⟩
        have h := hF (fun | .inl p => Q p | .inr s => BackP m ks vl (fun _ : Unit => U x) (fun _ => True) (fun _ => 0) () s) q
        unfold bodyD at h
        simp only [backR_eq] at h
        exact h
      | inr s =>
        obtain ⟨x', e1, e2, e3⟩ := ho
        obtain ⟨a, ha, hQ⟩ := ih x' (by omega) e2
        refine ⟨a, ha, fun Q q => ?_⟩
        obtain ⟨Y, S, ψ, ν, y0, g1, g2, g3⟩ := hQ Q q
        let S2 : Option Y → St := fun | none => U x | some y => S y
        let ψ2 : Option Y → Prop := fun | none => True | some y => ψ y ∧ ν y ≤ ν y0
        let ν2 : Option Y → Nat := fun | none => ν y0 + 1 | some y => ν y
        refine ⟨Option Y, S2, ψ2, ν2, none, rfl, trivial, fun y hy => ?_⟩
        cases y with
        | none =>
          have h := hF (fun | .inl p => Q p | .inr s => BackP m ks vl S2 ψ2 ν2 none s) ⟨some y0, by rw [e1, ← g1], ⟨g2, Nat.le_refl _⟩, Nat.lt_succ_self _⟩
          unfold bodyD at h
          simp only [backR_eq] at h
          exact h
        | some y =>
          have h := g3 y hy.1
          have e : (fun (e : Exit) (s' : St) => match e with
              | .normal => BackP m ks vl S ψ ν y s'
              | .exit i => Kf Q (.exit i) s'
              | .ret => Kf Q .ret s'
              | _ => False) = fun e s' => match e with
              | .normal => BackP m ks vl S2 ψ2 ν2 (some y) s'
              | .exit i => Kf Q (.exit i) s'
              | .ret => Kf Q .ret s'
              | _ => False := by
            funext e s'
            cases e with
            | normal => exact propext ⟨fun ⟨x', p1, p2, p3⟩ => ⟨some x', p1, ⟨p2, Nat.le_trans (Nat.le_of_lt p3) hy.2⟩, p3⟩, fun ⟨x', p1, p2, p3⟩ => by
                cases x' with
                | some z => exact ⟨z, p1, p2.1, p3⟩
                | none => exact absurd (Nat.lt_of_lt_of_le p3 hy.2) (by show ¬ ν y0 + 1 < ν y0; omega)⟩
            | _ => rfl
          rw [← e]; exact h
  obtain ⟨a, ha, hQ⟩ := key (μ x0 + 1) x0 (Nat.lt_succ_self _) h1
  refine ⟨a, ha, fun Q q => ?_⟩
  obtain ⟨Y, S, ψ, ν, y0, g1, g2, g3⟩ := hQ Q q
  exact ⟨Y, ks, vl, S, ψ, ν, y0, by rw [h0, g1], g2, g3⟩
inductive LoopDR {α : Type} (Φ : α → Prop) (m : Nat) (ks : List Nat) (vl : List Vt) (body : St → (Exit → St → Prop) → Prop) (s0 : St) (Kf : (α → Prop) → Exit → St → Prop) : Prop where
  | mk (X : Type) (U : X → Tms × Obs) (φ : X → Prop) (μ : X → Nat) (x0 : X) (h0 : s0 = updS s0 (U x0)) (h1 : φ x0)
      (step : ∀ x, φ x → Dt (sumP Φ fun s => ∃ x', nrm m ks vl s = some (updS s0 (U x')) ∧ φ x' ∧ μ x' < μ x) (bodyD body (updS s0 (U x)) Kf))
def loopDQ {α : Type} (Φ : α → Prop) (m : Nat) (vl : List Vt) (body : St → (Exit → St → Prop) → Prop) (st : St) (Kf : (α → Prop) → Exit → St → Prop) (ks : List Nat) : Prop :=
  match nrm m ks vl st with
  | some s0 => LoopDR Φ m ks vl body s0 Kf
  | none => False
theorem dt_loop_start (ds : List Nat) (vl : List Vt) {m : Nat} {body : St → (Exit → St → Prop) → Prop} {st : St} {Kf : (α → Prop) → Exit → St → Prop} (h : loopDQ Φ m vl body st Kf (minus ds (tkeys st.tm))) : Dt Φ (fun Q => LoopP m body st (Kf Q)) := by
  unfold loopDQ at h
  split at h
  · rename_i s0 h0
    obtain ⟨X, U, φ, μ, x0, e0, h1, step⟩ := h
    exact dt_loop _ vl (fun x => updS s0 (U x)) φ μ x0 (by rw [h0, ← e0]) h1 step
  · exact h.elim
end
end Go.TL

/- TlTab -/
namespace Go.TL.Tryz
open Go Go.TL
def tab : Tab := (.node (.node (.node (.node (.node (.node (.node (.node .leaf 0 ⟨.tuple [], 1, false, 0, none⟩ .leaf) 1 ⟨.other, 1, false, 8, some [.any]⟩ (.node .leaf 2 ⟨.int .i64, 1, false, 8, some [.t (.int .i64 0)]⟩ .leaf)) 3 ⟨.int .i64, 1, false, 8, some [.t (.int .i64 0)]⟩ (.node (.node .leaf 4 ⟨.bool, 1, false, 1, some [.t (.bool false)]⟩ .leaf) 5 ⟨.int .u8, 1, false, 1, some [.t (.int .u8 0)]⟩ .leaf)) 6 ⟨.int .u8, 1, false, 1, some [.t (.int .u8 0)]⟩ (.node (.node (.node .leaf 7 ⟨.struct [(0, 2), (1, 3), (2, 4), (3, 6)], 4, true, 24, some [.t (.int .i64 0), .t (.int .i64 0), .t (.bool false), .t (.int .u8 0)]⟩ .leaf) 8 ⟨.struct [(0, 2), (1, 3), (2, 4), (3, 6)], 4, true, 24, some [.t (.int .i64 0), .t (.int .i64 0), .t (.bool false), .t (.int .u8 0)]⟩ .leaf) 9 ⟨.str, 1, false, 16, some [.t (.str [])]⟩ (.node (.node .leaf 10 ⟨.str, 1, false, 16, some [.t (.str [])]⟩ .leaf) 11 ⟨.str, 1, false, 16, some [.t (.str [])]⟩ .leaf))) 12 ⟨.int .u64, 1, false, 8, some [.t (.int .u64 0)]⟩ (.node (.node (.node (.node .leaf 13 ⟨.struct [(0, 9), (1, 12)], 2, true, 24, some [.t (.str []), .t (.int .u64 0)]⟩ .leaf) 14 ⟨.struct [(0, 9), (1, 12)], 2, true, 24, some [.t (.str []), .t (.int .u64 0)]⟩ .leaf) 15 ⟨.other, 1, false, 8, none⟩ (.node (.node .leaf 16 ⟨.other, 1, false, 8, none⟩ .leaf) 17 ⟨.other, 1, false, 8, none⟩ .leaf)) 18 ⟨.struct [(0, 17)], 1, true, 8, none⟩ (.node (.node (.node .leaf 19 ⟨.struct [(0, 17)], 1, true, 8, none⟩ .leaf) 21 ⟨.int .i32, 1, false, 4, some [.t (.int .i32 0)]⟩ .leaf) 22 ⟨.slice 43, 1, false, 24, some [.nil]⟩ (.node (.node .leaf 23 ⟨.struct [(0, 22)], 1, true, 24, some [.nil]⟩ .leaf) 24 ⟨.struct [(0, 22)], 1, true, 24, some [.nil]⟩ .leaf)))) 25 ⟨.slice 112, 1, false, 24, some [.nil]⟩ (.node (.node (.node (.node (.node .leaf 26 ⟨.struct [(0, 24), (1, 25)], 2, true, 48, some [.nil, .nil]⟩ .leaf) 27 ⟨.struct [(0, 24), (1, 25)], 2, true, 48, some [.nil, .nil]⟩ .leaf) 28 ⟨.slice 81, 1, false, 24, some [.nil]⟩ (.node (.node .leaf 29 ⟨.struct [(0, 3), (1, 27), (3, 27), (5, 28)], 6, true, 128, some [.t (.int .i64 0), .nil, .nil, .nil, .nil, .nil]⟩ .leaf) 30 ⟨.struct [(0, 3), (1, 27), (3, 27), (5, 28)], 6, true, 128, some [.t (.int .i64 0), .nil, .nil, .nil, .nil, .nil]⟩ .leaf)) 31 ⟨.other, 1, false, 8, some [.any]⟩ (.node (.node (.node .leaf 32 ⟨.other, 1, false, 8, some [.any]⟩ .leaf) 33 ⟨.struct [(0, 22)], 1, true, 24, some [.nil]⟩ .leaf) 34 ⟨.slice 61, 1, false, 24, some [.nil]⟩ (.node (.node .leaf 35 ⟨.struct [(0, 33), (1, 34)], 2, true, 48, some [.nil, .nil]⟩ .leaf) 36 ⟨.struct [(0, 33), (1, 34)], 2, true, 48, some [.nil, .nil]⟩ .leaf))) 37 ⟨.slice 45, 1, false, 24, some [.nil]⟩ (.node (.node (.node (.node .leaf 38 ⟨.struct [(0, 3), (1, 36), (3, 36), (5, 37)], 6, true, 128, some [.t (.int .i64 0), .nil, .nil, .nil, .nil, .nil]⟩ .leaf) 39 ⟨.struct [(0, 3), (1, 36), (3, 36), (5, 37)], 6, true, 128, some [.t (.int .i64 0), .nil, .nil, .nil, .nil, .nil]⟩ .leaf) 40 ⟨.other, 1, false, 8, some [.any]⟩ (.node (.node .leaf 41 ⟨.other, 1, false, 8, some [.any]⟩ .leaf) 42 ⟨.other, 1, false, 8, some [.any]⟩ .leaf)) 43 ⟨.slice 5, 1, false, 24, some [.nil]⟩ (.node (.node (.node .leaf 44 ⟨.struct [(0, 3), (1, 43), (2, 43), (3, 3), (4, 4)], 5, true, 72, some [.t (.int .i64 0), .nil, .nil, .t (.int .i64 0), .t (.bool false)]⟩ .leaf) 45 ⟨.struct [(0, 3), (1, 43), (2, 43), (3, 3), (4, 4)], 5, true, 72, some [.t (.int .i64 0), .nil, .nil, .t (.int .i64 0), .t (.bool false)]⟩ .leaf) 46 ⟨.tuple [45, 4], 1, false, 0, none⟩ (.node (.node .leaf 47 ⟨.other, 1, false, 8, some [.any]⟩ .leaf) 48 ⟨.other, 1, false, 8, some [.any]⟩ .leaf))))) 49 ⟨.other, 1, false, 8, some [.any]⟩ (.node (.node (.node (.node (.node (.node .leaf 50 ⟨.other, 1, false, 8, some [.any]⟩ .leaf) 51 ⟨.other, 1, false, 8, some [.any]⟩ (.node .leaf 52 ⟨.other, 1, false, 8, some [.any]⟩ .leaf)) 53 ⟨.other, 1, false, 8, some [.any]⟩ (.node (.node .leaf 54 ⟨.other, 1, false, 8, some [.any]⟩ .leaf) 55 ⟨.other, 1, false, 8, some [.any]⟩ .leaf)) 56 ⟨.other, 1, false, 8, some [.any]⟩ (.node (.node (.node .leaf 57 ⟨.other, 1, false, 8, some [.any]⟩ .leaf) 58 ⟨.other, 1, false, 8, some [.any]⟩ .leaf) 59 ⟨.slice 3, 1, false, 24, some [.nil]⟩ (.node (.node .leaf 60 ⟨.struct [(0, 33), (1, 3), (2, 3), (3, 3), (4, 33), (5, 43), (6, 59)], 7, true, 120, some [.nil, .t (.int .i64 0), .t (.int .i64 0), .t (.int .i64 0), .nil, .nil, .nil]⟩ .leaf) 61 ⟨.struct [(0, 33), (1, 3), (2, 3), (3, 3), (4, 33), (5, 43), (6, 59)], 7, true, 120, some [.nil, .t (.int .i64 0), .t (.int .i64 0), .t (.int .i64 0), .nil, .nil, .nil]⟩ .leaf))) 62 ⟨.other, 1, false, 8, some [.any]⟩ (.node (.node (.node (.node .leaf 63 ⟨.other, 1, false, 8, some [.any]⟩ .leaf) 64 ⟨.other, 1, false, 8, some [.any]⟩ .leaf) 65 ⟨.other, 1, false, 8, some [.any]⟩ (.node (.node .leaf 66 ⟨.other, 1, false, 8, some [.any]⟩ .leaf) 67 ⟨.other, 1, false, 8, some [.any]⟩ .leaf)) 68 ⟨.other, 1, false, 8, some [.any]⟩ (.node (.node (.node .leaf 69 ⟨.other, 1, false, 8, some [.any]⟩ .leaf) 70 ⟨.other, 1, false, 8, some [.any]⟩ .leaf) 71 ⟨.other, 1, false, 8, some [.any]⟩ (.node (.node .leaf 72 ⟨.other, 1, false, 8, some [.any]⟩ .leaf) 73 ⟨.other, 1, false, 8, some [.any]⟩ .leaf)))) 74 ⟨.other, 1, false, 8, some [.any]⟩ (.node (.node (.node (.node (.node .leaf 75 ⟨.other, 1, false, 8, some [.any]⟩ .leaf) 76 ⟨.other, 1, false, 8, some [.any]⟩ .leaf) 77 ⟨.other, 1, false, 8, some [.any]⟩ (.node (.node .leaf 78 ⟨.other, 1, false, 8, some [.any]⟩ .leaf) 79 ⟨.other, 1, false, 8, some [.any]⟩ .leaf)) 80 ⟨.other, 1, false, 8, some [.any]⟩ (.node (.node (.node .leaf 81 ⟨.struct [(0, 3), (1, 43), (2, 43), (3, 3), (4, 4)], 5, true, 72, some [.t (.int .i64 0), .nil, .nil, .t (.int .i64 0), .t (.bool false)]⟩ .leaf) 82 ⟨.other, 1, false, 8, some [.any]⟩ .leaf) 83 ⟨.other, 1, false, 8, some [.any]⟩ (.node (.node .leaf 84 ⟨.other, 1, false, 8, some [.any]⟩ .leaf) 85 ⟨.other, 1, false, 8, some [.any]⟩ .leaf))) 86 ⟨.other, 1, false, 8, some [.any]⟩ (.node (.node (.node (.node .leaf 87 ⟨.other, 1, false, 8, some [.any]⟩ .leaf) 88 ⟨.other, 1, false, 8, some [.any]⟩ .leaf) 89 ⟨.other, 1, false, 8, some [.any]⟩ (.node (.node .leaf 90 ⟨.other, 1, false, 8, some [.any]⟩ .leaf) 91 ⟨.other, 1, false, 8, some [.any]⟩ .leaf)) 92 ⟨.other, 1, false, 8, some [.any]⟩ (.node (.node (.node .leaf 93 ⟨.other, 1, false, 8, some [.any]⟩ .leaf) 94 ⟨.other, 1, false, 8, some [.any]⟩ .leaf) 95 ⟨.other, 1, false, 8, some [.any]⟩ (.node (.node .leaf 96 ⟨.other, 1, false, 8, some [.any]⟩ .leaf) 97 ⟨.other, 1, false, 8, some [.any]⟩ .leaf)))))) 98 ⟨.other, 1, false, 8, some [.any]⟩ (.node (.node (.node (.node (.node (.node (.node .leaf 99 ⟨.other, 1, false, 8, some [.any]⟩ .leaf) 100 ⟨.other, 1, false, 8, some [.any]⟩ (.node .leaf 101 ⟨.other, 1, false, 8, some [.any]⟩ .leaf)) 102 ⟨.other, 1, false, 8, some [.any]⟩ (.node (.node .leaf 103 ⟨.other, 1, false, 8, some [.any]⟩ .leaf) 104 ⟨.other, 1, false, 8, some [.any]⟩ .leaf)) 105 ⟨.other, 1, false, 8, some [.any]⟩ (.node (.node (.node .leaf 106 ⟨.other, 1, false, 8, some [.any]⟩ .leaf) 107 ⟨.other, 1, false, 8, some [.any]⟩ .leaf) 108 ⟨.other, 1, false, 8, some [.any]⟩ (.node (.node .leaf 109 ⟨.other, 1, false, 8, some [.any]⟩ .leaf) 110 ⟨.other, 1, false, 8, some [.any]⟩ .leaf))) 111 ⟨.struct [(0, 24), (1, 3), (2, 3), (3, 3), (4, 24), (5, 43), (6, 59)], 7, true, 120, some [.nil, .t (.int .i64 0), .t (.int .i64 0), .t (.int .i64 0), .nil, .nil, .nil]⟩ (.node (.node (.node (.node .leaf 112 ⟨.struct [(0, 24), (1, 3), (2, 3), (3, 3), (4, 24), (5, 43), (6, 59)], 7, true, 120, some [.nil, .t (.int .i64 0), .t (.int .i64 0), .t (.int .i64 0), .nil, .nil, .nil]⟩ .leaf) 113 ⟨.other, 1, false, 8, some [.any]⟩ .leaf) 114 ⟨.other, 1, false, 8, some [.any]⟩ (.node (.node .leaf 115 ⟨.tuple [33, 4], 1, false, 0, none⟩ .leaf) 116 ⟨.other, 1, false, 8, some [.any]⟩ .leaf)) 117 ⟨.other, 1, false, 8, some [.any]⟩ (.node (.node (.node .leaf 118 ⟨.other, 1, false, 8, some [.any]⟩ .leaf) 119 ⟨.other, 1, false, 8, some [.any]⟩ .leaf) 120 ⟨.other, 1, false, 8, some [.any]⟩ (.node (.node .leaf 121 ⟨.other, 1, false, 8, some [.any]⟩ .leaf) 122 ⟨.other, 1, false, 8, some [.any]⟩ .leaf)))) 123 ⟨.other, 1, false, 8, some [.any]⟩ (.node (.node (.node (.node (.node .leaf 124 ⟨.other, 1, false, 8, some [.any]⟩ .leaf) 125 ⟨.slice 9, 1, false, 24, some [.nil]⟩ .leaf) 126 ⟨.other, 1, false, 8, some [.any]⟩ (.node (.node .leaf 127 ⟨.other, 1, false, 8, some [.any]⟩ .leaf) 128 ⟨.other, 1, false, 8, some [.any]⟩ .leaf)) 129 ⟨.other, 1, false, 8, some [.any]⟩ (.node (.node (.node .leaf 130 ⟨.other, 1, false, 8, some [.any]⟩ .leaf) 131 ⟨.other, 1, false, 8, some [.any]⟩ .leaf) 132 ⟨.other, 1, false, 8, some [.any]⟩ (.node (.node .leaf 133 ⟨.other, 1, false, 8, some [.any]⟩ .leaf) 134 ⟨.other, 1, false, 8, some [.any]⟩ .leaf))) 135 ⟨.other, 1, false, 8, some [.any]⟩ (.node (.node (.node (.node .leaf 136 ⟨.other, 1, false, 8, some [.any]⟩ .leaf) 137 ⟨.other, 1, false, 8, some [.any]⟩ .leaf) 138 ⟨.int .u32, 1, false, 4, some [.t (.int .u32 0)]⟩ (.node (.node .leaf 139 ⟨.array 8 138, 8, true, 32, some [.t (.int .u32 0), .t (.int .u32 0), .t (.int .u32 0), .t (.int .u32 0), .t (.int .u32 0), .t (.int .u32 0), .t (.int .u32 0), .t (.int .u32 0)]⟩ .leaf) 140 ⟨.other, 1, false, 8, some [.any]⟩ .leaf)) 141 ⟨.other, 1, false, 8, some [.any]⟩ (.node (.node (.node .leaf 142 ⟨.int .u64, 1, false, 8, some [.t (.int .u64 0)]⟩ .leaf) 143 ⟨.other, 1, false, 8, some [.any]⟩ .leaf) 144 ⟨.other, 1, false, 8, some [.any]⟩ (.node (.node .leaf 145 ⟨.other, 1, false, 8, none⟩ .leaf) 146 ⟨.slice 138, 1, false, 24, some [.nil]⟩ .leaf))))) 147 ⟨.struct [(0, 146), (1, 139)], 9, true, 56, some [.nil, .t (.int .u32 0), .t (.int .u32 0), .t (.int .u32 0), .t (.int .u32 0), .t (.int .u32 0), .t (.int .u32 0), .t (.int .u32 0), .t (.int .u32 0)]⟩ (.node (.node (.node (.node (.node (.node .leaf 148 ⟨.struct [(0, 146), (1, 139)], 9, true, 56, some [.nil, .t (.int .u32 0), .t (.int .u32 0), .t (.int .u32 0), .t (.int .u32 0), .t (.int .u32 0), .t (.int .u32 0), .t (.int .u32 0), .t (.int .u32 0)]⟩ .leaf) 149 ⟨.slice 151, 1, false, 24, some [.nil]⟩ (.node .leaf 150 ⟨.other, 1, false, 8, some [.any]⟩ .leaf)) 151 ⟨.int .u64, 1, false, 8, some [.t (.int .u64 0)]⟩ (.node (.node .leaf 152 ⟨.other, 1, false, 8, some [.any]⟩ .leaf) 153 ⟨.other, 1, false, 8, some [.any]⟩ .leaf)) 154 ⟨.other, 1, false, 8, some [.any]⟩ (.node (.node (.node .leaf 155 ⟨.other, 1, false, 8, some [.any]⟩ .leaf) 156 ⟨.array 64 138, 64, true, 256, some [.t (.int .u32 0), .t (.int .u32 0), .t (.int .u32 0), .t (.int .u32 0), .t (.int .u32 0), .t (.int .u32 0), .t (.int .u32 0), .t (.int .u32 0), .t (.int .u32 0), .t (.int .u32 0), .t (.int .u32 0), .t (.int .u32 0), .t (.int .u32 0), .t (.int .u32 0), .t (.int .u32 0), .t (.int .u32 0), .t (.int .u32 0), .t (.int .u32 0), .t (.int .u32 0), .t (.int .u32 0), .t (.int .u32 0), .t (.int .u32 0), .t (.int .u32 0), .t (.int .u32 0), .t (.int .u32 0), .t (.int .u32 0), .t (.int .u32 0), .t (.int .u32 0), .t (.int .u32 0), .t (.int .u32 0), .t (.int .u32 0), .t (.int .u32 0), .t (.int .u32 0), .t (.int .u32 0), .t (.int .u32 0), .t (.int .u32 0), .t (.int .u32 0), .t (.int .u32 0), .t (.int .u32 0), .t (.int .u32 0), .t (.int .u32 0), .t (.int .u32 0), .t (.int .u32 0), .t (.int .u32 0), .t (.int .u32 0), .t (.int .u32 0), .t (.int .u32 0), .t (.int .u32 0), .t (.int .u32 0), .t (.int .u32 0), .t (.int .u32 0), .t (.int .u32 0), .t (.int .u32 0), .t (.int .u32 0), .t (.int .u32 0), .t (.int .u32 0), .t (.int .u32 0), .t (.int .u32 0), .t (.int .u32 0), .t (.int .u32 0), .t (.int .u32 0), .t (.int .u32 0), .t (.int .u32 0), .t (.int .u32 0)]⟩ .leaf) 157 ⟨.other, 1, false, 8, some [.any]⟩ (.node (.node .leaf 158 ⟨.other, 1, false, 8, some [.any]⟩ .leaf) 159 ⟨.other, 1, false, 8, some [.any]⟩ .leaf))) 161 ⟨.other, 1, false, 8, some [.any]⟩ (.node (.node (.node (.node .leaf 162 ⟨.other, 1, false, 8, some [.any]⟩ .leaf) 163 ⟨.other, 1, false, 8, some [.any]⟩ .leaf) 164 ⟨.other, 1, false, 8, some [.any]⟩ (.node (.node .leaf 165 ⟨.tuple [3, 3], 1, false, 0, none⟩ .leaf) 166 ⟨.other, 1, false, 8, some [.any]⟩ .leaf)) 167 ⟨.other, 1, false, 8, some [.any]⟩ (.node (.node (.node .leaf 168 ⟨.tuple [151, 151], 1, false, 0, none⟩ .leaf) 169 ⟨.other, 1, false, 8, some [.any]⟩ .leaf) 170 ⟨.other, 1, false, 8, some [.any]⟩ (.node (.node .leaf 171 ⟨.other, 1, false, 8, some [.any]⟩ .leaf) 172 ⟨.array 24 5, 24, true, 24, some [.t (.int .u8 0), .t (.int .u8 0), .t (.int .u8 0), .t (.int .u8 0), .t (.int .u8 0), .t (.int .u8 0), .t (.int .u8 0), .t (.int .u8 0), .t (.int .u8 0), .t (.int .u8 0), .t (.int .u8 0), .t (.int .u8 0), .t (.int .u8 0), .t (.int .u8 0), .t (.int .u8 0), .t (.int .u8 0), .t (.int .u8 0), .t (.int .u8 0), .t (.int .u8 0), .t (.int .u8 0), .t (.int .u8 0), .t (.int .u8 0), .t (.int .u8 0), .t (.int .u8 0)]⟩ .leaf)))) 173 ⟨.other, 1, false, 8, some [.any]⟩ (.node (.node (.node (.node (.node .leaf 174 ⟨.other, 1, false, 8, some [.any]⟩ .leaf) 175 ⟨.tuple [43, 9], 1, false, 0, none⟩ .leaf) 176 ⟨.other, 1, false, 8, some [.any]⟩ (.node (.node .leaf 177 ⟨.other, 1, false, 8, some [.any]⟩ .leaf) 178 ⟨.array 20 151, 20, true, 160, some [.t (.int .u64 0), .t (.int .u64 0), .t (.int .u64 0), .t (.int .u64 0), .t (.int .u64 0), .t (.int .u64 0), .t (.int .u64 0), .t (.int .u64 0), .t (.int .u64 0), .t (.int .u64 0), .t (.int .u64 0), .t (.int .u64 0), .t (.int .u64 0), .t (.int .u64 0), .t (.int .u64 0), .t (.int .u64 0), .t (.int .u64 0), .t (.int .u64 0), .t (.int .u64 0), .t (.int .u64 0)]⟩ .leaf)) 179 ⟨.array 65 5, 65, true, 65, some [.t (.int .u8 0), .t (.int .u8 0), .t (.int .u8 0), .t (.int .u8 0), .t (.int .u8 0), .t (.int .u8 0), .t (.int .u8 0), .t (.int .u8 0), .t (.int .u8 0), .t (.int .u8 0), .t (.int .u8 0), .t (.int .u8 0), .t (.int .u8 0), .t (.int .u8 0), .t (.int .u8 0), .t (.int .u8 0), .t (.int .u8 0), .t (.int .u8 0), .t (.int .u8 0), .t (.int .u8 0), .t (.int .u8 0), .t (.int .u8 0), .t (.int .u8 0), .t (.int .u8 0), .t (.int .u8 0), .t (.int .u8 0), .t (.int .u8 0), .t (.int .u8 0), .t (.int .u8 0), .t (.int .u8 0), .t (.int .u8 0), .t (.int .u8 0), .t (.int .u8 0), .t (.int .u8 0), .t (.int .u8 0), .t (.int .u8 0), .t (.int .u8 0), .t (.int .u8 0), .t (.int .u8 0), .t (.int .u8 0), .t (.int .u8 0), .t (.int .u8 0), .t (.int .u8 0), .t (.int .u8 0), .t (.int .u8 0), .t (.int .u8 0), .t (.int .u8 0), .t (.int .u8 0), .t (.int .u8 0), .t (.int .u8 0), .t (.int .u8 0), .t (.int .u8 0), .t (.int .u8 0), .t (.int .u8 0), .t (.int .u8 0), .t (.int .u8 0), .t (.int .u8 0), .t (.int .u8 0), .t (.int .u8 0), .t (.int .u8 0), .t (.int .u8 0), .t (.int .u8 0), .t (.int .u8 0), .t (.int .u8 0), .t (.int .u8 0)]⟩ (.node (.node (.node .leaf 180 ⟨.other, 1, false, 8, some [.any]⟩ .leaf) 181 ⟨.other, 1, false, 8, some [.any]⟩ .leaf) 182 ⟨.array 32 5, 32, true, 32, some [.t (.int .u8 0), .t (.int .u8 0), .t (.int .u8 0), .t (.int .u8 0), .t (.int .u8 0), .t (.int .u8 0), .t (.int .u8 0), .t (.int .u8 0), .t (.int .u8 0), .t (.int .u8 0), .t (.int .u8 0), .t (.int .u8 0), .t (.int .u8 0), .t (.int .u8 0), .t (.int .u8 0), .t (.int .u8 0), .t (.int .u8 0), .t (.int .u8 0), .t (.int .u8 0), .t (.int .u8 0), .t (.int .u8 0), .t (.int .u8 0), .t (.int .u8 0), .t (.int .u8 0), .t (.int .u8 0), .t (.int .u8 0), .t (.int .u8 0), .t (.int .u8 0), .t (.int .u8 0), .t (.int .u8 0), .t (.int .u8 0), .t (.int .u8 0)]⟩ (.node (.node .leaf 183 ⟨.array 64 5, 64, true, 64, some [.t (.int .u8 0), .t (.int .u8 0), .t (.int .u8 0), .t (.int .u8 0), .t (.int .u8 0), .t (.int .u8 0), .t (.int .u8 0), .t (.int .u8 0), .t (.int .u8 0), .t (.int .u8 0), .t (.int .u8 0), .t (.int .u8 0), .t (.int .u8 0), .t (.int .u8 0), .t (.int .u8 0), .t (.int .u8 0), .t (.int .u8 0), .t (.int .u8 0), .t (.int .u8 0), .t (.int .u8 0), .t (.int .u8 0), .t (.int .u8 0), .t (.int .u8 0), .t (.int .u8 0), .t (.int .u8 0), .t (.int .u8 0), .t (.int .u8 0), .t (.int .u8 0), .t (.int .u8 0), .t (.int .u8 0), .t (.int .u8 0), .t (.int .u8 0), .t (.int .u8 0), .t (.int .u8 0), .t (.int .u8 0), .t (.int .u8 0), .t (.int .u8 0), .t (.int .u8 0), .t (.int .u8 0), .t (.int .u8 0), .t (.int .u8 0), .t (.int .u8 0), .t (.int .u8 0), .t (.int .u8 0), .t (.int .u8 0), .t (.int .u8 0), .t (.int .u8 0), .t (.int .u8 0), .t (.int .u8 0), .t (.int .u8 0), .t (.int .u8 0), .t (.int .u8 0), .t (.int .u8 0), .t (.int .u8 0), .t (.int .u8 0), .t (.int .u8 0), .t (.int .u8 0), .t (.int .u8 0), .t (.int .u8 0), .t (.int .u8 0), .t (.int .u8 0), .t (.int .u8 0), .t (.int .u8 0), .t (.int .u8 0)]⟩ .leaf) 184 ⟨.other, 1, false, 8, some [.any]⟩ .leaf))) 185 ⟨.struct [(0, 17), (1, 17), (2, 17), (3, 9)], 4, true, 40, none⟩ (.node (.node (.node (.node .leaf 186 ⟨.struct [(0, 17), (1, 17), (2, 17), (3, 9)], 4, true, 40, none⟩ .leaf) 187 ⟨.array 0 16, 0, true, 0, some []⟩ .leaf) 190 ⟨.other, 1, false, 8, some [.any]⟩ (.node (.node .leaf 191 ⟨.int .u8, 1, false, 1, some [.t (.int .u8 0)]⟩ .leaf) 192 ⟨.int .u8, 1, false, 1, some [.t (.int .u8 0)]⟩ .leaf)) 193 ⟨.other, 1, false, 8, some [.any]⟩ (.node (.node (.node .leaf 194 ⟨.other, 1, false, 8, none⟩ .leaf) 195 ⟨.int .i32, 1, false, 4, some [.t (.int .i32 0)]⟩ .leaf) 196 ⟨.int .i32, 1, false, 4, some [.t (.int .i32 0)]⟩ (.node (.node .leaf 197 ⟨.struct [(0, 12), (1, 12), (2, 138), (3, 191), (4, 5), (5, 5), (6, 192), (7, 193), (8, 194), (9, 195), (10, 196)], 11, true, 48, none⟩ .leaf) 198 ⟨.struct [(0, 12), (1, 12), (2, 138), (3, 191), (4, 5), (5, 5), (6, 192), (7, 193), (8, 194), (9, 195), (10, 196)], 11, true, 48, none⟩ .leaf)))))))
def tf (n : Nat) : Option TI := tab.find n
def v2 : List Nat := []
def v3 : List Nat := [0, 1, 2, 3, 4, 5, 6, 11, 21, 26]
def v4 : List Nat := [0, 1, 2, 4, 5, 6, 7, 8, 9, 10, 11, 12, 13, 14, 15, 20, 44, 49, 65, 73, 76, 92, 97, 100]
def v5 : List Nat := [0, 1, 2, 4, 10, 16, 22]
def v6 : List Nat := [0, 1, 2, 3, 4, 46, 51, 79, 105]
def v7 : List Nat := [0, 1, 2, 3]
def v8 : List Nat := [0, 1, 2, 3, 4, 42, 44, 45, 46, 47, 97]
def v9 : List Nat := [0, 1, 2, 3, 4, 9, 15, 21, 27]
def v10 : List Nat := [0, 1, 2, 4, 5, 6, 9, 15]
def v11 : List Nat := [0, 1, 2, 4, 5, 6, 16]
def v12 : List Nat := [0, 1, 2, 3, 4, 9, 15, 21, 26, 31]
def v13 : List Nat := [0, 1, 2, 4]
def v14 : List Nat := [0, 1, 2, 4]
def v15 : List Nat := [0, 1, 2, 4, 10, 16]
def v16 : List Nat := [0, 1, 2, 4, 10, 16]
def v17 : List Nat := [0, 1, 4, 5, 11, 15, 25]
def v18 : List Nat := [0, 1, 2, 3, 4, 5, 15, 20, 60, 63, 71]
def v19 : List Nat := [0, 1, 2, 3, 4, 5, 6, 18, 41, 49, 56]
def v20 : List Nat := [0]
def v21 : List Nat := [0]
def v22 : List Nat := [0, 1, 2, 4]
def v23 : List Nat := [0, 1, 2, 3, 4]
def v24 : List Nat := [0, 1, 2]
def v25 : List Nat := [0, 1, 2, 3]
def v26 : List Nat := [0, 1, 2]
def v27 : List Nat := [0, 1, 2, 3]
def v28 : List Nat := [0, 2, 3, 4, 11]
def v29 : List Nat := [0, 1, 2, 6]
def v30 : List Nat := [0, 1, 2, 3, 4, 5, 21, 23, 24, 25, 26, 50, 53, 61, 72]
def v31 : List Nat := [0, 1, 2, 3, 4]
def v32 : List Nat := [0]
def v33 : List Nat := [0]
def v34 : List Nat := [0, 1, 2, 4]
def v35 : List Nat := [0, 1, 2, 3, 4]
def v36 : List Nat := [0, 1, 2]
def v37 : List Nat := [0, 1, 2]
def v38 : List Nat := [0, 1, 2]
def v39 : List Nat := [0, 1, 2, 3, 4, 10, 16]
def v40 : List Nat := [0, 1, 4, 5, 10, 14, 26]
def v41 : List Nat := [0, 1, 2, 4, 5, 10, 20]
def v42 : List Nat := [0, 1, 2, 3, 4, 5, 19]
def v43 : List Nat := [0, 1, 2, 3, 4]
def v44 : List Nat := [0, 1, 2]
def v45 : List Nat := [0, 1, 4, 5, 10, 14, 25]
def v46 : List Nat := [0, 1, 2, 4]
def v47 : List Nat := [0, 1, 4, 5, 9]
def v48 : List Nat := [0, 1, 4, 5, 9]
def v49 : List Nat := [0, 1, 4, 5, 9, 18]
def v50 : List Nat := [0, 1, 2, 4, 10]
def v51 : List Nat := [0, 1, 4, 5, 11, 15, 25]
def v52 : List Nat := [0, 1, 2, 4, 10, 16]
def v53 : List Nat := [0, 1, 2, 3, 7, 12, 21]
def v54 : List Nat := [0, 1, 2]
def v55 : List Nat := [0, 1, 2, 3, 4, 5]
def v56 : List Nat := [0, 1, 2, 3, 4, 5, 12, 19]
def v57 : List Nat := [0, 1, 4, 5, 11, 15, 34]
def v58 : List Nat := [0, 1, 4, 9, 14]
def v59 : List Nat := [0, 2, 3]
def v60 : List Nat := [0, 2]
def v61 : List Nat := [0, 2]
def v62 : List Nat := [0, 2, 3, 11, 15, 52]
def v63 : List Nat := [0, 1, 3, 4, 5, 9, 18]
def v64 : List Nat := [0, 2]
def v65 : List Nat := [0, 1, 3, 4]
def v66 : List Nat := [0, 2, 3, 4, 6]
def v67 : List Nat := [0, 1, 2, 3]
def v68 : List Nat := [0, 2, 3, 4, 11]
def v69 : List Nat := [0, 1, 2, 3]
def v70 : List Nat := [0, 1, 2]
def v71 : List Nat := [0, 1, 3, 4]
def v72 : List Nat := [0, 1, 2, 3, 4, 5, 6, 22, 29]
def v73 : List Nat := [0, 1, 2, 3, 4]
def v74 : List Nat := [0, 1, 2, 3, 4, 5]
def v75 : List Nat := [0, 1, 2, 3, 4, 6, 7, 9, 12, 13, 14, 15, 31]
def v76 : List Nat := [0, 1, 2, 3, 4, 5, 6, 15, 38]
def v77 : List Nat := [0, 2, 3, 5, 7, 8, 9, 10]
def v78 : List Nat := [0, 2]
def v79 : List Nat := [0, 2]
def v80 : List Nat := [0, 2]
def v81 : List Nat := [0, 1, 4]
def v82 : List Nat := [0, 1, 4]
def v83 : List Nat := [0, 1, 2, 3, 4]
def v84 : List Nat := [0, 1, 2]
def v85 : List Nat := [0, 1, 3, 4]
def v86 : List Nat := [0, 2, 3]
def v87 : List Nat := [0, 1, 2, 3, 4, 10]
def v88 : List Nat := [0, 1, 4, 5, 10, 14, 26]
def v89 : List Nat := [0, 1, 2]
def v90 : List Nat := [0, 1, 4, 5, 7, 8, 9, 16]
def v91 : List Nat := [0, 1, 2, 3]
def v92 : List Nat := [0, 2, 4]
def v93 : List Nat := [0, 1, 2, 4]
def v94 : List Nat := [0, 1, 4, 5, 9]
def v95 : List Nat := [0, 1, 4, 5, 11, 15, 25]
def v96 : List Nat := [0, 1, 2, 4, 10, 16, 22, 28]
def v97 : List Nat := [0, 1, 4, 10]
def v98 : List Nat := [0, 2, 3, 4]
def v99 : List Nat := [0, 1, 2, 5, 13, 16, 19, 23, 28, 31, 35, 39, 42, 64]
def v100 : List Nat := [0, 1, 4, 7, 10]
def v101 : List Nat := [0, 1, 2, 3, 10, 27]
def v102 : List Nat := [0, 2, 3, 4, 5, 6, 9, 14, 27, 47, 57]
def v103 : List Nat := [0, 1, 2, 4]
def v104 : List Nat := [0, 2, 3, 4, 5, 6, 7, 8, 9, 18, 26, 41, 52]
def v105 : List Nat := [0, 1, 3, 4, 5, 10]
def v106 : List Nat := [0, 2, 4]
def v107 : List Nat := [0, 2, 3, 4, 11]
def v108 : List Nat := [0, 1, 2, 3]
def v109 : List Nat := [0, 2, 3, 4, 11]
def v110 : List Nat := [0, 1, 3, 4]
def v111 : List Nat := [0, 1, 2, 3]
def v112 : List Nat := [0, 2]
def v113 : List Nat := [0, 2]
def v114 : List Nat := [0, 2]
def v115 : List Nat := [0, 2]
def v116 : List Nat := [0, 2, 3, 5, 6, 7, 8, 9, 14]
def v117 : List Nat := [0, 1, 4, 5, 6, 11, 12, 13, 16, 19]
def v118 : List Nat := [0, 1, 4]
def v119 : List Nat := [0, 1, 2, 3, 5, 6, 13, 21, 22, 23, 24]
def v120 : List Nat := [0, 1, 2, 6, 7, 8, 9, 14, 15, 16, 17, 18, 30]
def v121 : List Nat := [0, 1, 4]
def v122 : List Nat := [0, 1, 3, 4]
def v123 : List Nat := [0, 2]
def v124 : List Nat := [0, 1, 4, 5, 7, 8, 9, 16]
def v125 : List Nat := [0, 1, 2, 4]
def v126 : List Nat := [0, 2, 3, 4, 5, 6, 7, 8, 10, 13, 14, 15, 16, 32, 48, 63, 77, 78, 79]
def v127 : List Nat := [0, 2, 3, 5, 6, 8, 9, 10, 11, 12, 20, 25, 26, 27, 28]
def v128 : List Nat := [0, 1, 2, 3, 5, 8, 9, 10, 11]
def v129 : List Nat := [0, 2, 3, 5, 8, 9, 10, 11]
def v130 : List Nat := [0, 2, 3, 9]
def v131 : List Nat := [0, 1, 4, 5, 10, 14, 26]
def v132 : List Nat := [0, 1, 2, 3, 4, 10, 15, 20, 25, 31, 37, 43]
def v133 : List Nat := [0, 1, 2, 3, 4, 9]
def v134 : List Nat := [0, 2, 3, 4, 8]
def v135 : List Nat := [0, 1, 4, 5, 9]
def v136 : List Nat := [0, 1, 4, 5, 9]
def v137 : List Nat := [0, 1, 4, 10]
def v138 : List Nat := [0, 2]
def v139 : List Nat := [0, 2]
def v140 : List Nat := [0, 1, 4, 5, 14]
def v141 : List Nat := [0, 2, 3, 4, 11, 25]
def v142 : List Nat := [0]
def v143 : List Nat := [0, 1, 2, 4, 5, 6, 7, 8, 9, 10, 11, 12, 13, 14, 15, 16, 17, 18, 19, 21, 60, 104, 194]
def v144 : List Nat := [0, 2, 3, 4, 11]
def v145 : List Nat := [0, 1, 4]
def v146 : List Nat := [0, 1, 3]
def v147 : List Nat := [0, 2]
def v148 : List Nat := [0, 2]
def v150 : List Nat := [0, 2]
def v151 : List Nat := [0, 1, 4]
def v152 : List Nat := [0, 1, 3]
def v153 : List Nat := [0, 1, 2, 3, 5, 8, 9, 10, 11]
def v154 : List Nat := [0, 2, 3, 4, 9, 15, 20]
def v155 : List Nat := [0, 1, 4, 5, 6, 8, 18]
def v156 : List Nat := [0, 1, 4, 5, 6, 8, 9, 10, 11, 12, 13, 14, 15, 16, 18, 19, 35, 88, 89, 187, 188]
def v157 : List Nat := [0, 1, 4, 6, 16]
def v158 : List Nat := [0, 2]
def v159 : List Nat := [0, 1, 4, 5, 10, 14, 25]
def v160 : List Nat := [0, 1, 2]
def v161 : List Nat := [0, 1, 4]
def v162 : List Nat := [0, 2, 3]
def v163 : List Nat := [0, 1, 4, 5, 7, 8, 9, 16]
def v164 : List Nat := [0, 2]
def v165 : List Nat := [0, 1, 4, 5, 7, 8, 9, 16]
def v166 : List Nat := [0, 1, 4]
def v167 : List Nat := [0, 1, 3]
def v168 : List Nat := [0, 1, 2, 6, 7, 8, 9, 10, 11, 12, 13, 21]
def v169 : List Nat := [0, 1, 2, 6, 7, 8, 10, 20, 26, 27, 28, 29]
def v170 : List Nat := [0, 1, 4]
def v171 : List Nat := [0, 1, 4, 5]
def v172 : List Nat := [0, 2]
def v173 : List Nat := [0, 1, 4, 5, 7, 8, 9, 16]
def v174 : List Nat := [0, 1, 4, 5, 6, 7, 8, 9, 10, 11, 12, 13]
def v176 : List Nat := [0, 1, 4, 5, 6, 7, 9, 11, 17, 23, 34]
def v177 : List Nat := [0, 2, 4]
def v178 : List Nat := [0, 2, 3]
def v179 : List Nat := [0, 1, 4, 5, 6, 7, 8, 9, 10, 11, 12, 13, 14, 15, 16, 20, 99, 139, 161]
def v180 : List Nat := [0, 1, 2, 3, 4, 10, 11, 12, 13, 14, 15, 16, 17, 18, 28, 30, 34, 46, 68, 89, 94]
def v181 : List Nat := [0, 2]
def v182 : List Nat := [0, 2, 4, 8, 14]
def v183 : List Nat := [0, 2, 3]
def v184 : List Nat := [0, 2]
def v185 : List Nat := [0, 2]
def v186 : List Nat := [0, 2, 4]
def v187 : List Nat := [0, 2, 4]
def v211 : List Nat := []
end Go.TL.Tryz

/- TfBase -/
namespace Go.TL.Tryz
open Go Go.TL Go.Proofs

def md (n : Nat) : Md := (bif leB n 67 then (bif leB n 28 then (bif leB n 24 then (bif leB n 20 then (bif leB n 7 then (bif eqB n 7 then ⟨[], false⟩ else ⟨[], true⟩) else (bif eqB n 20 then ⟨[], false⟩ else ⟨[], true⟩)) else (bif leB n 21 then (bif eqB n 21 then ⟨[], false⟩ else ⟨[], true⟩) else (bif eqB n 24 then ⟨[], false⟩ else ⟨[], true⟩))) else (bif leB n 26 then (bif leB n 25 then (bif eqB n 25 then ⟨[], false⟩ else ⟨[], true⟩) else (bif eqB n 26 then ⟨[], false⟩ else ⟨[], true⟩)) else (bif leB n 27 then (bif eqB n 27 then ⟨[], false⟩ else ⟨[], true⟩) else (bif eqB n 28 then ⟨[], false⟩ else ⟨[], true⟩)))) else (bif leB n 37 then (bif leB n 33 then (bif leB n 32 then (bif eqB n 32 then ⟨[], false⟩ else ⟨[], true⟩) else (bif eqB n 33 then ⟨[], false⟩ else ⟨[], true⟩)) else (bif leB n 36 then (bif eqB n 36 then ⟨[], false⟩ else ⟨[], true⟩) else (bif eqB n 37 then ⟨[], false⟩ else ⟨[], true⟩))) else (bif leB n 59 then (bif leB n 38 then (bif eqB n 38 then ⟨[], false⟩ else ⟨[], true⟩) else (bif eqB n 59 then ⟨[], false⟩ else ⟨[], true⟩)) else (bif leB n 64 then (bif eqB n 64 then ⟨[], false⟩ else ⟨[], true⟩) else (bif leB n 66 then (bif eqB n 66 then ⟨[], false⟩ else ⟨[], true⟩) else (bif eqB n 67 then ⟨[], false⟩ else ⟨[], true⟩)))))) else (bif leB n 103 then (bif leB n 77 then (bif leB n 69 then (bif leB n 68 then (bif eqB n 68 then ⟨[], false⟩ else ⟨[], true⟩) else (bif eqB n 69 then ⟨[], false⟩ else ⟨[], true⟩)) else (bif leB n 75 then (bif eqB n 75 then ⟨[], false⟩ else ⟨[], true⟩) else (bif eqB n 77 then ⟨[], false⟩ else ⟨[], true⟩))) else (bif leB n 86 then (bif leB n 84 then (bif eqB n 84 then ⟨[], false⟩ else ⟨[], true⟩) else (bif eqB n 86 then ⟨[], false⟩ else ⟨[], true⟩)) else (bif leB n 102 then (bif eqB n 102 then ⟨[], false⟩ else ⟨[], true⟩) else (bif eqB n 103 then ⟨[], false⟩ else ⟨[], true⟩)))) else (bif leB n 109 then (bif leB n 107 then (bif leB n 105 then (bif eqB n 105 then ⟨[some [(0, 1)]], true⟩ else ⟨[], true⟩) else (bif eqB n 107 then ⟨[], false⟩ else ⟨[], true⟩)) else (bif leB n 108 then (bif eqB n 108 then ⟨[], false⟩ else ⟨[], true⟩) else (bif eqB n 109 then ⟨[], false⟩ else ⟨[], true⟩))) else (bif leB n 144 then (bif leB n 125 then (bif eqB n 125 then ⟨[], false⟩ else ⟨[], true⟩) else (bif eqB n 144 then ⟨[], false⟩ else ⟨[], true⟩)) else (bif leB n 153 then (bif eqB n 153 then ⟨[], false⟩ else ⟨[], true⟩) else (bif leB n 156 then (bif eqB n 156 then ⟨[some []], false⟩ else ⟨[], true⟩) else (bif eqB n 157 then ⟨[some []], true⟩ else ⟨[], true⟩)))))))
/-- The program, as the walks know it. -/
structure Prg (P : Program) : Prop where
  eq : P = Tryz.prog
  mixed : P.follows .mixedOrders = true
  tab : TabOk P tf
set_option maxRecDepth 20000 in
theorem fn_at {P : Program} (h : Prg P) {f : Nat} {fn : Func} (hf : Tryz.prog.funcs[f]? = some fn) : P.funcs[f]? = some fn := by rw [h.eq]; exact hf


/-- What is to be shown on the side. -/
structure Side (p : Prop) : Prop where
  h : p
theorem and_side {A B : Prop} (h : Side A) (k : B) : A ∧ B := ⟨h.h, k⟩
theorem dt_side {α : Type} {Φ : α → Prop} {X : (α → Prop) → Prop} {c : Prop} (h : Side c) (k : Dt Φ X) : Dt Φ (fun Q => c ∧ X Q) := dt_and h.h k

theorem cast_ex (n : Nat) : ∃ i : Int, (n : Int) = i := ⟨_, rfl⟩
theorem encB_ex (l : List UInt8) : ∃ es, encB l = es := ⟨_, rfl⟩
theorem encB_len {l : List UInt8} {es : List (List T)} (h : encB l = es) : es.length = l.length := by subst h; simp [encB]
theorem enc_app {l m : List UInt8} {es fs : List (List T)} (h : encB l = es) (k : encB m = fs) : encB (l ++ m) = es ++ fs := by subst h; subst k; simp [encB]
theorem u8_i64 (y : UInt8) : IntKind.i64.wrap (y.toNat : Int) = y.toNat := wrap_id (by have := y.toNat_lt; simp [IntKind.has, IntKind.min, IntKind.max, IntKind.signed, IntKind.bits]; omega)
theorem addI {a b : Int} (h1 : -9223372036854775808 ≤ a + b) (h2 : a + b ≤ 9223372036854775807) : iopS .add .i64 a b = a + b := wrap_id (by simp [IntKind.has, IntKind.min, IntKind.max, IntKind.signed, IntKind.bits]; omega)
theorem subI {a b : Int} (h1 : -9223372036854775808 ≤ a - b) (h2 : a - b ≤ 9223372036854775807) : iopS .sub .i64 a b = a - b := wrap_id (by simp [IntKind.has, IntKind.min, IntKind.max, IntKind.signed, IntKind.bits]; omega)
theorem mulI {a b : Int} (h1 : -9223372036854775808 ≤ a * b) (h2 : a * b ≤ 9223372036854775807) : iopS .mul .i64 a b = a * b := wrap_id (by simp [IntKind.has, IntKind.min, IntKind.max, IntKind.signed, IntKind.bits]; omega)
/-- The byte of a number. -/
def byteOf (v : Int) : UInt8 := UInt8.ofNat (v % 256).toNat
theorem byteOf_wrap (v : Int) : ((byteOf v).toNat : Int) = IntKind.u8.wrap v := by
  have h : (v % 256).toNat < 256 := by omega
  simp only [byteOf, UInt8.toNat_ofNat', IntKind.wrap, IntKind.signed, IntKind.bits]
  simp
  omega
theorem enc_byteOf (v : Int) : encB [byteOf v] = [[.int .u8 (IntKind.u8.wrap v)]] := by simp [encB, byteOf_wrap]
theorem enc_one {x : UInt8} {xx : Int} (h : (x.toNat : Int) = xx) : encB [x] = [[.int .u8 xx]] := by subst h; rfl
theorem room_of {k : Nat} {es : List (List T)} (h : es.length * (k + 1) ≤ 70368744177664) : std.room k es := h
theorem wid_byte (l : List UInt8) : std.wid 1 (encB l) := by intro x hx; obtain ⟨y, _, rfl⟩ := List.mem_map.1 hx; rfl
theorem wid_one (t : T) : std.wid 1 [[t]] := by intro x hx; simp at hx; subst hx; rfl
/-- A byte as a number. -/
def iB (x : UInt8) : Int := x.toNat
theorem iB_lo (x : UInt8) : 0 ≤ iB x := Int.natCast_nonneg _
theorem iB_hi (x : UInt8) : iB x ≤ 255 := by have := x.toNat_lt; simp only [iB]; omega
theorem iB_byteOf {v : Int} (h : 0 ≤ v ∧ v ≤ 255) : iB (byteOf v) = v := by rw [iB, byteOf_wrap]; exact wrap_id (by simp [IntKind.has, IntKind.min, IntKind.max, IntKind.signed, IntKind.bits]; omega)
theorem byteOf_iB (x : UInt8) : byteOf (iB x) = x := by
  have := x.toNat_lt
  simp only [byteOf, iB]
  rw [Int.emod_eq_of_lt (by omega) (by omega)]
  simp
theorem iB_inj {x y : UInt8} (h : iB x = iB y) : x = y := by rw [← byteOf_iB x, h, byteOf_iB]
theorem encB_iB (l : List UInt8) : encB l = l.map fun x => [.int .u8 (iB x)] := rfl
theorem iB_wrap64 (x : UInt8) : IntKind.i64.wrap (iB x) = iB x := u8_i64 x
theorem enc_iB {x : UInt8} {xx : Int} (h : iB x = xx) : encB [x] = [[.int .u8 xx]] := by subst h; rfl
/-- An element of a list of bytes. -/
theorem get_byte {ar : Ar} (har : ar = std) {b : List UInt8} {es : List (List T)} {i : Int} {K : List T → Prop} (hes : encB b = es) (h : 0 ≤ i ∧ i.toNat < b.length)
    (k : ∀ (x : UInt8) (xx : Int), b[i.toNat]? = some x → iB x = xx → K [.int .u8 xx]) : GetP ar es i K := by
  have hl : i.toNat < b.length := h.2
  subst har; subst hes
  refine ⟨by simp [std, encB]; omega, ?_⟩
  have := k b[i.toNat] _ (List.getElem?_eq_getElem hl) rfl
  simpa [std, encB, hl, iB] using this
theorem get_at {ar : Ar} (har : ar = std) {b : List UInt8} {es : List (List T)} {i xx : Int} {x : UInt8} {K : List T → Prop} (hes : encB b = es) (hx : b[i.toNat]? = some x) (hxx : iB x = xx) (h : 0 ≤ i) (k : K [.int .u8 xx]) : GetP ar es i K :=
  get_byte har hes ⟨h, (List.getElem?_eq_some_iff.1 hx).1⟩ fun y yy h1 h2 => by rw [hx] at h1; injection h1 with h1; subst h1; rw [← h2, hxx]; exact k
theorem lt_len {ar : Ar} (har : ar = std) {es : List (List T)} {i : Int} (h : ar.icmp .lss i (ar.len es) = true) (h0 : 0 ≤ i) : i.toNat < es.length := by
  subst har; simp [std, icmpS] at h; omega
theorem ge_len {ar : Ar} (har : ar = std) {es : List (List T)} {i : Int} (h : ar.icmp .lss i (ar.len es) = false) (h0 : 0 ≤ i) : es.length ≤ i.toNat := by
  subst har; simp [std, icmpS] at h; omega
theorem get_lt {ar : Ar} (har : ar = std) {b : List UInt8} {es : List (List T)} {i : Int} {K : List T → Prop} (hes : encB b = es) (h : ar.icmp .lss i (ar.len es) = true) (h0 : 0 ≤ i)
    (k : ∀ (x : UInt8) (xx : Int), b[i.toNat]? = some x → iB x = xx → K [.int .u8 xx]) : GetP ar es i K :=
  get_byte har hes ⟨h0, by rw [← encB_len hes]; exact lt_len har h h0⟩ k
theorem bytes_intro {b : List UInt8} {es : List (List T)} {K : List UInt8 → Prop} (hes : encB b = es) (k : K b) : BytesP es K := ⟨b, hes.symm, k⟩

theorem enc_set {l : List UInt8} {es : List (List T)} (hes : encB l = es) {i : Nat} {y : UInt8} {yy : Int} (hy : iB y = yy) : es.modify i (fun e => setAt e 0 [.int .u8 yy]) = encB (l.set i y) := by
  subst hes; subst hy
  apply List.ext_getElem?
  intro j
  simp only [encB, List.getElem?_modify, List.getElem?_map, List.getElem?_set, List.length_map]
  by_cases h : i = j
  · subst h
    by_cases hi : i < l.length
    · simp [hi, setAt, iB]
    · simp [hi]
  · simp [h]
theorem side_inb {ar : Ar} (har : ar = std) {l : List UInt8} {es : List (List T)} (hes : encB l = es) {i : Int} {x : UInt8} (hx : l[i.toNat]? = some x) (h : 0 ≤ i) : Side (ar.inb i es) := by
  have hl := (List.getElem?_eq_some_iff.1 hx).1
  have := encB_len hes
  subst har
  exact ⟨by simp [std]; omega⟩
theorem app_nil {ar : Ar} (har : ar = std) (es : List (List T)) : ar.app [] es = es := by subst har; rfl
theorem side_app {ar : Ar} (har : ar = std) {l m : List UInt8} {es fs : List (List T)} (h : encB l = es) (k : encB m = fs) (hn : l.length + m.length ≤ 1000000000) : Side (ar.room 1 (ar.app es fs) ∧ ar.wid 1 fs) := by
  subst har; subst h; subst k
  exact ⟨by simp [std, encB]; omega, wid_byte m⟩
theorem side_new {ar : Ar} (har : ar = std) {m : List UInt8} {fs : List (List T)} (k : encB m = fs) (hn : m.length ≤ 1000000000) : Side (ar.room 1 fs ∧ ar.wid 1 fs) := by
  subst har; subst k
  exact ⟨by simp [std, encB]; omega, wid_byte m⟩
theorem side_app0 {ar : Ar} (har : ar = std) {m : List UInt8} {fs : List (List T)} (k : encB m = fs) (hn : m.length ≤ 1000000000) : Side (ar.room 1 (ar.app [] fs) ∧ ar.wid 1 fs) := by
  subst har; subst k
  exact ⟨by simp [std, encB]; omega, wid_byte m⟩
theorem side_one {ar : Ar} (har : ar = std) {l : List UInt8} {es : List (List T)} {t : T} (h : encB l = es) (hn : l.length ≤ 1000000000) : Side (ar.room 1 (ar.app es [[t]]) ∧ ar.wid 1 [[t]]) := by
  subst har; subst h
  exact ⟨by simp [std, encB]; omega, wid_one t⟩
theorem side_lt {ar : Ar} (har : ar = std) {es : List (List T)} {i : Int} (h : ar.icmp .lss i (ar.len es) = true) (h0 : 0 ≤ i) : Side (ar.inb i es) := by
  subst har; simp [std, icmpS] at h
  exact ⟨by simp [std]; omega⟩
theorem side_sh {ar : Ar} (har : ar = std) {n : Int} (h : 0 ≤ n) : Side (ar.shok n) := by subst har; exact ⟨h⟩
theorem side_flat {ar : Ar} (har : ar = std) {l : List UInt8} {es : List (List T)} (h : encB l = es) : Side (ar.flat es) := by
  subst har; subst h
  refine ⟨fun x hx t ht => ?_⟩
  obtain ⟨y, _, rfl⟩ := List.mem_map.1 hx
  simp at ht; subst ht; rfl
theorem side_sbig {ar : Ar} (har : ar = std) {s : List UInt8} (h : s.length ≤ 1000000000) : Side (ar.sbig s) := by subst har; exact ⟨by simp [std]; omega⟩
theorem get_str {ar : Ar} (har : ar = std) (m : Nat) {es : List (List T)} {i : Int} {K : List T → Prop} (h : 0 ≤ i ∧ i.toNat < es.length) (hall : ∀ e ∈ es, ∃ s, e = [.str s] ∧ s.length ≤ m) (k : ∀ s, s.length ≤ m → K [.str s]) : GetP ar es i K := by
  subst har
  refine ⟨by simp [std]; omega, ?_⟩
  obtain ⟨s, h1, h2⟩ := hall es[i.toNat] (List.getElem_mem h.2)
  have := k s h2
  rw [← h1] at this
  simpa [std, h.2] using this
theorem dt_get_str {α : Type} {Φ : α → Prop} {ar : Ar} (har : ar = std) (m : Nat) {es : List (List T)} {i : Int} {K : List T → (α → Prop) → Prop} (h : 0 ≤ i ∧ i.toNat < es.length) (hall : ∀ e ∈ es, ∃ s, e = [.str s] ∧ s.length ≤ m) (k : ∀ s, s.length ≤ m → Dt Φ (K [.str s])) : Dt Φ (fun Q => GetP ar es i fun x => K x Q) := by
  obtain ⟨s, h1, h2⟩ := hall es[i.toNat] (List.getElem_mem h.2)
  subst har
  exact dt_get (v := [.str s]) (by simp [std]; omega) (by rw [← h1]; simp [std, h.2]) (k s h2)
theorem lt_cmp {ar : Ar} (har : ar = std) {a b : Int} (h : ar.icmp .lss a b = true) : a < b := by subst har; simpa [std, icmpS] using h
theorem ge_cmp {ar : Ar} (har : ar = std) {a b : Int} (h : ar.icmp .lss a b = false) : b ≤ a := by subst har; simpa [std, icmpS] using h
theorem bnot_t {ar : Ar} (har : ar = std) {b : Bool} (h : ar.bnot b = true) : b = false := by subst har; simpa [std] using h
theorem bnot_f {ar : Ar} (har : ar = std) {b : Bool} (h : ar.bnot b = false) : b = true := by subst har; simpa [std] using h
theorem gt_cmp {ar : Ar} (har : ar = std) {a b : Int} (h : ar.icmp .gtr a b = true) : b < a := by subst har; simpa [std, icmpS] using h
theorem le_cmp {ar : Ar} (har : ar = std) {a b : Int} (h : ar.icmp .gtr a b = false) : a ≤ b := by subst har; simpa [std, icmpS] using h
theorem eq_cmp {ar : Ar} (har : ar = std) {a b : Int} (h : ar.icmp .eql a b = true) : a = b := by subst har; simpa [std, icmpS] using h
theorem ne_cmp {ar : Ar} (har : ar = std) {a b : Int} (h : ar.icmp .eql a b = false) : ¬ a = b := by subst har; simpa [std, icmpS] using h
theorem side_ix {ar : Ar} (har : ar = std) {es : List (List T)} {i : Int} (h : 0 ≤ i ∧ i.toNat < es.length) : Side (ar.inb i es) := by subst har; exact ⟨by simp [std]; omega⟩
theorem side_make {ar : Ar} (har : ar = std) {n : Int} (h0 : 0 ≤ n) (h : n ≤ 1000000000) : Side (ar.mkroom 1 n) := by
  subst har; exact ⟨⟨h0, by show n * (((1 : Nat) : Int) + 1) ≤ 2 ^ 46; omega⟩⟩
theorem add_std {ar : Ar} (har : ar = std) {a b : Int} (h1 : -9223372036854775808 ≤ a + b) (h2 : a + b ≤ 9223372036854775807) : ar.iop .add .i64 a b = a + b := by subst har; exact addI h1 h2
theorem byteOf_add (a b : Int) : iB (byteOf (a + b)) = iopS .add .u8 a b := byteOf_wrap _
/-- A list of numbers. -/
def encI (l : List Int) : List (List T) := l.map fun n => [.int .i64 n]
theorem encI_len {l : List Int} {es : List (List T)} (h : encI l = es) : es.length = l.length := by subst h; simp [encI]
theorem encI_app {l m : List Int} {es fs : List (List T)} (h : encI l = es) (k : encI m = fs) : encI (l ++ m) = es ++ fs := by subst h; subst k; simp [encI]
theorem side_oneI {ar : Ar} (har : ar = std) {l : List Int} {es : List (List T)} {t : T} (h : encI l = es) (hn : l.length ≤ 1000000000) : Side (ar.room 8 (ar.app es [[t]]) ∧ ar.wid 1 [[t]]) := by
  have := encI_len h
  subst har
  exact ⟨by simp [std]; omega, wid_one t⟩
theorem get_int {ar : Ar} (har : ar = std) {b : List Int} {es : List (List T)} {i : Int} {K : List T → Prop} (hes : encI b = es) (h : 0 ≤ i ∧ i.toNat < b.length)
    (k : ∀ (x : Int), b[i.toNat]? = some x → K [.int .i64 x]) : GetP ar es i K := by
  have hl : i.toNat < b.length := h.2
  subst har; subst hes
  refine ⟨by simp [std, encI]; omega, ?_⟩
  have := k b[i.toNat] (List.getElem?_eq_getElem hl)
  simpa [std, encI, hl] using this
/-- A list of labels. -/
def encN (n : List (List UInt8)) : List (List T) := n.map fun l => [.sl (encB l)]
theorem encN_len {l : List (List UInt8)} {es : List (List T)} (h : encN l = es) : es.length = l.length := by subst h; simp [encN]
theorem encN_app {l m : List (List UInt8)} {es fs : List (List T)} (h : encN l = es) (k : encN m = fs) : encN (l ++ m) = es ++ fs := by subst h; subst k; simp [encN]
theorem encN_one {x : List UInt8} {xx : List (List T)} (h : encB x = xx) : encN [x] = [[.sl xx]] := by subst h; rfl
theorem wid_encN (l : List (List UInt8)) : std.wid 1 (encN l) := by intro x hx; obtain ⟨y, _, rfl⟩ := List.mem_map.1 hx; rfl
theorem side_oneN {ar : Ar} (har : ar = std) {l : List (List UInt8)} {es : List (List T)} {t : T} (h : encN l = es) (hn : l.length ≤ 1000000000) : Side (ar.room 24 (ar.app es [[t]]) ∧ ar.wid 1 [[t]]) := by
  have := encN_len h
  subst har
  exact ⟨by simp [std]; omega, wid_one t⟩
theorem get_label {ar : Ar} (har : ar = std) {n : List (List UInt8)} {es : List (List T)} {i : Int} {K : List T → Prop} (hes : encN n = es) (h : 0 ≤ i ∧ i.toNat < n.length)
    (k : ∀ (x : List UInt8) (xx : List (List T)), n[i.toNat]? = some x → encB x = xx → K [.sl xx]) : GetP ar es i K := by
  have hl : i.toNat < n.length := h.2
  subst har; subst hes
  refine ⟨by simp [std, encN]; omega, ?_⟩
  have := k n[i.toNat] _ (List.getElem?_eq_getElem hl) rfl
  simpa [std, encN, hl] using this
theorem get_atN {ar : Ar} (har : ar = std) {b : List (List UInt8)} {es xx : List (List T)} {i : Int} {x : List UInt8} {K : List T → Prop} (hes : encN b = es) (hx : b[i.toNat]? = some x) (hxx : encB x = xx) (h : 0 ≤ i) (k : K [.sl xx]) : GetP ar es i K :=
  get_label har hes ⟨h, (List.getElem?_eq_some_iff.1 hx).1⟩ fun y yy h1 h2 => by rw [hx] at h1; injection h1 with h1; subst h1; rw [← h2, hxx]; exact k
theorem get_ltN {ar : Ar} (har : ar = std) {b : List (List UInt8)} {es : List (List T)} {i : Int} {K : List T → Prop} (hes : encN b = es) (h : ar.icmp .lss i (ar.len es) = true) (h0 : 0 ≤ i)
    (k : ∀ (x : List UInt8) (xx : List (List T)), b[i.toNat]? = some x → encB x = xx → K [.sl xx]) : GetP ar es i K :=
  get_label har hes ⟨h0, by rw [← encN_len hes]; exact lt_len har h h0⟩ k

end Go.TL.Tryz

/- TfDraw -/
namespace Go.TL.Tryz
open Go Go.TL Go.Proofs
variable {P : Program}



def curH (h : Int) : Int := iopS .add .i64 (iopS .mul .i64 h 6364136223846793005) 1442695040888963407
def curX (h : Int) : Int := iopS .and .i64 (iopS .xor .i64 (iopS .shr .i64 h 33) (iopS .shr .i64 h 45)) 255
/-- One byte of a draw: the number, the place, the mix. -/
def byteS (b : List UInt8) (i : Nat) (h : Int) : Int × Nat × Int :=
  if i < b.length then (iopS .and .i64 (iopS .add .i64 (curX (curH h)) (b.getD i 0).toNat) 255, i + 1, curH h) else (curX (curH h), i, curH h)
/-- A number below a bound. -/
def belowS (b : List UInt8) (i : Nat) (h n : Int) : Int × Nat × Int :=
  if n ≤ 0 then (0, i, h) else
  if n ≤ 256 then match byteS b i h with
    | (x, i, h) => (x.tmod n, i, h)
  else match byteS b i h with
    | (x, i, h) => match byteS b i h with
      | (y, i, h) => match byteS b i h with
        | (z, i, h) => match byteS b i h with
          | (w, i, h) => ((iopS .add .i64 (iopS .add .i64 (iopS .add .i64 (iopS .mul .i64 x 16777216) (iopS .mul .i64 y 65536)) (iopS .mul .i64 z 256)) w).tmod n, i, h)
/-- Does a number below a bound come out as 0? -/
def onceS (b : List UInt8) (i : Nat) (h n : Int) : Bool × Nat × Int := match belowS b i h n with
  | (v, i, h) => (v == 0, i, h)
theorem and255 (a : Int) : 0 ≤ iopS .and .i64 a 255 ∧ iopS .and .i64 a 255 ≤ 255 := by
  have h : (BitVec.ofInt 64 a &&& BitVec.ofInt 64 255).toNat ≤ 255 := by
    rw [BitVec.toNat_and]; exact Nat.and_le_right
  generalize hk : (BitVec.ofInt 64 a &&& BitVec.ofInt 64 255).toNat = k at h
  have h2 : IntKind.i64.has (k : Int) := by simp [IntKind.has, IntKind.min, IntKind.max, IntKind.signed, IntKind.bits]; omega
  have e : iopS .and .i64 a 255 = (k : Int) := by
    show IntKind.i64.wrap (((BitVec.ofInt 64 a &&& BitVec.ofInt 64 255).toNat : Nat) : Int) = k
    rw [hk]; exact wrap_id h2
  rw [e]; omega
theorem byteS_lt {b : List UInt8} {i : Nat} {h v : Int} {i' : Nat} {h' : Int} (e : byteS b i h = (v, i', h')) : 0 ≤ v ∧ v ≤ 255 := by
  unfold byteS at e
  split at e <;> injection e with e _ <;> subst e <;> exact and255 _

theorem iop_add_id {a b : Int} (h : IntKind.i64.has (a + b)) : iopS .add .i64 a b = a + b := wrap_id h
theorem iop_mul_id {a b : Int} (h : IntKind.i64.has (a * b)) : iopS .mul .i64 a b = a * b := wrap_id h
theorem has_i64 {a : Int} (h : -(2 ^ 63) ≤ a) (h2 : a < 2 ^ 63) : IntKind.i64.has a := by simp [IntKind.has, IntKind.min, IntKind.max, IntKind.signed, IntKind.bits]; omega
theorem belowS_lt {b : List UInt8} {i : Nat} {h n v : Int} {i' : Nat} {h' : Int} (e : belowS b i h n = (v, i', h')) (hn : 0 < n) : 0 ≤ v ∧ v < n := by
  unfold belowS at e
  rw [if_neg (by omega)] at e
  split at e
  · generalize hq : byteS b i h = q at e
    obtain ⟨x, i1, h1⟩ := q
    simp only at e
    injection e with e _; subst e
    have := byteS_lt hq
    exact ⟨Int.tmod_nonneg _ this.1, Int.tmod_lt_of_pos _ hn⟩
  · generalize hq : byteS b i h = q at e
    obtain ⟨x, i1, h1⟩ := q
    simp only at e
    generalize hq2 : byteS b i1 h1 = q at e
    obtain ⟨y, i2, h2⟩ := q
    simp only at e
    generalize hq3 : byteS b i2 h2 = q at e
    obtain ⟨z, i3, h3⟩ := q
    simp only at e
    generalize hq4 : byteS b i3 h3 = q at e
    obtain ⟨u, i4, h4⟩ := q
    simp only at e
    injection e with e _; subst e
    have a1 := byteS_lt hq
    have a2 := byteS_lt hq2
    have a3 := byteS_lt hq3
    have a4 := byteS_lt hq4
    rw [iop_mul_id (has_i64 (by omega) (by omega)), iop_mul_id (a := y) (has_i64 (by omega) (by omega)), iop_mul_id (a := z) (has_i64 (by omega) (by omega)), iop_add_id (a := x * 16777216) (b := y * 65536) (has_i64 (by omega) (by omega)), iop_add_id (b := z * 256) (has_i64 (by omega) (by omega)), iop_add_id (has_i64 (by omega) (by omega))]
    exact ⟨Int.tmod_nonneg _ (by omega), Int.tmod_lt_of_pos _ hn⟩

def pickS (b : List UInt8) (i : Nat) (h : Int) (l : List Int) : Int × Nat × Int := match belowS b i h l.length with
  | (v, i, h) => (l.getD v.toNat 0, i, h)
end Go.TL.Tryz

/- TfDrawW -/
namespace Go.TL.Tryz
open Go Go.TL Go.Proofs
variable {P : Program}

theorem ints_of {ls : List (List T)} (hl : ∀ x ∈ ls, ∃ n, x = [.int .i64 n]) : ∃ l, encI l = ls := by
  induction ls with
  | nil => exact ⟨[], rfl⟩
  | cons x r ih =>
    obtain ⟨l, hl'⟩ := ih fun y hy => hl y (List.mem_cons_of_mem _ hy)
    obtain ⟨n, rfl⟩ := hl x (List.mem_cons_self ..)
    exact ⟨n :: l, by simp [encI] at hl' ⊢; exact hl'⟩

end Go.TL.Tryz

/- TfNm -/
namespace Go.TL.Tryz
open Go Go.TL Go.Proofs
variable {P : Program}

end Go.TL.Tryz

/- TfNmS -/
namespace Go.TL.Tryz
open Go Go.TL Go.Proofs
variable {P : Program}

def chOk (n : Int) : Bool := decide (97 ≤ n ∧ n ≤ 122 ∨ 48 ≤ n ∧ n ≤ 57 ∨ n = 45)
def labelOk (l : List UInt8) : Bool := decide (1 ≤ l.length) && (decide (l.length ≤ 15) && l.all fun x => chOk (iB x))
def nameOk (n : List (List UInt8)) : Bool := decide (n.length ≤ 6) && n.all labelOk

theorem all_take_succ {α : Type} {p : α → Bool} {l : List α} {i : Nat} {x : α} (hx : l[i]? = some x) (h : (l.take i).all p = true) (hp : p x = true) : (l.take (i + 1)).all p = true := by
  rw [List.take_add_one, hx]; simp [h, hp]
theorem all_bad {α : Type} {p : α → Bool} {l : List α} {i : Nat} {x : α} (hx : l[i]? = some x) (hp : p x = false) : l.all p = false := by
  rw [List.all_eq_false]; exact ⟨x, List.mem_of_getElem? hx, by simp [hp]⟩
theorem take_all {α : Type} {l : List α} {i : Nat} (h : l.length ≤ i) : l.take i = l := List.take_of_length_le h

set_option maxRecDepth 20000 in
theorem fn62 : Tryz.prog.funcs[62]? = some Tryz.f62 := rfl
set_option maxHeartbeats 40000000 in
set_option maxRecDepth 3000 in
theorem sLabelOk (hP : Prg P) {l : List UInt8} {ls : List (List T)} (hl : encB l = ls) : ACall P 62 [.one (.t (.sl ls))] [] (fun r ob => r = .one (.t (.bool (labelOk l))) ∧ ob = []) := by
  refine acall_fn (md := md) [none] v62 hP.mixed hP.tab (fn_at hP fn62) 1 rfl (by decide +kernel) rfl ?_
  intro ar har
  cbv
  repeat' (first | (intro; cbv) | (refine br_intro ?_ ?_ <;> intro <;> cbv))
  · subst har; simp only [std, icmpS, decide_eq_true_eq, decide_eq_false_iff_not, Bool.not_eq_true', Bool.not_eq_false', bne_iff_ne, ne_eq, bne_eq_false_iff_eq, beq_iff_eq, beq_eq_false_iff_ne, Int.not_lt, Int.not_le, Bool.not_true, Bool.not_false, reduceCtorEq] at *
    refine ⟨⟨?_, rfl⟩⟩
    have := encB_len hl
    simp [labelOk, show ¬ (1 ≤ l.length) by omega]
  · subst har; simp only [std, icmpS, decide_eq_true_eq, decide_eq_false_iff_not, Bool.not_eq_true', Bool.not_eq_false', bne_iff_ne, ne_eq, bne_eq_false_iff_eq, beq_iff_eq, beq_eq_false_iff_ne, Int.not_lt, Int.not_le, Bool.not_true, Bool.not_false, reduceCtorEq] at *
    refine ⟨⟨?_, rfl⟩⟩
    have := encB_len hl
    simp [labelOk, show ¬ (l.length ≤ 15) by omega]
  rename_i h1 _ h2
  refine LoopP.mk Int [0, 2, 3] [] (fun i => ⟨[(0, .one (.t (.sl ls))), (2, .one (.t (.bool false))), (3, .one (.t (.int .i64 i)))], []⟩) (fun i => 0 ≤ i ∧ ((l.take i.toNat).all fun x => chOk (iB x)) = true) (fun i => l.length - i.toNat) 0 ?e ?f ?g
  case e => rfl
  case f => simp
  case g =>
    intro i hi
    have hi0 : 0 ≤ i := hi.1
    have hi1 : ((l.take i.toNat).all fun x => chOk (iB x)) = true := hi.2
    clear hi
    cbv
    repeat' (first | (intro; cbv) | (refine br_intro ?_ ?_ <;> intro <;> cbv) | (refine get_at har (by assumption) (by assumption) (by assumption) (by assumption) ?_; cbv) | (refine get_lt har (by assumption) (by assumption) (by assumption) ?_; intro x xx hx hxx; cbv))
    all_goals have hlen := encB_len hl
    all_goals subst har; simp only [std, icmpS, decide_eq_true_eq, decide_eq_false_iff_not, Bool.not_eq_true', Bool.not_eq_false', bne_iff_ne, ne_eq, bne_eq_false_iff_eq, beq_iff_eq, beq_eq_false_iff_ne, Int.not_lt, Int.not_le, Bool.not_true, Bool.not_false, reduceCtorEq] at *
    all_goals first
      | (refine ⟨⟨?_, rfl⟩⟩; rw [show labelOk l = false by simp only [labelOk, all_bad (p := fun x => chOk (iB x)) hx (by rw [hxx]; simp [chOk]; omega), Bool.and_false]]; done)
      | (rw [addI (a := i) (b := 1) (by omega) (by omega)]
         exact ⟨i + 1, by kernel_rfl, ⟨by omega, by rw [show (i + 1).toNat = i.toNat + 1 by omega]; exact all_take_succ hx hi1 (by rw [hxx]; simp [chOk]; omega)⟩, by omega⟩)
      | skip
    rw [take_all (by omega)] at hi1
    exact ⟨⟨by simp only [labelOk, hi1, decide_eq_true (show 1 ≤ l.length by omega), decide_eq_true (show l.length ≤ 15 by omega), Bool.and_true], rfl⟩⟩
end Go.TL.Tryz

/- TfNmT -/
namespace Go.TL.Tryz
open Go Go.TL Go.Proofs
variable {P : Program}

set_option maxRecDepth 20000 in
theorem fn53 : Tryz.prog.funcs[53]? = some Tryz.f53 := rfl
set_option maxHeartbeats 40000000 in
set_option maxRecDepth 3000 in
theorem sNameOk (hP : Prg P) {n : List (List UInt8)} {ns : List (List T)} (hn : encN n = ns) : ACall P 53 [.agg [.t (.sl ns)]] [] (fun r ob => r = .one (.t (.bool (nameOk n))) ∧ ob = []) := by
  refine acall_fn (md := md) [none] v53 hP.mixed hP.tab (fn_at hP fn53) 1 rfl (by decide +kernel) rfl ?_
  intro ar har
  cbv
  repeat' (first | (intro; cbv) | (refine br_intro ?_ ?_ <;> intro <;> cbv))
  · have hlen := encN_len hn
    subst har; simp only [std, icmpS, decide_eq_true_eq, decide_eq_false_iff_not, Bool.not_eq_true', Bool.not_eq_false', bne_iff_ne, ne_eq, bne_eq_false_iff_eq, beq_iff_eq, beq_eq_false_iff_ne, Int.not_lt, Int.not_le, Bool.not_true, Bool.not_false, reduceCtorEq] at *
    exact ⟨⟨by simp only [nameOk, decide_eq_false (show ¬ n.length ≤ 6 by omega), Bool.false_and], rfl⟩⟩
  rename_i h1
  refine LoopP.mk Int [1, 2, 3] [] (fun i => ⟨[(1, .one (.ptr 16 0)), (2, .one (.t (.bool false))), (3, .one (.t (.int .i64 i)))], [(16, .box [.t (.sl ns)] false)]⟩) (fun i => 0 ≤ i ∧ (n.take i.toNat).all labelOk = true) (fun i => n.length - i.toNat) 0 ?e ?f ?g
  case e => rfl
  case f => simp
  case g =>
    intro i hi
    have hi0 : 0 ≤ i := hi.1
    have hi1 : (n.take i.toNat).all labelOk = true := hi.2
    clear hi
    cbv
    repeat' (first | (intro; cbv) | (refine br_intro ?_ ?_ <;> intro <;> cbv) | (refine get_ltN har (by assumption) (by assumption) (by assumption) ?_; intro x xx hx hxx; cbv) | (refine call_intro (sLabelOk hP (by assumption)) ?_; rintro r ob ⟨rfl, rfl⟩; generalize hv : labelOk _ = v; cbv))
    all_goals have hlen := encN_len hn
    all_goals subst har; simp only [std, icmpS, decide_eq_true_eq, decide_eq_false_iff_not, Bool.not_eq_true', Bool.not_eq_false', bne_iff_ne, ne_eq, bne_eq_false_iff_eq, beq_iff_eq, beq_eq_false_iff_ne, Int.not_lt, Int.not_le, Bool.not_true, Bool.not_false, reduceCtorEq] at *
    · exact ⟨⟨by simp only [nameOk, all_bad (p := labelOk) hx (by rw [hv]; assumption), Bool.and_false], rfl⟩⟩
    · rw [addI (a := i) (b := 1) (by omega) (by omega)]
      exact ⟨i + 1, by kernel_rfl, ⟨by omega, by rw [show (i + 1).toNat = i.toNat + 1 by omega]; exact all_take_succ hx hi1 (by rw [hv]; assumption)⟩, by omega⟩
    · rw [take_all (by omega)] at hi1
      exact ⟨⟨by simp only [nameOk, hi1, decide_eq_true (show n.length ≤ 6 by omega), Bool.and_true], rfl⟩⟩

def lowCh (x : UInt8) : UInt8 := if 65 ≤ iB x ∧ iB x ≤ 90 then byteOf (iB x + 32) else x
def lower (l : List UInt8) : List UInt8 := l.map lowCh
theorem lower_len (l : List UInt8) : (lower l).length = l.length := by simp [lower]
theorem low_step {l m : List UInt8} {i : Nat} {x : UInt8} (hm : m = (l.take i).map lowCh ++ l.drop i) (hx : m[i]? = some x) : l[i]? = some x ∧ m.set i (lowCh x) = (l.take (i + 1)).map lowCh ++ l.drop (i + 1) := by
  have hi : i < m.length := (List.getElem?_eq_some_iff.1 hx).1
  have hl : i < l.length := by rw [hm] at hi; simp at hi; omega
  have hlx : l[i]? = some x := by
    rw [hm, List.getElem?_append_right (by simp; omega)] at hx
    simpa [List.getElem?_drop, Nat.min_eq_left (Nat.le_of_lt hl)] using hx
  refine ⟨hlx, ?_⟩
  have : l.drop i = x :: l.drop (i + 1) := by
    rw [List.drop_eq_getElem_cons hl]
    rw [List.getElem?_eq_getElem hl] at hlx
    injection hlx with e; rw [e]
  rw [List.take_add_one, hlx, hm, this, List.set_append]
  simp [Nat.min_eq_left (Nat.le_of_lt hl)]
theorem List.set_getElem?_self {α : Type} {l : List α} {i : Nat} {x : α} (h : l[i]? = some x) : l.set i x = l := by
  obtain ⟨h1, h2⟩ := List.getElem?_eq_some_iff.1 h
  rw [← h2]; exact List.set_getElem_self h1
set_option maxRecDepth 20000 in
theorem fn141 : Tryz.prog.funcs[141]? = some Tryz.f141 := rfl
set_option maxHeartbeats 40000000 in
set_option maxRecDepth 3000 in
theorem sLower (hP : Prg P) {l : List UInt8} {ls : List (List T)} (hl : encB l = ls) (hb : l.length ≤ 1000000) : ACall P 141 [.one (.t (.sl ls))] [] (fun r ob => r = .one (.row 32 0) ∧ ob = [(32, .row 1 (encB (lower l)) 0 [0] false)]) := by
  refine acall_fn (md := md) [some [(0, 1)]] v141 hP.mixed hP.tab (fn_at hP fn141) 1 rfl (by decide +kernel) rfl ?_
  intro ar har
  cbv
  repeat' (first | (with_reducible refine and_side ?_ ?_; rotate_left; try cbv) | (exact side_app0 har (by assumption) (by omega)))
  refine LoopP.mk (List UInt8 × List (List T) × Int) [3, 4] [] (fun x => ⟨[(3, .one (.row 16 0)), (4, .one (.t (.int .i64 x.2.2)))], [(16, .row 1 x.2.1 0 [0] false)]⟩)
    (fun x => encB x.1 = x.2.1 ∧ 0 ≤ x.2.2 ∧ x.1 = (l.take x.2.2.toNat).map lowCh ++ l.drop x.2.2.toNat) (fun x => l.length - x.2.2.toNat) (l, ?y, 0) ?e ?f ?g
  case e => rfl
  case f => subst har; exact ⟨hl, Int.le_refl 0, by simp⟩
  case g =>
    intro x hx
    obtain ⟨m, ms, i⟩ := x
    have hm : encB m = ms := hx.1
    have hi0 : 0 ≤ i := hx.2.1
    have hmm : m = (l.take i.toNat).map lowCh ++ l.drop i.toNat := hx.2.2
    clear hx
    cbv
    repeat' (first | (intro; cbv) | (with_reducible refine and_side ?_ ?_; rotate_left; try cbv) | (refine br_intro ?_ ?_ <;> intro <;> cbv) | (refine get_at har (by assumption) (by assumption) (by assumption) (by assumption) ?_; cbv) | (refine get_lt har (by assumption) (by assumption) (by assumption) ?_; intro x xx hx hxx; cbv) | (exact side_lt har (by assumption) (by assumption)))
    all_goals have hlen := encB_len hm
    all_goals have hml : m.length = l.length := by rw [hmm]; simp; omega
    · subst har; simp only [std, icmpS, decide_eq_true_eq, decide_eq_false_iff_not, Bool.not_eq_true', Bool.not_eq_false', bne_iff_ne, ne_eq, bne_eq_false_iff_eq, beq_iff_eq, beq_eq_false_iff_ne, Int.not_lt, Int.not_le, Bool.not_true, Bool.not_false, reduceCtorEq] at *
      obtain ⟨s1, s2⟩ := low_step hmm hx
      rw [addI (a := i) (b := 1) (by omega) (by omega), enc_set hm (byteOf_add xx 32)]
      rw [lowCh, if_pos (by omega), hxx] at s2
      exact ⟨(m.set i.toNat (byteOf (xx + 32)), encB (m.set i.toNat (byteOf (xx + 32))), i + 1), by kernel_rfl, ⟨rfl, by dsimp only; omega, by dsimp only; rw [s2, show (i + 1).toNat = i.toNat + 1 by omega]⟩, by dsimp only; omega⟩
    iterate 2
      · subst har; simp only [std, icmpS, decide_eq_true_eq, decide_eq_false_iff_not, Bool.not_eq_true', Bool.not_eq_false', bne_iff_ne, ne_eq, bne_eq_false_iff_eq, beq_iff_eq, beq_eq_false_iff_ne, Int.not_lt, Int.not_le, Bool.not_true, Bool.not_false, reduceCtorEq] at *
        obtain ⟨s1, s2⟩ := low_step hmm hx
        rw [addI (a := i) (b := 1) (by omega) (by omega)]
        rw [lowCh, if_neg (by omega), List.set_getElem?_self hx] at s2
        exact ⟨(m, ms, i + 1), by kernel_rfl, ⟨hm, by dsimp only; omega, by dsimp only; rw [show (i + 1).toNat = i.toNat + 1 by omega, ← s2]⟩, by dsimp only; omega⟩
    · subst har; simp only [std, icmpS, decide_eq_true_eq, decide_eq_false_iff_not, Bool.not_eq_true', Bool.not_eq_false', bne_iff_ne, ne_eq, bne_eq_false_iff_eq, beq_iff_eq, beq_eq_false_iff_ne, Int.not_lt, Int.not_le, Bool.not_true, Bool.not_false, reduceCtorEq] at *
      refine ⟨⟨rfl, ?_⟩⟩
      rw [← hm, hmm, List.take_of_length_le (by omega), List.drop_of_length_le (by omega), List.append_nil]; rfl
end Go.TL.Tryz

/- TfNmU -/
namespace Go.TL.Tryz
open Go Go.TL Go.Proofs
variable {P : Program}

def splitL : List UInt8 → List UInt8 → List (List UInt8)
  | [], lab => if lab = [] then [] else [lower lab]
  | c :: r, lab => if c = 46 then lower lab :: splitL r [] else splitL r (lab ++ [c])
def nameOfB (b : List UInt8) : List (List UInt8) := if b = [] then [[]] else splitL b []
def nameRead (b : List UInt8) : List (List UInt8) × Bool :=
  if b = [46] then ([], true) else if nameOk (nameOfB b) then (nameOfB b, true) else ([], false)
/-- What is still to come. -/
def restL (b r lab : List UInt8) : List (List UInt8) := if b = [] then [[]] else splitL r lab

theorem drop_at {α : Type} {b : List α} {i : Nat} {x : α} (hx : b[i]? = some x) : b.drop i = x :: b.drop (i + 1) := by
  obtain ⟨h1, h2⟩ := List.getElem?_eq_some_iff.1 hx
  rw [List.drop_eq_getElem_cons h1, h2]
theorem ne_nil_at {α : Type} {b : List α} {i : Nat} {x : α} (hx : b[i]? = some x) : b ≠ [] := by intro e; rw [e] at hx; simp at hx
theorem rd_step {b lab : List UInt8} {n : List (List UInt8)} {i : Nat} {x : UInt8} {xx : Int} (hx : b[i]? = some x) (hxx : iB x = xx) (h46 : ¬ xx = 46) (h : n ++ restL b (b.drop i) lab = nameOfB b) : n ++ restL b (b.drop (i + 1)) (lab ++ [x]) = nameOfB b := by
  have : x ≠ 46 := fun e => h46 (by rw [← hxx, e]; rfl)
  rw [restL, if_neg (ne_nil_at hx), drop_at hx, splitL, if_neg this] at h
  rw [restL, if_neg (ne_nil_at hx)]; exact h
theorem rd_dot {b lab : List UInt8} {n : List (List UInt8)} {i : Nat} {x : UInt8} {xx : Int} (hx : b[i]? = some x) (hxx : iB x = xx) (h46 : xx = 46) (h : n ++ restL b (b.drop i) lab = nameOfB b) : n ++ [lower lab] ++ restL b (b.drop (i + 1)) [] = nameOfB b := by
  have : x = 46 := iB_inj (by rw [hxx, h46]; rfl)
  rw [restL, if_neg (ne_nil_at hx), drop_at hx, splitL, if_pos this] at h
  rw [restL, if_neg (ne_nil_at hx), List.append_assoc]; exact h
theorem rd_end {b lab : List UInt8} {n : List (List UInt8)} {i : Nat} (hi : b.length ≤ i) (hb : b = [] ∨ lab ≠ []) (hc : b = [] → n = [] ∧ lab = []) (h : n ++ restL b (b.drop i) lab = nameOfB b) : n ++ [lower lab] = nameOfB b := by
  by_cases e : b = []
  · obtain ⟨rfl, rfl⟩ := hc e; subst e; rfl
  · rw [restL, if_neg e, List.drop_of_length_le hi, splitL, if_neg (hb.resolve_left e)] at h; exact h
theorem rd_end0 {b : List UInt8} {n : List (List UInt8)} {i : Nat} (hi : b.length ≤ i) (hb : b ≠ []) (h : n ++ restL b (b.drop i) [] = nameOfB b) : n = nameOfB b := by
  rw [restL, if_neg hb, List.drop_of_length_le hi, splitL, if_pos rfl, List.append_nil] at h; exact h
def rdK (b : List UInt8) (r : A) (ob : Obs) : Prop := r = .tup [.agg [.row 32 0], .one (.t (.bool (nameRead b).2))] ∧ ob = [(32, .row 1 (encN (nameRead b).1) 0 [0] false)]
theorem rd_true {b : List UInt8} {n : List (List UInt8)} {ns : List (List T)} (h1 : ¬ b = [46]) (hn : encN n = ns) (e : n = nameOfB b) (hv : nameOk n = true) :
    rdK b (.tup [.agg [.row 32 0], .one (.t (.bool true))]) [(32, .row 1 ns 0 [0] false)] := by
  unfold rdK; rw [nameRead, if_neg h1, ← e, if_pos hv, ← hn]; exact ⟨rfl, rfl⟩
theorem rd_false {b : List UInt8} {n : List (List UInt8)} (h1 : ¬ b = [46]) (e : n = nameOfB b) (hv : nameOk n = false) :
    rdK b (.tup [.agg [.row 32 0], .one (.t (.bool false))]) [(32, .row 1 [] 0 [0] false)] := by
  unfold rdK; rw [nameRead, if_neg h1, ← e, if_neg (by rw [hv]; simp)]; exact ⟨rfl, rfl⟩
set_option maxRecDepth 20000 in
theorem fn102 : Tryz.prog.funcs[102]? = some Tryz.f102 := rfl
set_option maxHeartbeats 40000000 in
set_option maxRecDepth 3000 in
theorem sNameRead (hP : Prg P) {b : List UInt8} {es : List (List T)} (hl : encB b = es) (hb : b.length ≤ 900000) :
    ACall P 102 [.one (.t (.sl es))] [] (fun r ob => r = .tup [.agg [.row 32 0], .one (.t (.bool (nameRead b).2))] ∧ ob = [(32, .row 1 (encN (nameRead b).1) 0 [0] false)]) := by
  refine acall_fn (md := md) [some [(0, 1)], none] v102 hP.mixed hP.tab (fn_at hP fn102) 1 rfl (by decide +kernel) rfl ?_
  intro ar har
  cbv
  repeat' (first | (refine br_intro ?_ ?_ <;> intro <;> cbv) | (refine bytes_intro (by assumption) ?_; cbv))
  · subst har; simp only [std, icmpS, decide_eq_true_eq, decide_eq_false_iff_not, Bool.not_eq_true', Bool.not_eq_false', bne_iff_ne, ne_eq, bne_eq_false_iff_eq, beq_iff_eq, beq_eq_false_iff_ne, Int.not_lt, Int.not_le, Bool.not_true, Bool.not_false, reduceCtorEq] at *
    rename_i h1
    exact ⟨⟨by simp only [nameRead, if_pos h1], by simp only [nameRead, if_pos h1]; rfl⟩⟩
  rename_i h1
  have h1 : b ≠ [46] := by subst har; simpa [std] using h1
  refine LoopP.mk (List UInt8 × List (List T) × List (List UInt8) × List (List T) × Int) [0, 2, 3, 4, 5, 6] [.cell 4 0 1 12, .tmp 5 0 1 13]
    (fun x => ⟨[(0, .one (.t (.sl es))), (2, .one (.ptr 16 0)), (3, .one (.t (.bool false))), (4, .one (.ptr 17 0)), (5, .one (.row 18 0)), (6, .one (.t (.int .i64 x.2.2.2.2)))],
      [(16, .box [.nil] false), (17, .box [.row 19 0] false), (18, .row 1 x.2.1 0 [0] false), (19, .row 1 x.2.2.2.1 0 [0] false)]⟩)
    (fun x => x.2.2.2.2.toNat ≤ b.length + 1 ∧ encB x.1 = x.2.1 ∧ encN x.2.2.1 = x.2.2.2.1 ∧ 0 ≤ x.2.2.2.2 ∧ x.1.length ≤ x.2.2.2.2.toNat ∧ x.2.2.1.length ≤ x.2.2.2.2.toNat ∧
      (x.2.2.2.2.toNat ≤ b.length ∧ x.2.2.1 ++ restL b (b.drop x.2.2.2.2.toNat) x.1 = nameOfB b ∧ (b = [] → x.2.2.1 = [] ∧ x.1 = []) ∨ x.2.2.2.2.toNat = b.length + 1 ∧ x.2.2.1 = nameOfB b))
    (fun x => b.length + 1 - x.2.2.2.2.toNat) ([], [], [], [], 0) ?e ?f ?g
  case e => kernel_rfl
  case f => exact ⟨by simp, rfl, rfl, Int.le_refl _, by simp, by simp, .inl ⟨by simp, by simp [restL, nameOfB], fun _ => ⟨rfl, rfl⟩⟩⟩
  case g =>
    intro x hx
    obtain ⟨lab, labs, n, ns, i⟩ := x
    have hib : i.toNat ≤ b.length + 1 := hx.1
    replace hx := hx.2
    have hlab : encB lab = labs := hx.1
    have hn : encN n = ns := hx.2.1
    have hi0 : 0 ≤ i := hx.2.2.1
    have hb1 : lab.length ≤ i.toNat := hx.2.2.2.1
    have hb2 : n.length ≤ i.toNat := hx.2.2.2.2.1
    have hin : (i.toNat ≤ b.length ∧ n ++ restL b (b.drop i.toNat) lab = nameOfB b ∧ (b = [] → n = [] ∧ lab = []) ∨ i.toNat = b.length + 1 ∧ n = nameOfB b) := hx.2.2.2.2.2
    clear hx
    cbv
    repeat' (first | (intro; cbv) | (with_reducible refine and_side ?_ ?_; rotate_left; try cbv) | (refine ChkP.mk (by decide +kernel) ?_; cbv) | (refine br_intro ?_ ?_ <;> intro <;> cbv) | (refine get_at har (by assumption) (by assumption) (by assumption) (by assumption) ?_; cbv) | (refine get_lt har (by assumption) (by assumption) (by assumption) ?_; intro x xx hx hxx; cbv) | (exact side_one har (by assumption) (by omega)) | (exact side_oneN har (by assumption) (by omega)) | (exact side_flat har (by assumption)) | (refine calld_intro (sLower hP (by assumption) (by omega)) ?_; generalize hms : encB (lower _) = ms; cbv) | (refine call_intro (sNameOk hP (by assumption)) ?_; rintro r ob ⟨rfl, rfl⟩; generalize hv : nameOk _ = v; cbv))
    all_goals have hlen := encB_len hl
    all_goals have hlen2 := encB_len hlab
    all_goals subst har; simp only [std, icmpS, decide_eq_true_eq, decide_eq_false_iff_not, Bool.not_eq_true', Bool.not_eq_false', bne_iff_ne, ne_eq, bne_eq_false_iff_eq, beq_iff_eq, beq_eq_false_iff_ne, Int.not_lt, Int.not_le, Bool.not_true, Bool.not_false, reduceCtorEq] at *
    all_goals rcases hin with ⟨q1, q2, q3⟩ | ⟨q1, q2⟩
    all_goals first
      | (exfalso; omega)
      | skip
    all_goals first
      | (rw [addI (a := i) (b := 1) (by omega) (by omega)]
         exact ⟨(lab ++ [x], labs ++ [[.int .u8 xx]], n, ns, i + 1), by kernel_rfl, ⟨by dsimp only; omega, enc_app hlab (enc_iB hxx), hn, by dsimp only; omega, by simp; omega, by dsimp only; omega,
           .inl ⟨by dsimp only; omega, by dsimp only; rw [show (i + 1).toNat = i.toNat + 1 by omega]; exact rd_step hx hxx (by assumption) q2, fun e => absurd e (ne_nil_at hx)⟩⟩, by dsimp only; omega⟩)
      | (rw [addI (a := i) (b := 1) (by omega) (by omega)]
         exact ⟨([], [], n ++ [lower lab], ns ++ [[.sl ms]], i + 1), by kernel_rfl, ⟨by dsimp only; omega, rfl, encN_app hn (encN_one hms), by dsimp only; omega, by simp, by simp; omega,
           .inl ⟨by dsimp only; omega, by dsimp only; rw [show (i + 1).toNat = i.toNat + 1 by omega]; exact rd_dot hx hxx (by assumption) q2, fun e => absurd e (ne_nil_at hx)⟩⟩, by dsimp only; omega⟩)
      | (rw [addI (a := i) (b := 1) (by omega) (by omega)]
         have hbl : b = [] ∨ lab ≠ [] := by
           by_cases e : lab = []
           · exact .inl (List.eq_nil_of_length_eq_zero (by have e2 : lab.length = 0 := (congrArg List.length e).trans rfl; omega))
           · exact .inr e
         exact ⟨([], [], n ++ [lower lab], ns ++ [[.sl ms]], i + 1), by kernel_rfl, ⟨by dsimp only; omega, rfl, encN_app hn (encN_one hms), by dsimp only; omega, by simp, by simp; omega,
           .inr ⟨by dsimp only; omega, rd_end (by omega) hbl q3 q2⟩⟩, by dsimp only; omega⟩)
      | exact ⟨rd_true h1 hn q2 (by rw [hv]; assumption)⟩
      | exact ⟨rd_false h1 q2 (by rw [hv]; assumption)⟩
      | (have hlab0 : lab = [] := List.eq_nil_of_length_eq_zero (by omega)
         subst hlab0
         have q4 := rd_end0 (by omega) (by intro e; subst e; simp at hlen; omega) q2
         first
           | exact ⟨rd_true h1 hn q4 (by rw [hv]; assumption)⟩
           | exact ⟨rd_false h1 q4 (by rw [hv]; assumption)⟩)
end Go.TL.Tryz

/- TfNmV -/
namespace Go.TL.Tryz
open Go Go.TL Go.Proofs
variable {P : Program}

/-- A name that is no longer than drawn ones are. -/
def NmB (n : List (List UInt8)) : Prop := n.length ≤ 7 ∧ ∀ l ∈ n, l.length ≤ 16
theorem nmB_read (b : List UInt8) : NmB (nameRead b).1 ∧ (nameRead b).1.length ≤ 6 := by
  unfold nameRead
  split
  · exact ⟨⟨by simp, by simp⟩, by simp⟩
  · split
    · rename_i h
      simp only [nameOk, Bool.and_eq_true, decide_eq_true_eq, List.all_eq_true] at h
      refine ⟨⟨by simp only; omega, fun l hl => ?_⟩, h.1⟩
      have := h.2 l hl
      simp only [labelOk, Bool.and_eq_true, decide_eq_true_eq] at this
      omega
    · exact ⟨⟨by simp, by simp⟩, by simp⟩
set_option maxRecDepth 20000 in
theorem fn59 : Tryz.prog.funcs[59]? = some Tryz.f59 := rfl
set_option maxHeartbeats 40000000 in
set_option maxRecDepth 3000 in
theorem of_w (hP : Prg P) {s : List UInt8} (hs : s.length ≤ 900000) : ACall P 59 [.one (.t (.str s))] []
    (fun r ob => r = .agg [.row 32 0] ∧ ob = [(32, .row 1 (encN (nameRead s).1) 0 [0] false)]) := by
  refine acall_fn (md := md) [some [(0, 1)]] v59 hP.mixed hP.tab (fn_at hP fn59) 1 rfl (by decide +kernel) rfl ?_
  intro ar har
  cbv
  repeat' (first | (with_reducible refine and_side ?_ ?_; rotate_left; try cbv) | (exact side_sbig har (by omega)))
  refine call_intro (sNameRead hP (b := s) (by subst har; rfl) hs) ?_
  rintro r ob ⟨rfl, rfl⟩
  generalize hx : encN (nameRead s).1 = x
  generalize (nameRead s).2 = y
  cbv
  exact ⟨⟨rfl, rfl⟩⟩
end Go.TL.Tryz

/- TfPutS -/
namespace Go.TL.Tryz
open Go Go.TL Go.Proofs
variable {P : Program}

def shr8 (n : Int) (k : Int) : Int := iopS .shr .i64 n k
def put16 (n : Int) : List UInt8 := if 0 ≤ n ∧ n ≤ 65535 then [byteOf (shr8 n 8), byteOf n] else []
def put32 (n : Int) : List UInt8 := if 0 ≤ n ∧ n < 4294967296 then [byteOf (shr8 n 24), byteOf (shr8 n 16), byteOf (shr8 n 8), byteOf n] else []
theorem side_byL {ar : Ar} (har : ar = std) {l m : List UInt8} {es fs gs : List (List T)} (h : encB l = gs) (e : es = gs ++ fs) (k : encB m = fs) (hn : l.length + m.length ≤ 1000000000) : Side (ar.room 1 es ∧ ar.wid 1 fs) := by
  subst har; subst h; subst k; subst e
  exact ⟨by simp [std, encB]; omega, wid_byte m⟩
set_option maxRecDepth 20000 in
theorem fn140 : Tryz.prog.funcs[140]? = some Tryz.f140 := rfl
set_option maxHeartbeats 40000000 in
set_option maxRecDepth 3000 in
theorem sPut32 (hP : Prg P) {l : List UInt8} {ls : List (List T)} {n : Int} (hl : encB l = ls) (hb : l.length ≤ 1000000) :
    ACall P 140 [.one (.t (.sl ls)), .one (.t (.int .i64 n))] [] (fun r ob => r = .one (.row 32 0) ∧ ob = [(32, .row 1 (encB (l ++ put32 n)) 0 [0] false)]) := by
  refine acall_fn (md := md) [some [(0, 1)]] v140 hP.mixed hP.tab (fn_at hP fn140) 2 rfl (by decide +kernel) rfl ?_
  intro ar har
  cbv
  repeat' (first | (intro; cbv) | (with_reducible refine and_side ?_ ?_; rotate_left; try cbv) | (refine br_intro ?_ ?_ <;> intro <;> cbv) | (exact side_sh har (by decide)) | (exact side_app0 har (by assumption) (by omega)))
  all_goals first
    | (refine side_byL (l := l) (m := [byteOf (shr8 n 24), byteOf (shr8 n 16), byteOf (shr8 n 8), byteOf n]) har hl ?_ ?_ (by simp; omega) <;> (subst har; first | rfl | (simp [encB, byteOf_wrap, std, shr8]; done)))
    | (subst har; simp only [std, icmpS, decide_eq_true_eq, decide_eq_false_iff_not, Bool.not_eq_true', Bool.not_eq_false', bne_iff_ne, ne_eq, bne_eq_false_iff_eq, beq_iff_eq, beq_eq_false_iff_ne, Int.not_lt, Int.not_le, Bool.not_true, Bool.not_false, reduceCtorEq] at *
       subst hl
       refine ⟨⟨rfl, ?_⟩⟩
       first
         | (rw [put32, if_neg (by omega)]; simp [encB]; done)
         | (rw [put32, if_pos (by omega)]; simp [encB, byteOf_wrap, shr8]; done))

def wireL (l : List UInt8) : List UInt8 := byteOf l.length :: l
def wireN (n : List (List UInt8)) : List UInt8 := n.flatMap wireL ++ [0]
theorem put_step {l : List UInt8} {n : List (List UInt8)} {i : Nat} {x : List UInt8} (hx : n[i]? = some x) : l ++ (n.take i).flatMap wireL ++ wireL x = l ++ (n.take (i + 1)).flatMap wireL := by
  rw [List.take_add_one, hx]; simp
theorem enc_len {ar : Ar} (har : ar = std) {x : List UInt8} {xx : List (List T)} (hxx : encB x = xx) : [[T.int .u8 (ar.conv .u8 (ar.len xx))]] = encB [byteOf x.length] := by
  subst har; rw [enc_byteOf, ← encB_len hxx]; rfl
theorem enc_wireL {ar : Ar} (har : ar = std) {m x : List UInt8} {ms xx : List (List T)} (hm : encB m = ms) (hxx : encB x = xx) : ar.app (ar.app ms [[T.int .u8 (ar.conv .u8 (ar.len xx))]]) xx = encB (m ++ wireL x) := by
  rw [enc_len har hxx]; subst har; subst hm; subst hxx; simp [encB, std, wireL]
set_option maxRecDepth 20000 in
theorem fn105 : Tryz.prog.funcs[105]? = some Tryz.f105 := rfl
set_option maxHeartbeats 40000000 in
set_option maxRecDepth 3000 in
theorem sl2put (hP : Prg P) {l : List UInt8} {ls : List (List T)} {n : List (List UInt8)} {ns : List (List T)} (hl : encB l = ls) (hn : encN n = ns) (hb : l.length ≤ 1000000) (hnb : NmB n) :
    ACall P 105 [.one (.row 0 0), .agg [.t (.sl ns)]] [(0, .row 1 ls 0 [0] false)] (fun r ob => r = .one (.row 0 0) ∧ ob = [(0, .row 1 (encB (l ++ wireN n)) 0 [0] false)]) := by
  refine acall_fn (md := md) [some [(0, 1)]] v105 hP.mixed hP.tab (fn_at hP fn105) 2 rfl (by decide +kernel) rfl ?_
  intro ar har
  cbv
  refine LoopP.mk (List UInt8 × List (List T) × Int) [0, 3, 5] []
    (fun x => ⟨[(0, .one (.row 0 0)), (3, .one (.ptr 16 0)), (5, .one (.t (.int .i64 x.2.2)))], [(0, .row 1 x.2.1 0 [0] false), (16, .box [.t (.sl ns)] false)]⟩)
    (fun x => encB x.1 = x.2.1 ∧ 0 ≤ x.2.2 ∧ x.1 = l ++ (n.take x.2.2.toNat).flatMap wireL ∧ x.1.length ≤ 1000000 + 17 * x.2.2.toNat ∧ x.2.2.toNat ≤ n.length) (fun x => n.length - x.2.2.toNat) (l, ls, 0) ?e ?f ?g
  case e => kernel_rfl
  case f => exact ⟨hl, Int.le_refl _, by simp, by simp; omega, by simp⟩
  case g =>
    intro x hx
    obtain ⟨m, ms, i⟩ := x
    have hm : encB m = ms := hx.1
    have hi0 : 0 ≤ i := hx.2.1
    have hmm : m = l ++ (n.take i.toNat).flatMap wireL := hx.2.2.1
    have hmb : m.length ≤ 1000000 + 17 * i.toNat := hx.2.2.2.1
    have hib : i.toNat ≤ n.length := hx.2.2.2.2
    have hnl : n.length ≤ 7 := hnb.1
    clear hx
    cbv
    repeat' (first | (intro; cbv) | (with_reducible refine and_side ?_ ?_; rotate_left; try cbv) | (refine ChkP.mk (by decide +kernel) ?_; cbv) | (refine br_intro ?_ ?_ <;> intro <;> cbv) | (refine get_atN har (by assumption) (by assumption) (by assumption) (by assumption) ?_; cbv) | (refine get_ltN har (by assumption) (by assumption) (by assumption) ?_; intro x xx hx hxx; cbv) | (exact side_one har (by assumption) (by omega)))
    · have e : ar.app (ar.app ms [[T.int .u8 (ar.conv .u8 (ar.len xx))]]) xx = encB (m ++ wireL x) := enc_wireL har hm hxx
      have hx16 := hnb.2 x (List.mem_of_getElem? hx)
      have hlt := (List.getElem?_eq_some_iff.1 hx).1
      subst har
      refine ⟨(m ++ wireL x, encB (m ++ wireL x), i + 1), ?_, ⟨rfl, by dsimp only; omega, by dsimp only; rw [hmm, put_step hx, show (i + 1).toNat = i.toNat + 1 by omega], by simp [wireL]; omega, by dsimp only; omega⟩, by dsimp only; omega⟩
      rw [← e, show i + 1 = std.iop .add .i64 i 1 from (addI (by omega) (by omega)).symm]
      kernel_rfl
    · have hx16 := hnb.2 x (List.mem_of_getElem? hx)
      refine side_byL (l := m ++ [byteOf x.length]) har rfl ?_ hxx (by simp; omega)
      have e := enc_wireL har hm hxx
      rw [wireL] at e
      refine Eq.trans e ?_
      rw [← hxx]; simp [encB]
    · have hlen := encN_len hn
      subst har; simp only [std, icmpS, decide_eq_true_eq, decide_eq_false_iff_not, Bool.not_eq_true', Bool.not_eq_false', bne_iff_ne, ne_eq, bne_eq_false_iff_eq, beq_iff_eq, beq_eq_false_iff_ne, Int.not_lt, Int.not_le, Bool.not_true, Bool.not_false, reduceCtorEq] at *
      refine ⟨⟨rfl, ?_⟩⟩
      rw [List.take_of_length_le (by omega)] at hmm
      rw [wireN, ← List.append_assoc, ← hmm, ← hm]; simp [encB]
end Go.TL.Tryz

/- TfRrD -/
namespace Go.TL.Tryz
open Go Go.TL Go.Proofs
variable {P : Program}

def namedB (t : Int) : Bool := decide (t = 2 ∨ t = 5 ∨ t = 6 ∨ t = 12)
set_option maxRecDepth 20000 in
theorem fn138 : Tryz.prog.funcs[138]? = some Tryz.f138 := rfl
set_option maxHeartbeats 40000000 in
set_option maxRecDepth 3000 in
theorem sNamed (hP : Prg P) {t : Int} : ACall P 138 [.one (.t (.int .i64 t))] [] (fun r ob => r = .one (.t (.bool (namedB t))) ∧ ob = []) := by
  refine acall_fn (md := md) [none] v138 hP.mixed hP.tab (fn_at hP fn138) 1 rfl (by decide +kernel) rfl ?_
  intro ar har
  cbv
  repeat' (first | (refine br_intro ?_ ?_ <;> intro <;> cbv))
  all_goals subst har; simp only [std, icmpS, decide_eq_true_eq, decide_eq_false_iff_not, Bool.not_eq_true', Bool.not_eq_false', bne_iff_ne, ne_eq, bne_eq_false_iff_eq, beq_iff_eq, beq_eq_false_iff_ne, Int.not_lt, Int.not_le, Bool.not_true, Bool.not_false, reduceCtorEq] at *
  · exact ⟨⟨by rw [namedB, decide_eq_true (by omega)], rfl⟩⟩
  · exact ⟨⟨by rw [namedB, decide_eq_true (by omega)], rfl⟩⟩
  · exact ⟨⟨by rw [namedB, decide_eq_true (by omega)], rfl⟩⟩
  · refine ⟨⟨?_, rfl⟩⟩
    rw [namedB]
    by_cases e : t = 12
    · rw [decide_eq_true (by omega)]; simp [e]
    · rw [decide_eq_false (by omega)]; simp [e]
end Go.TL.Tryz

/- TfPutT -/
namespace Go.TL.Tryz
open Go Go.TL Go.Proofs
variable {P : Program}

structure Rec where
  name : List (List UInt8)
  type : Int
  ttl : Int
  addr : Int
  to : List (List UInt8)
  text : List UInt8
  nums : List Int
def dataS (t addr : Int) (to : List (List UInt8)) (tx : List UInt8) (nu : List Int) : List UInt8 :=
  if t = 1 then put32 addr else if t = 6 then wireN to ++ put32 (nu.getD 0 0) ++ put32 (nu.getD 1 0) else if namedB t then wireN to else byteOf tx.length :: tx
theorem wireN_len {n : List (List UInt8)} (h : NmB n) : (wireN n).length ≤ 200 := by
  have : ∀ m : List (List UInt8), (∀ l ∈ m, l.length ≤ 16) → (m.flatMap wireL).length ≤ 17 * m.length := by
    intro m
    induction m with
    | nil => simp
    | cons x r ih => intro h; have h1 := h x (.head _); have h2 := ih fun l hl => h l (.tail _ hl); simp [wireL] at *; omega
  have h1 := this n h.2
  have h2 := h.1
  simp only [wireN, List.length_append, List.length_singleton]; omega
theorem put16_len (n : Int) : (put16 n).length ≤ 2 := by unfold put16; split <;> simp
theorem put32_len (n : Int) : (put32 n).length ≤ 4 := by unfold put32; split <;> simp
set_option maxRecDepth 20000 in
theorem fn101 : Tryz.prog.funcs[101]? = some Tryz.f101 := rfl
set_option maxHeartbeats 40000000 in
set_option maxRecDepth 3000 in
theorem sl3put (hP : Prg P) {to : List (List UInt8)} {ns tos txs nus : List (List T)} {t ttl addr : Int} {tx : List UInt8} {nu : List Int} (hto : encN to = tos) (htob : NmB to) (htx : encB tx = txs) (htxl : tx.length ≤ 1000) (hnu : encI nu = nus) (hnu6 : t = 6 → nu.length = 2) :
    ACall P 101 [.agg [.t (.sl ns), .t (.int .i64 t), .t (.int .i64 ttl), .t (.int .i64 addr), .t (.sl tos), .t (.sl txs), .t (.sl nus)]] []
      (fun r ob => r = .one (.row 32 0) ∧ ob = [(32, .row 1 (encB (dataS t addr to tx nu)) 0 [0] false)]) := by
  have hnil : encB [] = [] := rfl
  refine acall_fn (md := md) [some [(0, 1)]] v101 hP.mixed hP.tab (fn_at hP fn101) 1 rfl (by decide +kernel) rfl ?_
  intro ar har
  cbv
  have hw := wireN_len htob
  repeat' (first | (intro; cbv) | (with_reducible refine and_side ?_ ?_; rotate_left; try cbv) | (refine br_intro ?_ ?_ <;> intro <;> cbv) | (exact side_flat har (by assumption)) | (refine call_intro (sPut32 hP (by assumption) (by first | omega | decide | (simp only [List.length_append, List.length_nil]; omega))) ?_; rintro r ob ⟨rfl, rfl⟩; generalize hls : encB (_ ++ put32 _) = ls; cbv) | (refine call_intro (sl2put hP (by assumption) (by assumption) (by first | omega | decide | (simp only [List.length_append, List.length_nil]; omega)) (by assumption)) ?_; rintro r ob ⟨rfl, rfl⟩; generalize hls : encB (_ ++ wireN _) = ls; cbv) | (refine calld_intro (sl2put hP (by assumption) (by assumption) (by first | omega | decide | (simp only [List.length_append, List.length_nil]; omega)) (by assumption)) ?_; generalize hls : encB (_ ++ wireN _) = ls; cbv) | (refine call_intro (sNamed hP) ?_; rintro r ob ⟨rfl, rfl⟩; generalize hv : namedB _ = v; cbv))
  · subst har; simp only [std, icmpS, decide_eq_true_eq, decide_eq_false_iff_not, Bool.not_eq_true', Bool.not_eq_false', bne_iff_ne, ne_eq, bne_eq_false_iff_eq, beq_iff_eq, beq_eq_false_iff_ne, Int.not_lt, Int.not_le, Bool.not_true, Bool.not_false, reduceCtorEq] at *
    rename_i h1
    exact ⟨⟨rfl, by rw [dataS, if_pos h1, ← hls]; rfl⟩⟩
  · have h6 : t = 6 := by subst har; simp [std, icmpS] at *; assumption
    obtain ⟨x, y, rfl⟩ : ∃ x y, nu = [x, y] := by
      match nu, hnu6 h6 with
      | [x, y], _ => exact ⟨x, y, rfl⟩
    have hx4 := put32_len x
    refine get_int har hnu ⟨by decide, by simp⟩ ?_
    intro z hz
    simp at hz; subst hz
    cbv
    repeat' (first | (with_reducible refine and_side ?_ ?_; rotate_left; try cbv) | (exact side_flat har (by assumption)) | (refine calld_intro (sPut32 hP (by assumption) (by first | omega | decide | (simp only [List.length_append, List.length_nil]; omega))) ?_; generalize hls : encB (_ ++ put32 _) = ls; cbv))
    refine get_int har hnu ⟨by decide, by simp⟩ ?_
    intro z hz
    simp at hz; subst hz
    cbv
    repeat' (first | (intro; cbv) | (with_reducible refine and_side ?_ ?_; rotate_left; try cbv) | (refine ChkP.mk (by decide +kernel) ?_; cbv) | (exact side_flat har (by assumption)) | (refine calld_intro (sPut32 hP (by assumption) (by first | omega | decide | (simp only [List.length_append, List.length_nil]; omega))) ?_; generalize hls : encB (_ ++ put32 _) = ls; cbv))
    subst har
    refine ⟨⟨rfl, ?_⟩⟩
    subst h6
    rw [← hls]; rfl
  · subst har; simp only [std, icmpS, decide_eq_true_eq, decide_eq_false_iff_not, Bool.not_eq_true', Bool.not_eq_false', bne_iff_ne, ne_eq, bne_eq_false_iff_eq, beq_iff_eq, beq_eq_false_iff_ne, Int.not_lt, Int.not_le, Bool.not_true, Bool.not_false, reduceCtorEq] at *
    exact ⟨⟨rfl, by rw [dataS, if_neg (by assumption), if_neg (by assumption), hv, if_pos (by assumption), ← hls]; rfl⟩⟩
  · have e := enc_wireL har hnil htx
    rename_i h1 h2 h3 _ _
    refine ⟨⟨rfl, ?_⟩⟩
    have e2 : encB (dataS t addr to tx nu) = encB (wireL tx) := by
      rw [dataS, if_neg (by subst har; simpa [std, icmpS] using h1), if_neg (by subst har; simpa [std, icmpS] using h2), hv, if_neg (by rw [h3]; simp)]; rfl
    rw [e2]
    refine congrArg (fun x => [(32, Ob.row 1 x 0 [0] false)]) (Eq.trans ?_ e)
    subst har; rfl
  · refine side_byL (l := [byteOf tx.length]) har (enc_len har htx).symm (by subst har; rfl) htx (by simp; omega)
theorem dataS_len {t addr : Int} {to : List (List UInt8)} {tx : List UInt8} {nu : List Int} (h : NmB to) (hx : tx.length ≤ 1000) : (dataS t addr to tx nu).length ≤ 1001 := by
  have h1 := wireN_len h
  have h2 := put32_len addr
  have h3 := put32_len (nu.getD 0 0)
  have h4 := put32_len (nu.getD 1 0)
  unfold dataS
  split
  · omega
  · split
    · simp only [List.length_append]; omega
    · split
      · omega
      · simp; omega
def rrS (n : List (List UInt8)) (t ttl cls : Int) (d : List UInt8) : List UInt8 := wireN n ++ put16 t ++ put16 cls ++ put32 ttl ++ put16 d.length ++ d
end Go.TL.Tryz

/- TfImN -/
namespace Go.TL.Tryz
open Go Go.TL Go.Proofs
variable {P : Program}

def withinB (a b c : Int) : Bool := decide (b ≤ a ∧ a ≤ c)
set_option maxRecDepth 20000 in
theorem fn29 : Tryz.prog.funcs[29]? = some Tryz.f29 := rfl
set_option maxHeartbeats 40000000 in
set_option maxRecDepth 3000 in
theorem iWithin (hP : Prg P) {a b c : Int} : ACall P 29 [.one (.t (.int .i64 a)), .one (.t (.int .i64 b)), .one (.t (.int .i64 c))] [] (fun r ob => r = .one (.t (.bool (withinB a b c))) ∧ ob = []) := by
  refine acall_fn (md := md) [none] v29 hP.mixed hP.tab (fn_at hP fn29) 3 rfl (by decide +kernel) rfl ?_
  intro ar har
  cbv
  repeat' (first | (refine br_intro ?_ ?_ <;> intro <;> cbv))
  all_goals subst har; simp only [std, icmpS, decide_eq_true_eq, decide_eq_false_iff_not, Bool.not_eq_true', Bool.not_eq_false', bne_iff_ne, ne_eq, bne_eq_false_iff_eq, beq_iff_eq, beq_eq_false_iff_ne, Int.not_lt, Int.not_le, Bool.not_true, Bool.not_false, reduceCtorEq] at *
  · refine ⟨⟨?_, rfl⟩⟩
    rw [withinB]; congr 3; simp; omega
  · exact ⟨⟨by rw [withinB, decide_eq_false (by omega)], rfl⟩⟩
set_option maxRecDepth 20000 in
theorem fn123 : Tryz.prog.funcs[123]? = some Tryz.f123 := rfl
set_option maxHeartbeats 40000000 in
set_option maxRecDepth 3000 in
theorem iCh (hP : Prg P) {a : Int} : ACall P 123 [.one (.t (.int .u8 a))] [] (fun r ob => r = .one (.t (.bool (chOk a))) ∧ ob = []) := by
  refine acall_fn (md := md) [none] v123 hP.mixed hP.tab (fn_at hP fn123) 1 rfl (by decide +kernel) rfl ?_
  intro ar har
  cbv
  repeat' (first | (refine br_intro ?_ ?_ <;> intro <;> cbv))
  all_goals subst har; simp only [std, icmpS, decide_eq_true_eq, decide_eq_false_iff_not, Bool.not_eq_true', Bool.not_eq_false', bne_iff_ne, ne_eq, bne_eq_false_iff_eq, beq_iff_eq, beq_eq_false_iff_ne, Int.not_lt, Int.not_le, Bool.not_true, Bool.not_false, reduceCtorEq] at *
  all_goals refine ⟨⟨?_, rfl⟩⟩
  all_goals rw [chOk]
  all_goals first
    | (rw [decide_eq_true (by omega)]; done)
    | (by_cases e : a = 45
       · rw [decide_eq_true (by omega)]; simp [e]
       · rw [decide_eq_false (by omega)]; simp [e])
abbrev fCh : T := .fn (.func 152) [] [.pt [.fn (.func 123) [] []] 0]
set_option maxRecDepth 20000 in
theorem fn152 : Tryz.prog.funcs[152]? = some Tryz.f152 := rfl
set_option maxHeartbeats 40000000 in
set_option maxRecDepth 3000 in
theorem iAllB1 (hP : Prg P) {a : Int} : ACall P 152 [.one (.t (.int .u8 a)), .one (.t (.pt [.fn (.func 123) [] []] 0))] [] (fun r ob => r = .one (.t (.bool (!chOk a))) ∧ ob = []) := by
  refine acall_fn (md := md) [none] v152 hP.mixed hP.tab (fn_at hP fn152) 2 rfl (by decide +kernel) rfl ?_
  intro ar har
  cbv
  repeat' (first | (refine call_intro (iCh hP) ?_; rintro r ob ⟨rfl, rfl⟩; generalize hch : chOk _ = ch; cbv))
  subst har; simp only [std, icmpS, decide_eq_true_eq, decide_eq_false_iff_not, Bool.not_eq_true', Bool.not_eq_false', bne_iff_ne, ne_eq, bne_eq_false_iff_eq, beq_iff_eq, beq_eq_false_iff_ne, Int.not_lt, Int.not_le, Bool.not_true, Bool.not_false, reduceCtorEq] at *
  exact ⟨⟨by first | rfl | rw [hch], rfl⟩⟩
set_option maxRecDepth 20000 in
theorem fn165 : Tryz.prog.funcs[165]? = some Tryz.f165 := rfl
set_option maxHeartbeats 40000000 in
set_option maxRecDepth 3000 in
theorem iIdxB (hP : Prg P) {l : List UInt8} {ls : List (List T)} (hl : encB l = ls) : ACall P 165 [.one (.t (.sl ls)), .one (.t (.fn (.func 152) [] [.pt [.fn (.func 123) [] []] 0]))] []
    (fun r ob => ∃ v, (0 ≤ v ↔ (l.all fun x => chOk (iB x)) = false) ∧ r = .one (.t (.int .i64 v)) ∧ ob = []) := by
  refine acall_fn (md := md) [none] v165 hP.mixed hP.tab (fn_at hP fn165) 2 rfl (by decide +kernel) rfl ?_
  intro ar har
  cbv
  repeat' (first | (intro; cbv))
  refine LoopP.mk Int [0, 1, 7, 8] [] (fun i => ⟨[(0, .one (.t (.sl ls))), (1, .one (.t (.fn (.func 152) [] [.pt [.fn (.func 123) [] []] 0]))), (7, .one (.t (.int .i64 (ar.len ls)))), (8, .one (.t (.int .i64 i)))], []⟩)
    (fun i => 0 ≤ i ∧ ((l.take i.toNat).all fun x => chOk (iB x)) = true) (fun i => l.length - i.toNat) 0 ?e ?f ?g
  case e => kernel_rfl
  case f => simp
  case g =>
    intro i hi
    have hi0 : 0 ≤ i := hi.1
    have hi1 : ((l.take i.toNat).all fun x => chOk (iB x)) = true := hi.2
    clear hi
    cbv
    repeat' (first | (intro; cbv) | (refine br_intro ?_ ?_ <;> intro <;> cbv) | (refine get_lt har (by assumption) (by assumption) (by assumption) ?_; intro x xx hx hxx; cbv) | (refine call_intro (iAllB1 hP) ?_; rintro r ob ⟨rfl, rfl⟩; generalize hch : (!chOk _) = ch; cbv))
    all_goals have hlen := encB_len hl
    all_goals subst har; simp only [std, icmpS, decide_eq_true_eq, decide_eq_false_iff_not, Bool.not_eq_true', Bool.not_eq_false', bne_iff_ne, ne_eq, bne_eq_false_iff_eq, beq_iff_eq, beq_eq_false_iff_ne, Int.not_lt, Int.not_le, Bool.not_true, Bool.not_false, reduceCtorEq] at *
    · exact ⟨⟨i, ⟨fun _ => all_bad (p := fun x => chOk (iB x)) hx (by rw [hxx]; simp_all), fun _ => hi0⟩, rfl, rfl⟩⟩
    · rw [addI (a := i) (b := 1) (by omega) (by omega)]
      exact ⟨i + 1, by kernel_rfl, ⟨by omega, by rw [show (i + 1).toNat = i.toNat + 1 by omega]; exact all_take_succ hx hi1 (by rw [hxx]; simp_all)⟩, by omega⟩
    · rw [take_all (by omega)] at hi1
      exact ⟨⟨-1, ⟨fun h => absurd h (by decide), fun h => by rw [hi1] at h; cases h⟩, rfl, rfl⟩⟩
set_option maxRecDepth 20000 in
theorem fn151 : Tryz.prog.funcs[151]? = some Tryz.f151 := rfl
set_option maxHeartbeats 40000000 in
set_option maxRecDepth 3000 in
theorem iConB (hP : Prg P) {l : List UInt8} {ls : List (List T)} (hl : encB l = ls) : ACall P 151 [.one (.t (.sl ls)), .one (.t (.fn (.func 152) [] [.pt [.fn (.func 123) [] []] 0]))] []
    (fun r ob => r = .one (.t (.bool (!l.all fun x => chOk (iB x)))) ∧ ob = []) := by
  refine acall_fn (md := md) [none] v151 hP.mixed hP.tab (fn_at hP fn151) 2 rfl (by decide +kernel) rfl ?_
  intro ar har
  cbv
  repeat' (first | (refine call_intro (iIdxB hP (by assumption)) ?_; rintro r ob ⟨v, hv, rfl, rfl⟩; cbv))
  subst har; simp only [std, icmpS, decide_eq_true_eq, decide_eq_false_iff_not, Bool.not_eq_true', Bool.not_eq_false', bne_iff_ne, ne_eq, bne_eq_false_iff_eq, beq_iff_eq, beq_eq_false_iff_ne, Int.not_lt, Int.not_le, Bool.not_true, Bool.not_false, reduceCtorEq] at *
  refine ⟨⟨?_, rfl⟩⟩
  by_cases h : (0 : Int) ≤ v
  · rw [hv.1 h]; simp [h]
  · have : (l.all fun x => chOk (iB x)) = true := by
      cases e : l.all fun x => chOk (iB x) with
      | true => rfl
      | false => exact absurd (hv.2 e) h
    rw [this]; simp [h]
set_option maxRecDepth 20000 in
theorem fn122 : Tryz.prog.funcs[122]? = some Tryz.f122 := rfl
set_option maxHeartbeats 40000000 in
set_option maxRecDepth 3000 in
theorem iAllB (hP : Prg P) {l : List UInt8} {ls : List (List T)} (hl : encB l = ls) : ACall P 122 [.one (.t (.sl ls)), .one (.t (.fn (.func 123) [] []))] []
    (fun r ob => r = .one (.t (.bool (l.all fun x => chOk (iB x)))) ∧ ob = []) := by
  refine acall_fn (md := md) [none] v122 hP.mixed hP.tab (fn_at hP fn122) 2 rfl (by decide +kernel) rfl ?_
  intro ar har
  cbv
  repeat' (first | (refine call_intro (iConB hP (by assumption)) ?_; rintro r ob ⟨rfl, rfl⟩; generalize hcb : (!List.all _ _) = cb; cbv))
  subst har; simp only [std, icmpS, decide_eq_true_eq, decide_eq_false_iff_not, Bool.not_eq_true', Bool.not_eq_false', bne_iff_ne, ne_eq, bne_eq_false_iff_eq, beq_iff_eq, beq_eq_false_iff_ne, Int.not_lt, Int.not_le, Bool.not_true, Bool.not_false, reduceCtorEq] at *
  exact ⟨⟨by rw [← hcb]; simp, rfl⟩⟩
set_option maxRecDepth 20000 in
theorem fn80 : Tryz.prog.funcs[80]? = some Tryz.f80 := rfl
set_option maxHeartbeats 40000000 in
set_option maxRecDepth 3000 in
theorem iLabelOk (hP : Prg P) {l : List UInt8} {ls : List (List T)} (hl : encB l = ls) : ACall P 80 [.one (.t (.sl ls))] [] (fun r ob => r = .one (.t (.bool (labelOk l))) ∧ ob = []) := by
  refine acall_fn (md := md) [none] v80 hP.mixed hP.tab (fn_at hP fn80) 1 rfl (by decide +kernel) rfl ?_
  intro ar har
  cbv
  repeat' (first | (intro; cbv) | (refine br_intro ?_ ?_ <;> intro <;> cbv) | (refine call_intro (iWithin hP) ?_; rintro r ob ⟨rfl, rfl⟩; generalize hwi : withinB _ _ _ = wi; cbv) | (refine call_intro (iAllB hP (by assumption)) ?_; rintro r ob ⟨rfl, rfl⟩; generalize hab : List.all _ _ = ab; cbv))
  all_goals have hlen := encB_len hl
  all_goals subst har; simp only [std, icmpS, decide_eq_true_eq, decide_eq_false_iff_not, Bool.not_eq_true', Bool.not_eq_false', bne_iff_ne, ne_eq, bne_eq_false_iff_eq, beq_iff_eq, beq_eq_false_iff_ne, Int.not_lt, Int.not_le, Bool.not_true, Bool.not_false, reduceCtorEq] at *
  · refine ⟨⟨?_, rfl⟩⟩
    rename_i hw _
    rw [hw] at hwi
    simp only [withinB, decide_eq_true_eq] at hwi
    rw [labelOk, hab, decide_eq_true (by omega), decide_eq_true (by omega)]; simp
  · refine ⟨⟨?_, rfl⟩⟩
    rename_i hw _
    rw [hw] at hwi
    simp only [withinB, decide_eq_false_iff_not] at hwi
    by_cases e : 1 ≤ l.length
    · rw [labelOk, decide_eq_false (p := l.length ≤ 15) (by omega)]; simp
    · rw [labelOk, decide_eq_false e]; simp
set_option maxRecDepth 20000 in
theorem fn146 : Tryz.prog.funcs[146]? = some Tryz.f146 := rfl
set_option maxHeartbeats 40000000 in
set_option maxRecDepth 3000 in
theorem iAllN1 (hP : Prg P) {l : List UInt8} {ls : List (List T)} (hl : encB l = ls) : ACall P 146 [.one (.t (.sl ls)), .one (.t (.pt [.fn (.func 80) [] []] 0))] [] (fun r ob => r = .one (.t (.bool (!labelOk l))) ∧ ob = []) := by
  refine acall_fn (md := md) [none] v146 hP.mixed hP.tab (fn_at hP fn146) 2 rfl (by decide +kernel) rfl ?_
  intro ar har
  cbv
  repeat' (first | (refine call_intro (iLabelOk hP (by assumption)) ?_; rintro r ob ⟨rfl, rfl⟩; generalize hlo : labelOk _ = lo; cbv))
  subst har; simp only [std, icmpS, decide_eq_true_eq, decide_eq_false_iff_not, Bool.not_eq_true', Bool.not_eq_false', bne_iff_ne, ne_eq, bne_eq_false_iff_eq, beq_iff_eq, beq_eq_false_iff_ne, Int.not_lt, Int.not_le, Bool.not_true, Bool.not_false, reduceCtorEq] at *
  exact ⟨⟨by first | rfl | rw [hlo], rfl⟩⟩
set_option maxRecDepth 20000 in
theorem fn163 : Tryz.prog.funcs[163]? = some Tryz.f163 := rfl
set_option maxHeartbeats 40000000 in
set_option maxRecDepth 3000 in
theorem iIdxN (hP : Prg P) {n : List (List UInt8)} {ns : List (List T)} (hn : encN n = ns) : ACall P 163 [.one (.t (.sl ns)), .one (.t (.fn (.func 146) [] [.pt [.fn (.func 80) [] []] 0]))] []
    (fun r ob => ∃ v, (0 ≤ v ↔ n.all labelOk = false) ∧ r = .one (.t (.int .i64 v)) ∧ ob = []) := by
  refine acall_fn (md := md) [none] v163 hP.mixed hP.tab (fn_at hP fn163) 2 rfl (by decide +kernel) rfl ?_
  intro ar har
  cbv
  repeat' (first | (intro; cbv))
  refine LoopP.mk Int [0, 1, 7, 8] [] (fun i => ⟨[(0, .one (.t (.sl ns))), (1, .one (.t (.fn (.func 146) [] [.pt [.fn (.func 80) [] []] 0]))), (7, .one (.t (.int .i64 (ar.len ns)))), (8, .one (.t (.int .i64 i)))], []⟩)
    (fun i => 0 ≤ i ∧ (n.take i.toNat).all labelOk = true) (fun i => n.length - i.toNat) 0 ?e ?f ?g
  case e => kernel_rfl
  case f => simp
  case g =>
    intro i hi
    have hi0 : 0 ≤ i := hi.1
    have hi1 : (n.take i.toNat).all labelOk = true := hi.2
    clear hi
    cbv
    repeat' (first | (intro; cbv) | (refine br_intro ?_ ?_ <;> intro <;> cbv) | (refine get_ltN har (by assumption) (by assumption) (by assumption) ?_; intro x xx hx hxx; cbv) | (refine call_intro (iAllN1 hP (by assumption)) ?_; rintro r ob ⟨rfl, rfl⟩; generalize hlo : (!labelOk _) = lo; cbv))
    all_goals have hlen := encN_len hn
    all_goals subst har; simp only [std, icmpS, decide_eq_true_eq, decide_eq_false_iff_not, Bool.not_eq_true', Bool.not_eq_false', bne_iff_ne, ne_eq, bne_eq_false_iff_eq, beq_iff_eq, beq_eq_false_iff_ne, Int.not_lt, Int.not_le, Bool.not_true, Bool.not_false, reduceCtorEq] at *
    · exact ⟨⟨i, ⟨fun _ => all_bad (p := labelOk) hx (by simp_all), fun _ => hi0⟩, rfl, rfl⟩⟩
    · rw [addI (a := i) (b := 1) (by omega) (by omega)]
      exact ⟨i + 1, by kernel_rfl, ⟨by omega, by rw [show (i + 1).toNat = i.toNat + 1 by omega]; exact all_take_succ hx hi1 (by simp_all)⟩, by omega⟩
    · rw [take_all (by omega)] at hi1
      exact ⟨⟨-1, ⟨fun h => absurd h (by decide), fun h => by rw [hi1] at h; cases h⟩, rfl, rfl⟩⟩
set_option maxRecDepth 20000 in
theorem fn145 : Tryz.prog.funcs[145]? = some Tryz.f145 := rfl
set_option maxHeartbeats 40000000 in
set_option maxRecDepth 3000 in
theorem iConN (hP : Prg P) {n : List (List UInt8)} {ns : List (List T)} (hn : encN n = ns) : ACall P 145 [.one (.t (.sl ns)), .one (.t (.fn (.func 146) [] [.pt [.fn (.func 80) [] []] 0]))] []
    (fun r ob => r = .one (.t (.bool (!n.all labelOk))) ∧ ob = []) := by
  refine acall_fn (md := md) [none] v145 hP.mixed hP.tab (fn_at hP fn145) 2 rfl (by decide +kernel) rfl ?_
  intro ar har
  cbv
  repeat' (first | (refine call_intro (iIdxN hP (by assumption)) ?_; rintro r ob ⟨v, hv, rfl, rfl⟩; cbv))
  subst har; simp only [std, icmpS, decide_eq_true_eq, decide_eq_false_iff_not, Bool.not_eq_true', Bool.not_eq_false', bne_iff_ne, ne_eq, bne_eq_false_iff_eq, beq_iff_eq, beq_eq_false_iff_ne, Int.not_lt, Int.not_le, Bool.not_true, Bool.not_false, reduceCtorEq] at *
  refine ⟨⟨?_, rfl⟩⟩
  by_cases h : (0 : Int) ≤ v
  · rw [hv.1 h]; simp [h]
  · have : n.all labelOk = true := by
      cases e : n.all labelOk with
      | true => rfl
      | false => exact absurd (hv.2 e) h
    rw [this]; simp [h]
set_option maxRecDepth 20000 in
theorem fn110 : Tryz.prog.funcs[110]? = some Tryz.f110 := rfl
set_option maxHeartbeats 40000000 in
set_option maxRecDepth 3000 in
theorem iAllN (hP : Prg P) {n : List (List UInt8)} {ns : List (List T)} (hn : encN n = ns) : ACall P 110 [.one (.t (.sl ns)), .one (.t (.fn (.func 80) [] []))] []
    (fun r ob => r = .one (.t (.bool (n.all labelOk))) ∧ ob = []) := by
  refine acall_fn (md := md) [none] v110 hP.mixed hP.tab (fn_at hP fn110) 2 rfl (by decide +kernel) rfl ?_
  intro ar har
  cbv
  repeat' (first | (refine call_intro (iConN hP (by assumption)) ?_; rintro r ob ⟨rfl, rfl⟩; generalize hcb : (!List.all _ _) = cb; cbv))
  subst har; simp only [std, icmpS, decide_eq_true_eq, decide_eq_false_iff_not, Bool.not_eq_true', Bool.not_eq_false', bne_iff_ne, ne_eq, bne_eq_false_iff_eq, beq_iff_eq, beq_eq_false_iff_ne, Int.not_lt, Int.not_le, Bool.not_true, Bool.not_false, reduceCtorEq] at *
  exact ⟨⟨by rw [← hcb]; simp, rfl⟩⟩
set_option maxRecDepth 20000 in
theorem fn70 : Tryz.prog.funcs[70]? = some Tryz.f70 := rfl
set_option maxHeartbeats 40000000 in
set_option maxRecDepth 3000 in
theorem iNameOk (hP : Prg P) {n : List (List UInt8)} {ns : List (List T)} (hn : encN n = ns) : ACall P 70 [.agg [.t (.sl ns)]] [] (fun r ob => r = .one (.t (.bool (nameOk n))) ∧ ob = []) := by
  refine acall_fn (md := md) [none] v70 hP.mixed hP.tab (fn_at hP fn70) 1 rfl (by decide +kernel) rfl ?_
  intro ar har
  cbv
  repeat' (first | (intro; cbv) | (refine br_intro ?_ ?_ <;> intro <;> cbv) | (refine call_intro (iAllN hP (by assumption)) ?_; rintro r ob ⟨rfl, rfl⟩; generalize hab : List.all _ _ = ab; cbv))
  all_goals have hlen := encN_len hn
  all_goals subst har; simp only [std, icmpS, decide_eq_true_eq, decide_eq_false_iff_not, Bool.not_eq_true', Bool.not_eq_false', bne_iff_ne, ne_eq, bne_eq_false_iff_eq, beq_iff_eq, beq_eq_false_iff_ne, Int.not_lt, Int.not_le, Bool.not_true, Bool.not_false, reduceCtorEq] at *
  · exact ⟨⟨by rw [nameOk, hab, decide_eq_true (by omega)]; simp, rfl⟩⟩
  · exact ⟨⟨by rw [nameOk, decide_eq_false (by omega)]; simp, rfl⟩⟩
def isWordB (n : Int) : Bool := withinB n 0 4294967295
set_option maxRecDepth 20000 in
theorem fn113 : Tryz.prog.funcs[113]? = some Tryz.f113 := rfl
set_option maxHeartbeats 40000000 in
set_option maxRecDepth 3000 in
theorem iIsWord (hP : Prg P) {n : Int} : ACall P 113 [.one (.t (.int .i64 n))] [] (fun r ob => r = .one (.t (.bool (isWordB n))) ∧ ob = []) := by
  refine acall_fn (md := md) [none] v113 hP.mixed hP.tab (fn_at hP fn113) 1 rfl (by decide +kernel) rfl ?_
  intro ar har
  cbv
  repeat' (first | (refine call_intro (iWithin hP) ?_; rintro r ob ⟨rfl, rfl⟩; generalize hwi : withinB _ _ _ = wi; cbv))
  exact ⟨⟨by rw [isWordB, hwi], rfl⟩⟩
set_option maxRecDepth 20000 in
theorem fn114 : Tryz.prog.funcs[114]? = some Tryz.f114 := rfl
set_option maxHeartbeats 40000000 in
set_option maxRecDepth 3000 in
theorem iHasTo (hP : Prg P) {t : Int} : ACall P 114 [.one (.t (.int .i64 t))] [] (fun r ob => r = .one (.t (.bool (namedB t))) ∧ ob = []) := by
  refine acall_fn (md := md) [none] v114 hP.mixed hP.tab (fn_at hP fn114) 1 rfl (by decide +kernel) rfl ?_
  intro ar har
  cbv
  repeat' (first | (refine br_intro ?_ ?_ <;> intro <;> cbv))
  all_goals subst har; simp only [std, icmpS, decide_eq_true_eq, decide_eq_false_iff_not, Bool.not_eq_true', Bool.not_eq_false', bne_iff_ne, ne_eq, bne_eq_false_iff_eq, beq_iff_eq, beq_eq_false_iff_ne, Int.not_lt, Int.not_le, Bool.not_true, Bool.not_false, reduceCtorEq] at *
  · exact ⟨⟨by rw [namedB, decide_eq_true (by omega)], rfl⟩⟩
  · exact ⟨⟨by rw [namedB, decide_eq_true (by omega)], rfl⟩⟩
  · exact ⟨⟨by rw [namedB, decide_eq_true (by omega)], rfl⟩⟩
  · refine ⟨⟨?_, rfl⟩⟩
    rw [namedB]
    by_cases e : t = 12
    · rw [decide_eq_true (by omega)]; simp [e]
    · rw [decide_eq_false (by omega)]; simp [e]
def textB (t : Int) : Bool := decide (t = 16 ∨ t = 49)
set_option maxRecDepth 20000 in
theorem fn115 : Tryz.prog.funcs[115]? = some Tryz.f115 := rfl
set_option maxHeartbeats 40000000 in
set_option maxRecDepth 3000 in
theorem iHasText (hP : Prg P) {t : Int} : ACall P 115 [.one (.t (.int .i64 t))] [] (fun r ob => r = .one (.t (.bool (textB t))) ∧ ob = []) := by
  refine acall_fn (md := md) [none] v115 hP.mixed hP.tab (fn_at hP fn115) 1 rfl (by decide +kernel) rfl ?_
  intro ar har
  cbv
  repeat' (first | (refine br_intro ?_ ?_ <;> intro <;> cbv))
  all_goals subst har; simp only [std, icmpS, decide_eq_true_eq, decide_eq_false_iff_not, Bool.not_eq_true', Bool.not_eq_false', bne_iff_ne, ne_eq, bne_eq_false_iff_eq, beq_iff_eq, beq_eq_false_iff_ne, Int.not_lt, Int.not_le, Bool.not_true, Bool.not_false, reduceCtorEq] at *
  · exact ⟨⟨by rw [textB, decide_eq_true (by omega)], rfl⟩⟩
  · refine ⟨⟨?_, rfl⟩⟩
    rw [textB]
    by_cases e : t = 49
    · rw [decide_eq_true (by omega)]; simp [e]
    · rw [decide_eq_false (by omega)]; simp [e]
set_option maxRecDepth 20000 in
theorem fn139 : Tryz.prog.funcs[139]? = some Tryz.f139 := rfl
set_option maxHeartbeats 40000000 in
set_option maxRecDepth 3000 in
theorem sTexted (hP : Prg P) {t : Int} : ACall P 139 [.one (.t (.int .i64 t))] [] (fun r ob => r = .one (.t (.bool (textB t))) ∧ ob = []) := by
  refine acall_fn (md := md) [none] v139 hP.mixed hP.tab (fn_at hP fn139) 1 rfl (by decide +kernel) rfl ?_
  intro ar har
  cbv
  repeat' (first | (refine br_intro ?_ ?_ <;> intro <;> cbv))
  all_goals subst har; simp only [std, icmpS, decide_eq_true_eq, decide_eq_false_iff_not, Bool.not_eq_true', Bool.not_eq_false', bne_iff_ne, ne_eq, bne_eq_false_iff_eq, beq_iff_eq, beq_eq_false_iff_ne, Int.not_lt, Int.not_le, Bool.not_true, Bool.not_false, reduceCtorEq] at *
  · exact ⟨⟨by rw [textB, decide_eq_true (by omega)], rfl⟩⟩
  · refine ⟨⟨?_, rfl⟩⟩
    rw [textB]
    by_cases e : t = 49
    · rw [decide_eq_true (by omega)]; simp [e]
    · rw [decide_eq_false (by omega)]; simp [e]
def typeB (t : Int) : Bool := decide (t = 1 ∨ t = 2 ∨ t = 5 ∨ t = 6 ∨ t = 12 ∨ t = 16 ∨ t = 49)
set_option maxRecDepth 20000 in
theorem fn98 : Tryz.prog.funcs[98]? = some Tryz.f98 := rfl
set_option maxHeartbeats 40000000 in
set_option maxRecDepth 3000 in
theorem sTypeOk (hP : Prg P) {t : Int} : ACall P 98 [.one (.t (.int .i64 t))] [] (fun r ob => r = .one (.t (.bool (typeB t))) ∧ ob = []) := by
  refine acall_fn (md := md) [none] v98 hP.mixed hP.tab (fn_at hP fn98) 1 rfl (by decide +kernel) rfl ?_
  intro ar har
  cbv
  repeat' (first | (refine br_intro ?_ ?_ <;> intro <;> cbv))
  all_goals subst har; simp only [std, icmpS, decide_eq_true_eq, decide_eq_false_iff_not, Bool.not_eq_true', Bool.not_eq_false', bne_iff_ne, ne_eq, bne_eq_false_iff_eq, beq_iff_eq, beq_eq_false_iff_ne, Int.not_lt, Int.not_le, Bool.not_true, Bool.not_false, reduceCtorEq] at *
  all_goals first
    | (exfalso; omega)
    | exact ⟨⟨by rw [typeB, decide_eq_true (by omega)], rfl⟩⟩
    | exact ⟨⟨by rw [typeB, decide_eq_false (by omega)], rfl⟩⟩
end Go.TL.Tryz

/- TfRrOk -/
namespace Go.TL.Tryz
open Go Go.TL Go.Proofs
variable {P : Program}

theorem get_twoA {ar : Ar} (har : ar = std) {b : List Int} {es : List (List T)} {i : Int} {K : List T → Prop} (hes : encI b = es) (h : ar.icmp .neq (ar.len es) 2 = false) (hi : 0 ≤ i ∧ i < 2)
    (k : ∀ (x : Int), b[i.toNat]? = some x → K [.int .i64 x]) : GetP ar es i K := by
  refine get_int har hes ⟨hi.1, ?_⟩ k
  have := encI_len hes
  subst har; simp [std, icmpS] at h; omega
theorem get_twoB {ar : Ar} (har : ar = std) {b : List Int} {es : List (List T)} {i : Int} {K : List T → Prop} (hes : encI b = es) (h : ar.icmp .eql (ar.len es) 2 = true) (hi : 0 ≤ i ∧ i < 2)
    (k : ∀ (x : Int), b[i.toNat]? = some x → K [.int .i64 x]) : GetP ar es i K := by
  refine get_int har hes ⟨hi.1, ?_⟩ k
  have := encI_len hes
  subst har; simp [std, icmpS] at h; omega
theorem get_atI {ar : Ar} (har : ar = std) {b : List Int} {es : List (List T)} {i x : Int} {K : List T → Prop} (hes : encI b = es) (hx : b[i.toNat]? = some x) (hi : 0 ≤ i) (k : K [.int .i64 x]) : GetP ar es i K :=
  get_int har hes ⟨hi, (List.getElem?_eq_some_iff.1 hx).1⟩ fun y h => by rw [hx] at h; injection h with h; subst h; exact k
def numsOk (t : Int) (nu : List Int) : Bool :=
  if t = 6 then decide (nu.length = 2) && (isWordB (nu.getD 0 0) && withinB (nu.getD 1 0) 0 100000) else decide (nu.length = 0)
def dataOk (t addr : Int) (to : List (List UInt8)) (tx : List UInt8) (nu : List Int) : Bool :=
  (if t = 1 then isWordB addr else decide (addr = 0)) && ((if namedB t then nameOk to else decide (to.length = 0)) && ((if textB t then decide (tx.length ≤ 40) else decide (tx.length = 0)) && numsOk t nu))
def rrOk (n : List (List UInt8)) (t ttl addr : Int) (to : List (List UInt8)) (tx : List UInt8) (nu : List Int) : Bool :=
  nameOk n && (typeB t && (withinB ttl 0 100000 && dataOk t addr to tx nu))
theorem two_of {nu : List Int} {x y : Int} (h : nu.length = 2) (h0 : nu[0]? = some x) (h1 : nu[1]? = some y) : nu = [x, y] := by
  match nu, h with
  | [a, b], _ => simp at h0 h1; rw [h0, h1]
set_option maxRecDepth 20000 in
theorem fn99 : Tryz.prog.funcs[99]? = some Tryz.f99 := rfl
set_option maxHeartbeats 40000000 in
set_option maxRecDepth 3000 in
theorem sl3data (hP : Prg P) {to : List (List UInt8)} {ns tos txs nus : List (List T)} {t ttl addr : Int} {tx : List UInt8} {nu : List Int} (hto : encN to = tos) (htx : encB tx = txs) (hnu : encI nu = nus) :
    ACall P 99 [.agg [.t (.sl ns), .t (.int .i64 t), .t (.int .i64 ttl), .t (.int .i64 addr), .t (.sl tos), .t (.sl txs), .t (.sl nus)]] []
      (fun r ob => r = .one (.t (.bool (dataOk t addr to tx nu))) ∧ ob = []) := by
  refine acall_fn (md := md) [none] v99 hP.mixed hP.tab (fn_at hP fn99) 1 rfl (by decide +kernel) rfl ?_
  intro ar har
  cbv
  repeat' (first | (intro; cbv) | (refine br_intro ?_ ?_ <;> intro <;> cbv) | (refine get_atI har (by assumption) (by assumption) (by decide) ?_; cbv) | (refine get_twoA har (by assumption) (by assumption) (by decide) ?_; intro x hx; cbv) | (refine call_intro (sNamed hP) ?_; rintro r ob ⟨rfl, rfl⟩; generalize hv : namedB _ = v; cbv) | (refine call_intro (sTexted hP) ?_; rintro r ob ⟨rfl, rfl⟩; generalize hhx : textB _ = hx1; cbv) | (refine call_intro (sNameOk hP (by assumption)) ?_; rintro r ob ⟨rfl, rfl⟩; generalize hv : nameOk _ = v; cbv))
  all_goals have hlen1 := encN_len hto
  all_goals have hlen2 := encB_len htx
  all_goals have hlen3 := encI_len hnu
  all_goals subst har; simp only [std, icmpS, decide_eq_true_eq, decide_eq_false_iff_not, Bool.not_eq_true', Bool.not_eq_false', bne_iff_ne, ne_eq, bne_eq_false_iff_eq, beq_iff_eq, beq_eq_false_iff_ne, Int.not_lt, Int.not_le, Bool.not_true, Bool.not_false, reduceCtorEq] at *
  all_goals (refine ⟨⟨?_, rfl⟩⟩; simp_all [dataOk, numsOk, isWordB, withinB, List.getD, -List.length_eq_zero_iff])
  all_goals first
    | (intros; omega)
    | (rw [Bool.eq_iff_iff]; simp [-List.length_eq_zero_iff]; omega)
    | grind
set_option maxRecDepth 20000 in
theorem fn54 : Tryz.prog.funcs[54]? = some Tryz.f54 := rfl
set_option maxHeartbeats 40000000 in
set_option maxRecDepth 3000 in
theorem sRrOk (hP : Prg P) {n to : List (List UInt8)} {ns tos txs nus : List (List T)} {t ttl addr : Int} {tx : List UInt8} {nu : List Int} (hn : encN n = ns) (hto : encN to = tos) (htx : encB tx = txs) (hnu : encI nu = nus) :
    ACall P 54 [.agg [.t (.sl ns), .t (.int .i64 t), .t (.int .i64 ttl), .t (.int .i64 addr), .t (.sl tos), .t (.sl txs), .t (.sl nus)]] []
      (fun r ob => r = .one (.t (.bool (rrOk n t ttl addr to tx nu))) ∧ ob = []) := by
  refine acall_fn (md := md) [none] v54 hP.mixed hP.tab (fn_at hP fn54) 1 rfl (by decide +kernel) rfl ?_
  intro ar har
  cbv
  repeat' (first | (refine br_intro ?_ ?_ <;> intro <;> cbv) | (refine call_intro (sNameOk hP (by assumption)) ?_; rintro r ob ⟨rfl, rfl⟩; generalize hv : nameOk _ = v; cbv) | (refine call_intro (sTypeOk hP) ?_; rintro r ob ⟨rfl, rfl⟩; generalize hty : typeB _ = ty; cbv) | (refine call_intro (sl3data hP (by assumption) (by assumption) (by assumption)) ?_; rintro r ob ⟨rfl, rfl⟩; generalize hdo : dataOk _ _ _ _ _ = do1; cbv))
  all_goals try (subst har; simp only [std, icmpS, decide_eq_true_eq, decide_eq_false_iff_not, Bool.not_eq_true', Bool.not_eq_false', bne_iff_ne, ne_eq, bne_eq_false_iff_eq, beq_iff_eq, beq_eq_false_iff_ne, Int.not_lt, Int.not_le, Bool.not_true, Bool.not_false, reduceCtorEq] at *)
  all_goals refine ⟨⟨?_, rfl⟩⟩
  all_goals simp_all [rrOk, withinB]
  all_goals first
    | (intros; omega)
    | grind
end Go.TL.Tryz
