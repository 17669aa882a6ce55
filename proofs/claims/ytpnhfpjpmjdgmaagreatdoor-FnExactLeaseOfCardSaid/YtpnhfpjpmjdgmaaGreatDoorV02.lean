/- Texts of a proof, joined by a program (merge.py): TlH TlI TlJ TlK TlL. -/
import Derived.Test.YtpnhfpjpmjdgmaaGreatDoorV01
import Derived.Laws.OwnMore
set_option linter.all false
/- TlH -/
namespace Go.TL
open Go

variable {P : Program} {E : Env P} {ok : Nat → Prop} {hd : HF} {tm : Nat → Option A} {ob : OF} {w : World} {a : Act} {K : A → Obs → Prop} {o : Oper} {tab : TF} {cl : Nat → List A → Obs → (A → Obs → Prop) → Prop}

theorem goes_t {v : Value} {t : T} (R : Rel E ok hd tm ob a.tmps w) (hr : (execOp a.eval o).run P w = .ok (.value v) w) (hk : K (.one (.t t)) []) (hv : Rep w ok v t) : Goes P E tm ob a.tmps K o a w :=
  goes_value hr hk R (.one _ _ hv)

theorem eqGuard_plain {op : BinOp} {t : TypeId} {x y : Operand} {u v : Value} (h : ∀ n, u ≠ n ∨ n ≠ .nilIface) (h2 : ∀ c, u ≠ .agg c) : (eqGuard op t x y u v).run P w = .ok () w := by
  have h1 : u ≠ .nilIface := fun e => by cases h .nilIface with | inl q => exact q e | inr q => exact q rfl
  cases op <;> first | rfl | (cases u <;> first | exact absurd rfl h1 | exact absurd rfl (h2 _) | rfl)

theorem run_bin {op : BinOp} {t yt : TypeId} {x y : Operand} {r : Value} (ho : o.op = .binOp op t x y yt) (h : a.eval x ≠ .nilIface) (h2 : ∀ c, a.eval x ≠ .agg c) (hb : (binOp op t (a.eval x) (a.eval y)).run P w = .ok r w) :
    (execOp a.eval o).run P w = .ok (.value r) w := by
  have hg : (eqGuard op t x y (a.eval x) (a.eval y)).run P w = .ok () w := eqGuard_plain (fun n => by
    by_cases e : n = .nilIface
    · subst e; exact .inl h
    · exact .inr e) h2
  simp [execOp, ho, hg, hb]

theorem has_rem {k : IntKind} {x y : Int} (hx : k.has x) : k.has (x.tmod y) := by
  have h1 := Int.natAbs_tmod x y
  have h2 : x.natAbs % y.natAbs ≤ x.natAbs := Nat.mod_le _ _
  rcases Int.le_total 0 x with h | h
  · have h3 : 0 ≤ x.tmod y := Int.tmod_nonneg y h
    have : x.tmod y ≤ x := by omega
    unfold IntKind.has at *
    have : k.min ≤ 0 := by cases k <;> simp [IntKind.min, IntKind.signed, IntKind.bits]
    omega
  · have h3 : 0 ≤ (-x).tmod y := Int.tmod_nonneg y (by omega)
    rw [Int.neg_tmod] at h3
    have : x ≤ x.tmod y := by omega
    unfold IntKind.has at *
    have : 0 ≤ k.max := by cases k <;> simp [IntKind.max, IntKind.signed, IntKind.bits]
    omega
theorem has_shr {k : IntKind} {x : Int} {n : Nat} (hx : k.has x) : k.has (x.fdiv (2 ^ n)) := by
  have hp : (0 : Int) < 2 ^ n := Int.pow_pos (by omega)
  have hp1 : (1 : Int) ≤ 2 ^ n := by omega
  rw [Int.fdiv_eq_ediv_of_nonneg _ (by omega)]
  have e := Int.mul_ediv_add_emod x (2 ^ n)
  have e1 := Int.emod_nonneg x (b := 2 ^ n) (by omega)
  have e2 := Int.emod_lt_of_pos x hp
  have hmn : k.min ≤ 0 := by cases k <;> simp [IntKind.min, IntKind.signed, IntKind.bits]
  have hmx : 0 ≤ k.max := by cases k <;> simp [IntKind.max, IntKind.signed, IntKind.bits]
  unfold IntKind.has at *
  rcases Int.le_total 0 x with h | h
  · have h1 : 0 ≤ x / 2 ^ n := Int.ediv_nonneg h (by omega)
    have h2 : x / 2 ^ n ≤ x := Int.ediv_le_self _ h
    omega
  · have h1 : x / 2 ^ n ≤ 0 := by
      rcases Int.lt_or_le 0 (x / 2 ^ n) with q | q
      · have : 0 < 2 ^ n * (x / 2 ^ n) := Int.mul_pos hp q
        omega
      · exact q
    have h2 : x ≤ x / 2 ^ n := by
      rcases Int.lt_or_le (x / 2 ^ n) x with q | q
      · have h5 : x / 2 ^ n ≤ x - 1 := by omega
        have h6 : x ≤ x / 2 ^ n := by
          have := Int.le_ediv_of_mul_le (a := x) (b := x) hp (by
            have : x * 2 ^ n ≤ x * 1 := Int.mul_le_mul_of_nonpos_left h hp1
            omega)
          exact this
        exact h6
      · exact q
    omega

theorem bif_inv {b : Bool} {s : SR} (h : (bif b then s else SR.bad).holds std cl K) : b = true ∧ s.holds std cl K := by
  cases b with
  | true => exact ⟨rfl, h⟩
  | false => exact h.elim

theorem isBool_und (hT : TabOk P tab) {t : Nat} (h : isBool tab t = true) : P.underlying t = some .bool := by
  unfold isBool at h
  split at h
  · rename_i ti hti
    split at h
    · rename_i hk
      obtain ⟨d, h1, h2, _⟩ := (hT t ti hti).kd
      rw [hk] at h2; rw [h1]; exact congrArg some h2
    · cases h
  · cases h
theorem isSlice_und (hT : TabOk P tab) {t : Nat} (h : isSlice tab t = true) : ∃ e, P.underlying t = some (.slice e) := by
  unfold isSlice at h
  split at h
  · rename_i ti hti
    split at h
    · rename_i e hk
      obtain ⟨d, h1, h2, _⟩ := (hT t ti hti).kd
      rw [hk] at h2; rw [h1]; exact ⟨e, congrArg some h2⟩
    · cases h
  · cases h
theorem bytesLess_total : ∀ x y : List UInt8, (Op.bytesLess x y || x == y) = !(Op.bytesLess y x)
  | [], [] => rfl
  | [], _ :: _ => rfl
  | _ :: _, [] => rfl
  | a :: x, b :: y => by
    have ih := bytesLess_total x y
    simp only [Op.bytesLess]
    rcases Nat.lt_trichotomy a.toNat b.toNat with h | h | h
    · have h1 : a < b := h
      have h2 : ¬ b < a := by intro q; have : b.toNat < a.toNat := q; omega
      have h3 : (b == a) = false := by simp; intro e; subst e; omega
      simp [h1, h2, h3]
    · have : a = b := UInt8.toNat_inj.1 h
      subst this
      have h2 : ¬ a < a := by intro q; have : a.toNat < a.toNat := q; omega
      simpa [h2] using ih
    · have h1 : b < a := h
      have h2 : ¬ a < b := by intro q; have : a.toNat < b.toNat := q; omega
      have h3 : (a == b) = false := by simp; intro e; subst e; omega
      simp [h1, h2, h3]

theorem run_eq_bool {t : TypeId} (hu : P.underlying t = some .bool) (x y : Bool) : (Op.equal t (.bool x) (.bool y)).run P w = .ok (x == y) w := by
  have : ∀ d, (Op.equalIn (d + 1) t (.bool x) (.bool y)).run P w = .ok (x == y) w := fun d => by simp [Op.equalIn, run_underlying hu]
  exact this 9999
theorem run_eq_slice {t e : TypeId} (hu : P.underlying t = some (.slice e)) (x : Option Addr) (n c : Nat) : (Op.equal t (.slice x n c) (.slice none 0 0)).run P w = .ok x.isNone w := by
  have : ∀ d, (Op.equalIn (d + 1) t (.slice x n c) (.slice none 0 0)).run P w = .ok x.isNone w := fun d => by cases x <;> simp [Op.equalIn, run_underlying hu]
  exact this 9999

theorem bytesLess_ofList (x y : ByteArray) : Op.bytesLess x.toList y.toList = Op.bytesLess x.data.toList y.data.toList := by
  rw [ByteArray.toList_eq, ByteArray.toList_eq]

theorem op_bin {op : BinOp} {t yt : TypeId} {x y : Operand} (ho : o.op = .binOp op t x y yt) (R : Rel E ok hd tm ob a.tmps w)
    (hT : TabOk P tab) (h : (sBin std tab t op (ev tm x) (ev tm y)).holds std cl K) : Goes P E tm ob a.tmps K o a w := by
  unfold sBin at h
  split at h
  · -- numbers
    rename_i k m k' n hx hy
    obtain ⟨ex, hm⟩ := ev_int R hx
    obtain ⟨ey, hn⟩ := ev_int R hy
    have n1 : a.eval x ≠ .nilIface := by rw [ex]; simp
    have n2 : ∀ c, a.eval x ≠ .agg c := by rw [ex]; simp
    split at h
    case h_1 =>
      obtain ⟨h0, h⟩ := h ⟨hm, hn⟩
      refine goes_t R (run_bin ho n1 n2 (r := .int k (iopS .shl k m n)) ?_) h (.int _ _ (wrap_has _ _))
      have : ¬ n < 0 := by have : (0 : Int) ≤ n := h0; omega
      simp [ex, ey, binOp, Op.shift, this, iopS]
    case h_2 =>
      obtain ⟨h0, h⟩ := h ⟨hm, hn⟩
      refine goes_t R (run_bin ho n1 n2 (r := .int k (iopS .shr k m n)) ?_) h (.int _ _ (has_shr hm))
      have : ¬ n < 0 := by have : (0 : Int) ≤ n := h0; omega
      simp [ex, ey, binOp, Op.shift, this, iopS]
    all_goals
      obtain ⟨hk, h'⟩ := bif_inv h
      obtain rfl := of_decide_eq_true hk
      clear h
    case h_3 =>
      obtain ⟨h0, h⟩ := h' ⟨hm, hn⟩
      have h0 : n ≠ 0 := h0
      refine goes_t R (run_bin ho n1 n2 (r := .int k (iopS .quo k m n)) ?_) h (.int _ _ (wrap_has _ _))
      simp [ex, ey, binOp, Op.intDiv, h0, iopS]
    case h_4 =>
      obtain ⟨h0, h⟩ := h' ⟨hm, hn⟩
      have h0 : n ≠ 0 := h0
      refine goes_t R (run_bin ho n1 n2 (r := .int k (iopS .rem k m n)) ?_) h (.int _ _ (has_rem hm))
      simp [ex, ey, binOp, Op.intDiv, h0, iopS]
    case h_5 => exact goes_t R (run_bin ho n1 n2 (r := .bool (icmpS .eql m n)) (by simp [ex, ey, binOp, Op.intCmp, icmpS])) h' (.bool _)
    case h_6 => exact goes_t R (run_bin ho n1 n2 (r := .bool (icmpS .neq m n)) (by simp [ex, ey, binOp, Op.intCmp, icmpS])) h' (.bool _)
    case h_7 => exact goes_t R (run_bin ho n1 n2 (r := .bool (icmpS .lss m n)) (by simp [ex, ey, binOp, Op.intCmp, icmpS])) h' (.bool _)
    case h_8 => exact goes_t R (run_bin ho n1 n2 (r := .bool (icmpS .leq m n)) (by simp [ex, ey, binOp, Op.intCmp, icmpS])) h' (.bool _)
    case h_9 => exact goes_t R (run_bin ho n1 n2 (r := .bool (icmpS .gtr m n)) (by simp [ex, ey, binOp, Op.intCmp, icmpS])) h' (.bool _)
    case h_10 => exact goes_t R (run_bin ho n1 n2 (r := .bool (icmpS .geq m n)) (by simp [ex, ey, binOp, Op.intCmp, icmpS])) h' (.bool _)
    case h_11 => exact goes_t R (run_bin ho n1 n2 (r := .int k (iopS .add k m n)) (by simp [ex, ey, binOp, Op.intArith, iopS])) (h' ⟨hm, hn⟩) (.int _ _ (wrap_has _ _))
    case h_12 => exact goes_t R (run_bin ho n1 n2 (r := .int k (iopS .sub k m n)) (by simp [ex, ey, binOp, Op.intArith, iopS])) (h' ⟨hm, hn⟩) (.int _ _ (wrap_has _ _))
    case h_13 => exact goes_t R (run_bin ho n1 n2 (r := .int k (iopS .mul k m n)) (by simp [ex, ey, binOp, Op.intArith, iopS])) (h' ⟨hm, hn⟩) (.int _ _ (wrap_has _ _))
    case h_14 => exact goes_t R (run_bin ho n1 n2 (r := .int k (iopS .and k m n)) (by simp [ex, ey, binOp, Op.intBits, iopS])) (h' ⟨hm, hn⟩) (.int _ _ (wrap_has _ _))
    case h_15 => exact goes_t R (run_bin ho n1 n2 (r := .int k (iopS .or k m n)) (by simp [ex, ey, binOp, Op.intBits, iopS])) (h' ⟨hm, hn⟩) (.int _ _ (wrap_has _ _))
    case h_16 => exact goes_t R (run_bin ho n1 n2 (r := .int k (iopS .xor k m n)) (by simp [ex, ey, binOp, Op.intBits, iopS])) (h' ⟨hm, hn⟩) (.int _ _ (wrap_has _ _))
    case h_17 => exact goes_t R (run_bin ho n1 n2 (r := .int k (iopS .andNot k m n)) (by simp [ex, ey, binOp, Op.intBits, iopS])) (h' ⟨hm, hn⟩) (.int _ _ (wrap_has _ _))
  · -- bools
    rename_i m n hx hy
    have ex := ev_bool R hx
    have ey := ev_bool R hy
    have n1 : a.eval x ≠ .nilIface := by rw [ex]; simp
    have n2 : ∀ c, a.eval x ≠ .agg c := by rw [ex]; simp
    split at h
    case h_1 =>
      obtain ⟨hb, h'⟩ := bif_inv h
      have hu := isBool_und hT hb
      exact goes_t R (run_bin ho n1 n2 (r := .bool (m == n)) (by simp [ex, ey, binOp, run_eq_bool hu])) h' (.bool _)
    case h_2 =>
      obtain ⟨hb, h'⟩ := bif_inv h
      have hu := isBool_und hT hb
      exact goes_t R (run_bin ho n1 n2 (r := .bool (!(m == n))) (by simp [ex, ey, binOp, run_eq_bool hu])) h' (.bool _)
    case h_3 => exact h.elim
  · -- texts
    rename_i m n hx hy
    obtain ⟨u, ex, rfl, hu⟩ := ev_str R hx
    obtain ⟨v, ey, rfl, hv⟩ := ev_str R hy
    have n1 : a.eval x ≠ .nilIface := by rw [ex]; simp
    have n2 : ∀ c, a.eval x ≠ .agg c := by rw [ex]; simp
    have tot : (Op.bytesLess u.data.toList v.data.toList || u.data.toList == v.data.toList) = !(Op.bytesLess v.data.toList u.data.toList) := bytesLess_total _ _
    split at h
    case h_1 => exact goes_t R (run_bin ho n1 n2 (r := .bool (std.seq u.data.toList v.data.toList)) (by simp [ex, ey, binOp, Op.stringOp, ByteArray.toList_eq, std])) h (.bool _)
    case h_2 => exact goes_t R (run_bin ho n1 n2 (r := .bool (!(std.seq u.data.toList v.data.toList))) (by simp [ex, ey, binOp, Op.stringOp, ByteArray.toList_eq, std])) h (.bool _)
    case h_3 => exact goes_t R (run_bin ho n1 n2 (r := .bool (std.slt u.data.toList v.data.toList)) (by simp [ex, ey, binOp, Op.stringOp, ByteArray.toList_eq, std])) h (.bool _)
    case h_4 => exact goes_t R (run_bin ho n1 n2 (r := .bool (std.slt v.data.toList u.data.toList)) (by simp only [ex, ey, binOp, Op.stringOp, ByteArray.toList_eq, tot]; simp [std])) h (.bool _)
    case h_5 => exact goes_t R (run_bin ho n1 n2 (r := .bool (!(std.slt v.data.toList u.data.toList))) (by simp only [ex, ey, binOp, Op.stringOp, ByteArray.toList_eq, tot]; simp [std])) h (.bool _)
    case h_6 => exact goes_t R (run_bin ho n1 n2 (r := .bool (!(std.slt u.data.toList v.data.toList))) (by simp [ex, ey, binOp, Op.stringOp, ByteArray.toList_eq, std])) h (.bool _)
    case h_7 =>
      obtain ⟨⟨b1, b2⟩, h'⟩ := h
      have b1 : u.data.toList.length ≤ 2 ^ 46 := b1
      have b2 : v.data.toList.length ≤ 2 ^ 46 := b2
      have b1 : u.size ≤ 2 ^ 46 := by simpa using b1
      have b2 : v.size ≤ 2 ^ 46 := by simpa using b2
      refine goes_t R (run_bin ho n1 n2 (r := .string (u ++ v)) ?_) h' ?_
      · have : ¬ ((u.size : Int) + (v.size : Int) > IntKind.i64.max) := by simp [IntKind.max, IntKind.signed, IntKind.bits]; omega
        simp [ex, ey, binOp, Op.stringOp]
        omega
      · have := Rep.str (w := w) (ok := ok) (u ++ v) (by simp; omega)
        simpa [std] using this
    case h_8 => exact h.elim
  · -- a slice against nil
    rename_i es hx hy
    have hv := (ev_rel R hx).one_inv
    have ey : a.eval y = .slice none 0 0 := (ev_rel R hy).one_inv
    have hv' : ∃ x' n c, a.eval x = .slice x' n c ∧ (x' = none → es = []) := by
      have hv : Rep w ok (a.eval x) (.sl es) := hv
      generalize a.eval x = v at hv
      cases hv with
      | snil => exact ⟨_, _, _, rfl, fun _ => rfl⟩
      | szero x => exact ⟨_, _, _, rfl, fun _ => rfl⟩
      | sl b off cap sz es vs hm hcap hsz hok hc hr => exact ⟨_, _, _, rfl, fun e => by cases e⟩
    obtain ⟨x', n, c, ex, he⟩ := hv'
    have n1 : a.eval x ≠ .nilIface := by rw [ex]; simp
    have n2 : ∀ c, a.eval x ≠ .agg c := by rw [ex]; simp
    split at h
    case h_1 =>
      obtain ⟨hb, h'⟩ := bif_inv h
      obtain ⟨e, hu⟩ := isSlice_und hT hb
      refine goes_t R (run_bin ho n1 n2 (r := .bool x'.isNone) ?_) (h' x'.isNone fun e' => he (by simpa using e')) (.bool _)
      simp [ex, ey, binOp, run_eq_slice hu]
    case h_2 =>
      obtain ⟨hb, h'⟩ := bif_inv h
      obtain ⟨e, hu⟩ := isSlice_und hT hb
      refine goes_t R (run_bin ho n1 n2 (r := .bool (!x'.isNone)) ?_) (h' (!x'.isNone) fun e' => he (by simpa using e')) (.bool _)
      simp [ex, ey, binOp, run_eq_slice hu]
    case h_3 => exact h.elim
  · exact h.elim

theorem op_un {op : UnOp} {t : TypeId} {x : Operand} (ho : o.op = .unOp op t x) (R : Rel E ok hd tm ob a.tmps w) (h : (sUn std op (ev tm x)).holds std cl K) : Goes P E tm ob a.tmps K o a w := by
  unfold sUn at h
  split at h
  · rename_i b hx
    have ex := ev_bool R hx
    split at h
    · exact goes_t R (v := .bool (!b)) (by simp [execOp, ho, Op.unary, ex]) h (.bool _)
    · exact h.elim
  · rename_i k n hx
    obtain ⟨ex, hn⟩ := ev_int R hx
    split at h
    · exact goes_t R (v := .int k (k.wrap (0 - n))) (by simp [execOp, ho, Op.unary, ex, Op.intArith]) (h hn) (.int _ _ (wrap_has _ _))
    · exact goes_t R (v := .int k (std.compl k n)) (by simp [execOp, ho, Op.unary, ex, Op.intBits, std]) (h hn) (.int _ _ (wrap_has _ _))
    · exact h.elim
  · exact h.elim

end Go.TL

/- TlI -/
namespace Go.TL
open Go

variable {P : Program} {E : Env P} {ok : Nat → Prop} {hd : HF} {tm : Nat → Option A} {ob : OF} {w : World} {a : Act} {K : A → Obs → Prop} {o : Oper} {tab : TF} {cl : Nat → List A → Obs → (A → Obs → Prop) → Prop}

theorem load_rel (hT : TabOk P tab) {t : Nat} {ti : TI} (hti : tab t = some ti) {b off0 off n : Nat} {f : Nat → Value} {cs : List V} (hc : ∀ j, j < n → w.cell? ⟨b, off0 + j, none⟩ = some (f j)) (hl : cs.length = n)
    (hv : ∀ (j : Nat) x, cs[j]? = some x → VR w ok hd ob (f j) x) (hs : off + ti.size ≤ n) :
    ∃ v, (loadVar t ⟨b, off0 + off, none⟩).run P w = .ok v w ∧ AR w ok hd ob v (loadA ti.agg ((cs.drop off).take ti.size)) := by
  obtain ⟨i, hi, hsz, _, _⟩ := (hT t ti hti).info
  obtain ⟨d, hu, _, hagg⟩ := (hT t ti hti).kd
  cases ha : ti.agg with
  | true =>
    have hd' : d.isRow = true := by
      rw [ha] at hagg
      cases d <;> first | rfl | simp at hagg
    let vs := (List.range ti.size).map fun j => f (off + j)
    refine ⟨.agg vs.toArray, run_loadVar_mid w b (off0 + off) t vs d ?_ hu hd' (by simp [hi, hsz, vs]), ?_⟩
    · intro j v hj
      simp only [vs, List.getElem?_map] at hj
      have hj' : j < ti.size := by
        by_cases h : j < ti.size
        · exact h
        · simp [h] at hj
      simp [hj'] at hj
      subst hj
      rw [Nat.add_assoc]; exact hc _ (by omega)
    · refine .agg vs _ (by simp [vs]; omega) fun j c x hj hx => ?_
      simp only [vs, List.getElem?_map] at hj
      have hj' : j < ti.size := by
        by_cases h : j < ti.size
        · exact h
        · simp [h] at hj
      simp [hj'] at hj
      subst hj
      rw [List.getElem?_take_of_lt hj', List.getElem?_drop] at hx
      exact hv _ _ hx
  | false =>
    have h1 := (hT t ti hti).pos ha
    have hrow : d.isRow = false := by
      rw [ha] at hagg
      cases d <;> first | rfl | simp at hagg
    have hcell := hc off (by omega)
    refine ⟨f off, ?_, ?_⟩
    · have hagg' : (isAgg t).run P w = .ok false w := by
        unfold isAgg
        rw [Sem.run_bind, run_underlying hu w]
        cases d <;> simp_all
      simp [loadVar, hagg', hcell]
    · rw [h1]
      have hx : ∃ x, cs[off]? = some x := ⟨cs[off]'(by omega), List.getElem?_eq_getElem (by omega)⟩
      obtain ⟨x, hx⟩ := hx
      have e : (cs.drop off).take 1 = [x] := by
        have hx' := hx
        rw [List.getElem?_eq_getElem (show off < cs.length by omega)] at hx'
        rw [List.drop_eq_getElem_cons (by omega), Option.some.inj hx']
        rfl
      rw [e]
      exact .one _ _ (hv _ _ hx)

theorem run_load {t : Nat} {x : Operand} {b off : Nat} {v : Value} (ho : o.op = .load t x) (hx : a.eval x = .pointer (some ⟨b, off, none⟩)) (h : (loadVar t ⟨b, off, none⟩).run P w = .ok v w) :
    (execOp a.eval o).run P w = .ok (.value v) w := by
  simp [execOp, ho, hx, Instr.loadAt, Instr.sureAddr, h]

theorem cell_of {b i : Nat} {c : Array Value} {e : TypeId} {fr : Nat × Nat} (h : w.heap[b]? = some (.cells c e fr)) : w.cell? ⟨b, i, none⟩ = c[i]? := by
  simp [World.cell?, h]

/-- Values that hold no memory are what they are anywhere. -/
theorem Rep.flat0 {ok' : Nat → Prop} {w' : World} {v : Value} {t : T} (h : Rep w ok v t) (hf : flatT t = true) : Rep w' ok' v t := by
  cases h with
  | bool b => exact .bool b
  | int k n h => exact .int k n h
  | str s h => exact .str s h
  | snil => cases hf
  | szero => cases hf
  | sl => cases hf
  | pt => cases hf
  | fn => cases hf
theorem cellsD_rel {o g : Nat} {i : Int} : ∀ {l : List T} {j : Nat} {vs : List V}, cellsD o g i j l = some vs → vs.length = l.length ∧
    ∀ (k : Nat) t x, l[k]? = some t → vs[k]? = some x → (flatT t = true ∧ x = .t t) ∨ ∃ l', t = .sl l' ∧ x = .sub o g i (j + k)
  | [], j, vs, h => by simp [cellsD] at h; subst h; simp
  | t :: r, j, vs, h => by
    unfold cellsD at h
    split at h
    · rename_i v l hv hl
      injection h with h; subst h
      obtain ⟨h1, h2⟩ := cellsD_rel hl
      refine ⟨by simp [h1], fun k t' x p q => ?_⟩
      cases k with
      | zero =>
        simp at p q; subst p; subst q
        cases t with
        | int k n => simp [cellD] at hv; exact .inl ⟨rfl, hv.symm⟩
        | bool b => simp [cellD] at hv; exact .inl ⟨rfl, hv.symm⟩
        | str s => simp [cellD] at hv; exact .inl ⟨rfl, hv.symm⟩
        | sl l' => simp [cellD] at hv; exact .inr ⟨l', rfl, by rw [Nat.add_zero]; exact hv.symm⟩
        | fn => cases hv
        | pt => cases hv
      | succ k =>
        have := h2 k t' x (by simpa using p) (by simpa using q)
        rwa [show j + 1 + k = j + (k + 1) by omega] at this
    · cases h
theorem Dp.sl_inv {S : Nat → Prop} {v : Value} {l : List (List T)} (h : Dp w S v (.sl l)) : ∃ x n c, v = .slice x n c := by
  cases h with
  | snil => exact ⟨_, _, _, rfl⟩
  | szero x n => exact ⟨_, _, _, rfl⟩
  | sl => exact ⟨_, _, _, rfl⟩
theorem isP_cls {sz : Nat} {fz : Bool} (h : isP sz fz = true) : cls sz fz = .p := by
  unfold isP at h
  split at h
  · assumption
  · cases h
/-- An element of one cell. -/
theorem Dp.elem1 {S : Nat → Prop} {b len cap : Nat} {l : List (List T)} {k : Nat} {x : List T} {t : T} (h : Dp w S (.slice (some ⟨b, 0, none⟩) len cap) (.sl l)) (hk : l[k]? = some x) (hx : x = [t]) :
    ∃ v, w.cell? ⟨b, k, none⟩ = some v ∧ Rep w S v t := by
  subst hx
  generalize hq : Value.slice (some ⟨b, 0, none⟩) len cap = q at h
  cases h with
  | snil => cases hq
  | szero => simp at hk
  | sl _ b' cap' sz es c e fr vs subs hm hcap hsz hS hb hf hc hr hsub hdis =>
    injection hq with hq; injection hq with hq; injection hq with hq; subst hq
    have h1 := hsz _ (List.mem_of_getElem? hk)
    have h1 : sz = 1 := by simpa using h1.symm
    subst h1
    refine ⟨vs k 0, ?_, (hr k 0 _ t hk rfl).rep fun q hq => (hsub _ _ _ hq).1⟩
    have := hc k 0 _ t hk rfl
    simp only [World.cell?, hb]
    simpa using this

theorem op_load {t : Nat} {x : Operand} (ho : o.op = .load t x) (hT : TabOk P tab) (R : Rel E ok hd tm ob a.tmps w) (h : (sLoad tab t ob (ev tm x)).holds std cl K) : Goes P E tm ob a.tmps K o a w := by
  unfold sLoad at h
  split at h
  · -- a variable
    rename_i n off hx
    split at h
    · rename_i ti cs fz hti hob
      obtain ⟨hle, h'⟩ := bif_inv h
      have hle := le_of_leB hle
      obtain ⟨cs', fz', b, h1, h2, h3⟩ := (ev_rel R hx).one_inv
      rw [hob] at h1; injection h1 with h1; injection h1 with h1 h1'; subst h1; subst h1'
      obtain ⟨b', c, e, fr, g1, g2, g3, g4, g5, g6, g7⟩ := R.obs n _ hob
      rw [h2] at g1; injection g1 with g1; injection g1 with g1; injection g1 with g1; subst g1
      obtain ⟨v, hr, ha⟩ := load_rel (P := P) (w := w) (ok := ok) (hd := hd) (ob := ob) hT hti (b := b) (off0 := 0) (off := off) (n := cs.length) (f := fun j => c.getD j undef) (cs := cs)
        (fun j hj => by rw [cell_of g4]; simp [Array.getD, show j < c.size by omega]) rfl
        (fun j x hj => by
          have hj' : j < cs.length := by by_cases q : j < cs.length; exact q; rw [List.getElem?_eq_none (by omega)] at hj; cases hj
          exact g7 j _ x (by simp [Array.getD, show j < c.size by omega]) hj) hle
      rw [Nat.zero_add] at hr
      exact goes_value (run_load ho h3 hr) h' R ha
    · exact h.elim
  · -- a cell that doesn't turn
    rename_i cs off hx
    split at h
    · rename_i ti hti
      obtain ⟨hle, h'⟩ := bif_inv h
      have hle := le_of_leB hle
      have hv : Rep w ok (a.eval x) (.pt cs off) := (ev_rel R hx).one_inv
      generalize hp : a.eval x = p at hv
      cases hv with
      | pt b off0 _ _ vs hok hc hr =>
        obtain ⟨v, hr, ha⟩ := load_rel (P := P) (w := w) (ok := ok) (hd := hd) (ob := ob) hT hti (b := b) (off0 := off0) (off := off) (n := cs.length) (f := vs) (cs := cs.map .t) hc (by simp)
          (fun j x hj => by
            rw [List.getElem?_map] at hj
            cases ht : cs[j]? with
            | none => rw [ht] at hj; cases hj
            | some t => rw [ht] at hj; injection hj with hj; subst hj; exact hr j t ht) hle
        rw [← List.map_drop, ← List.map_take] at ha
        exact goes_value (run_load ho hp hr) h' R ha
    · exact h.elim
  · -- an element of a row
    rename_i n g i j hx
    split at h
    · rename_i ti sz es cur tags fz hti hob
      obtain ⟨hg, h'⟩ := bif_inv h
      have hg := eq_of_eqB hg
      subst hg
      obtain ⟨sz', es', cur', tags', fz', h1, h2, _, h3⟩ := (ev_rel R hx).one_inv
      rw [hob] at h1; injection h1 with h1; injection h1 with q1 q2 q3 q4 q5; subst q1; subst q2; subst q3; subst q4; subst q5
      obtain ⟨h0, b, len, cap, h4, h5⟩ := h3 rfl
      obtain ⟨_, _, hR⟩ := R.obs n _ hob
      split at h'
      · rename_i hcls
        rw [hcls] at hR
        cases h' with
        | mk hin h' =>
        obtain ⟨hb, h'⟩ := bif_inv h'
        rw [Bool.and_eq_true] at hb
        have hle := le_of_leB hb.1
        have hel := eq_of_eqB hb.2
        have hin : 0 ≤ i ∧ i < es.length := hin
        rcases hR with ⟨he, _⟩ | ⟨b', c, e, fr, cap', g1, g2, g3, g4, g5, g6, g7, g7', g8, g9⟩
        · subst he; simp at hin; omega
        · rw [h4] at g1; injection g1 with g1 g1' g1''; injection g1 with g1; injection g1 with g1; subst g1
          have hi : i.toNat < es.length := by omega
          have hgt : es[i.toNat]? = some (std.get es i) := by simp [std, List.getD, hi]
          have key : ∀ k, k < wd sz → ∃ v, c[i.toNat * wd sz + k]? = some v ∧ ∀ t, (std.get es i)[k]? = some t → Rep w ok v t := by
            intro k hk
            have : ∃ t, (std.get es i)[k]? = some t := ⟨_, List.getElem?_eq_getElem (by omega)⟩
            obtain ⟨t, ht⟩ := this
            obtain ⟨v, hv, hr⟩ := g9 i.toNat k _ t hgt ht
            exact ⟨v, hv, fun t' ht' => by rw [ht] at ht'; injection ht' with e; subst e; exact hr⟩
          obtain ⟨v, hr, ha⟩ := load_rel (P := P) (w := w) (ok := ok) (hd := hd) (ob := ob) hT hti (b := b) (off0 := i.toNat * wd sz) (off := j) (n := wd sz) (f := fun k => c.getD (i.toNat * wd sz + k) undef) (cs := (std.get es i).map .t)
            (fun k hk => by
              obtain ⟨v, hv, _⟩ := key k hk
              rw [cell_of g4, hv]; simp [Array.getD_eq_getD_getElem?, hv]) (by simp [hel])
            (fun k x hk => by
              rw [List.getElem?_map] at hk
              cases ht : (std.get es i)[k]? with
              | none => rw [ht] at hk; cases hk
              | some t =>
                rw [ht] at hk; injection hk with hk; subst hk
                have hk' : k < wd sz := by by_cases q : k < wd sz; exact q; rw [List.getElem?_eq_none (by omega)] at ht; cases ht
                obtain ⟨v, hv, hr⟩ := key k hk'
                show Rep w ok _ _
                simp only [Array.getD_eq_getD_getElem?, hv, Option.getD_some]
                exact hr t ht) (by omega)
          rw [← List.map_drop, ← List.map_take] at ha
          exact goes_value (run_load ho h5 hr) h' R ha
      · -- of a row that owns what it leads to
        rename_i hcls
        rw [hcls] at hR
        cases h' with
        | mk hin h' =>
        obtain ⟨hb, h'⟩ := bif_inv h'
        have hle := le_of_leB hb
        have hin : 0 ≤ i ∧ i < es.length := hin
        split at h'
        rotate_left
        · exact h'.elim
        rename_i vs hvs
        rcases hR with ⟨he, _⟩ | ⟨b', cap', c, e, fr, vv, subs, d, hs⟩
        · subst he; simp at hin; omega
        · have g1 := d.v
          rw [h4] at g1; injection g1 with g1 g1' g1''; injection g1 with g1; injection g1 with g1; subst g1
          have hi : i.toNat < es.length := by omega
          have hgt : es[i.toNat]? = some (std.get es i) := by simp [std, List.getD, hi]
          have hcl : ((std.get es i).drop j |>.take ti.size).length = ti.size := by simp; omega
          obtain ⟨c1, c2⟩ := cellsD_rel hvs
          have hpick : ∀ k, k < ti.size → ∃ t, (std.get es i)[j + k]? = some t ∧ ((std.get es i).drop j |>.take ti.size)[k]? = some t := by
            intro k hk
            refine ⟨_, List.getElem?_eq_getElem (by omega), ?_⟩
            rw [List.getElem?_take_of_lt hk, List.getElem?_drop]
            exact List.getElem?_eq_getElem (by omega)
          obtain ⟨v, hr, ha⟩ := load_rel (P := P) (w := w) (ok := ok) (hd := hd) (ob := ob) hT hti (b := b) (off0 := i.toNat * wd sz + j) (off := 0) (n := ti.size) (f := fun k => c.getD (i.toNat * wd sz + j + k) undef) (cs := vs)
            (fun k hk => by
              obtain ⟨t, ht, _⟩ := hpick k hk
              have hv := d.cell i.toNat (j + k) _ t hgt ht
              rw [← Nat.add_assoc] at hv
              rw [cell_of d.blk, hv]; simp [Array.getD_eq_getD_getElem?, hv]) (by rw [c1, hcl])
            (fun k x hk => by
              have hk' : k < ti.size := by
                by_cases q : k < ti.size
                · exact q
                · rw [List.getElem?_eq_none (by omega)] at hk; cases hk
              obtain ⟨t, ht, ht2⟩ := hpick k hk'
              have hv := d.cell i.toNat (j + k) _ t hgt ht
              have hd' := d.dp i.toNat (j + k) _ t hgt ht
              rw [← Nat.add_assoc] at hv
              simp only [Array.getD_eq_getD_getElem?, hv, Option.getD_some]
              rcases c2 k t x ht2 hk with ⟨hf, rfl⟩ | ⟨l, rfl, rfl⟩
              · exact (hd'.rep (ok := fun b => b ∈ (hd n).own) fun b hb => (d.sub _ _ _ hb).1).flat0 hf
              · refine ⟨sz, es, g, tags, fz, hob, h2, ?_, fun _ => ?_⟩
                · exact hd'.sl_inv
                · exact hs i.toNat (j + k) _ l hgt ht) (by omega)
          have e0 : (vs.drop 0).take ti.size = vs := by rw [List.drop_zero, List.take_of_length_le (by omega)]
          rw [Nat.add_zero] at hr
          rw [e0] at ha
          exact goes_value (run_load ho h5 hr) h' R ha
      · exact h'.elim
    · exact h.elim
  · -- an element of a slice in a row that owns it
    rename_i n g i j k hx
    split at h
    · rename_i ti sz es cur tags fz hti hob
      obtain ⟨hb, h'⟩ := bif_inv h
      simp only [Bool.and_eq_true, Bool.not_eq_true'] at hb
      have hcls := isP_cls hb.1
      have hg := eq_of_eqB hb.2.1
      have h1s := eq_of_eqB hb.2.2.1
      have hag := hb.2.2.2
      subst hg
      obtain ⟨sz', es', cur', tags', fz', h1, h2, _, h3⟩ := (ev_rel R hx).one_inv
      rw [hob] at h1; injection h1 with h1; injection h1 with q1 q2 q3 q4 q5; subst q1; subst q2; subst q3; subst q4; subst q5
      obtain ⟨h0, b, len, cap, h4, h5⟩ := h3 rfl
      obtain ⟨_, _, hR⟩ := R.obs n _ hob
      rw [hcls] at hR
      cases h' with
      | mk hin h' =>
      have hin : 0 ≤ i ∧ i < es.length := hin
      dsimp only at h'
      split at h'
      rotate_left
      · exact h'.elim
      rename_i l hl
      cases h' with
      | mk hink h' =>
      have hink : 0 ≤ k ∧ k < l.length := hink
      dsimp only at h'
      split at h'
      rotate_left
      · exact h'.elim
      rename_i kk m hx1
      rcases hR with ⟨he, _⟩ | ⟨b', cap', c, e, fr, vv, subs, d, hs⟩
      · subst he; simp at hin; omega
      · have hi : i.toNat < es.length := by omega
        have hgt : es[i.toNat]? = some (std.get es i) := by simp [std, List.getD, hi]
        have hd' := d.dp i.toNat j _ _ hgt hl
        rw [hs i.toNat j _ l hgt hl, h4] at hd'
        have hlk : l[k.toNat]? = some (std.get l k) := by simp [std, List.getD, show k.toNat < l.length by omega]
        obtain ⟨v, hv, hr⟩ := hd'.elem1 hlk hx1
        have hcell : (loadVar t ⟨b, k.toNat, none⟩).run P w = .ok v w ∧ AR w ok hd ob v (loadA ti.agg [.t (.int kk m)]) := by
          obtain ⟨v', hr', ha'⟩ := load_rel (P := P) (w := w) (ok := ok) (hd := hd) (ob := ob) hT hti (b := b) (off0 := k.toNat) (off := 0) (n := 1) (f := fun _ => v) (cs := [.t (.int kk m)])
            (fun q hq => by rw [show q = 0 by omega, Nat.add_zero]; exact hv) rfl (fun q x hq => by
              cases q with
              | zero => simp at hq; subst hq; exact hr.flat0 rfl
              | succ q => simp at hq) (by omega)
          rw [Nat.add_zero] at hr'
          have e1 : (([V.t (.int kk m)] : List V).drop 0).take ti.size = [.t (.int kk m)] := by rw [h1s]; rfl
          rw [e1] at ha'
          have : v' = v := by
            rw [hag] at ha'
            have h6 := ha'.one_inv.int_inv
            have h7 := VR.int_inv (w := w) (ok := ok) (hd := hd) (ob := ob) (v := v) (hr.flat0 rfl)
            rw [h6.1, h7.1]
          subst this
          exact ⟨hr', ha'⟩
        rw [hag] at hcell
        exact goes_value (run_load ho h5 hcell.1) h' R hcell.2
    · exact h.elim
  · exact h.elim

theorem run_fieldAddr (hT : TabOk P tab) {t f k u : Nat} {x : Operand} {b off : Nat} (ho : o.op = .fieldAddr t x f) (hf : fieldOff tab t f = some (k, u)) (hx : a.eval x = .pointer (some ⟨b, off, none⟩)) :
    (execOp a.eval o).run P w = .ok (.value (.pointer (some ⟨b, off + k, none⟩))) w := by
  unfold fieldOff at hf
  split at hf
  · rename_i ti hti
    split at hf
    · rename_i fs hk
      obtain ⟨d, hu, hkd, _⟩ := (hT t ti hti).kd
      rw [hk] at hkd
      obtain ⟨ar, rfl, hfs, hnz⟩ := hkd
      rw [← hfs, List.getElem?_map] at hf
      cases hq : ar.toList[f]? with
      | none => rw [hq] at hf; cases hf
      | some fd =>
        rw [hq] at hf; simp at hf
        have hq' : ar[f]? = some fd := by simpa using hq
        have hne := hnz fd (List.mem_of_getElem? hq)
        have hso : ∃ i, P.info? fd.type = some i ∧ i.size ≠ 0 := by
          unfold Program.cellsOf at hne
          cases hi : P.info? fd.type with
          | none => simp [hi] at hne
          | some i => simp [hi] at hne; exact ⟨i, rfl, hne⟩
        obtain ⟨i, hi, hi0⟩ := hso
        simp [execOp, ho, hx, Instr.fieldAt, run_underlying hu, hq', Instr.sureAddr, fieldPlace, sizeOf, typeInfo, hi, hi0, Addr.add_mid, hf.1]
    · cases hf
  · cases hf

theorem op_fieldAddr {t f : Nat} {x : Operand} (ho : o.op = .fieldAddr t x f) (hT : TabOk P tab) (R : Rel E ok hd tm ob a.tmps w) (h : (sFieldAddr tab t f ob (ev tm x)).holds std cl K) : Goes P E tm ob a.tmps K o a w := by
  unfold sFieldAddr at h
  split at h
  · rename_i n off hx
    split at h
    · rename_i k u hf
      obtain ⟨cs, fz, b, h1, h2, h3⟩ := (ev_rel R hx).one_inv
      exact goes_value (run_fieldAddr hT ho hf h3) h R (.one _ _ ⟨cs, fz, b, h1, h2, rfl⟩)
    · exact h.elim
  · rename_i cs off hx
    split at h
    · rename_i k u hf
      have hv : Rep w ok (a.eval x) (.pt cs off) := (ev_rel R hx).one_inv
      generalize hp : a.eval x = p at hv
      cases hv with
      | pt b off0 _ _ vs hok hc hr =>
        refine goes_t R (run_fieldAddr hT ho hf hp) h ?_
        rw [Nat.add_assoc]
        exact .pt b off0 (off + k) cs vs hok hc hr
    · exact h.elim
  · rename_i n g i j hx
    split at h
    · rename_i k u sz es cur tags fz hf hob
      obtain ⟨hg, h'⟩ := bif_inv h
      have hg := eq_of_eqB hg
      obtain ⟨sz', es', cur', tags', fz', h1, h2, ⟨p, hp⟩, h3⟩ := (ev_rel R hx).one_inv
      rw [hob] at h1; injection h1 with h1; injection h1 with q1 q2 q3 q4 q5; subst q1; subst q2; subst q3; subst q4; subst q5
      obtain ⟨h0, b, len, cap, h4, h5⟩ := h3 hg
      exact goes_value (run_fieldAddr hT ho hf h5) h' R (.one _ _ ⟨sz, es, cur, tags, fz, hob, h2, ⟨_, rfl⟩, fun _ => ⟨h0, b, len, cap, h4, by rw [Nat.add_assoc]⟩⟩)
    · exact h.elim
  · exact h.elim

end Go.TL

/- TlJ -/
namespace Go.TL
open Go

variable {P : Program} {E : Env P} {ok : Nat → Prop} {hd : HF} {tm : Nat → Option A} {ob : OF} {w : World} {a : Act} {K : A → Obs → Prop} {o : Oper} {tab : TF} {cl : Nat → List A → Obs → (A → Obs → Prop) → Prop}

/-- A part of a value's cells. -/
theorem part_rel (hT : TabOk P tab) {t : Nat} {ti : TI} (hti : tab t = some ti) {cs : List Value} {vs : List V} {off : Nat} (hl : cs.length = vs.length)
    (hv : ∀ (j : Nat) c x, cs[j]? = some c → vs[j]? = some x → VR w ok hd ob c x) (hs : off + ti.size ≤ vs.length) :
    ∃ v, (part t cs.toArray off).run P w = .ok v w ∧ AR w ok hd ob v (loadA ti.agg ((vs.drop off).take ti.size)) := by
  obtain ⟨i, hi, hsz, _, _⟩ := (hT t ti hti).info
  obtain ⟨d, hu, _, hagg⟩ := (hT t ti hti).kd
  cases ha : ti.agg with
  | true =>
    have hd' : d.isRow = true := by
      rw [ha] at hagg
      cases d <;> first | rfl | simp at hagg
    have hagg' : (isAgg t).run P w = .ok true w := by
      unfold isAgg
      rw [Sem.run_bind, run_underlying hu w]
      cases d <;> simp_all
    refine ⟨.agg ((cs.drop off).take ti.size).toArray, ?_, ?_⟩
    · simp [part, hagg', sizeOf, typeInfo, hi, hsz, List.extract_toArray]
    · refine .agg _ _ (by simp; omega) fun j c x hj hx => ?_
      by_cases hj' : j < ti.size
      · rw [List.getElem?_take_of_lt hj', List.getElem?_drop] at hj hx
        exact hv _ _ _ hj hx
      · rw [List.getElem?_take_eq_none (by omega)] at hj; cases hj
  | false =>
    have h1 := (hT t ti hti).pos ha
    have hagg' : (isAgg t).run P w = .ok false w := by
      unfold isAgg
      rw [Sem.run_bind, run_underlying hu w]
      rw [ha] at hagg
      cases d <;> first | rfl | simp at hagg
    obtain ⟨x, hx⟩ : ∃ x, vs[off]? = some x := ⟨_, List.getElem?_eq_getElem (by omega)⟩
    obtain ⟨c, hc⟩ : ∃ c, cs[off]? = some c := ⟨_, List.getElem?_eq_getElem (by omega)⟩
    refine ⟨c, ?_, ?_⟩
    · simp only [part, Sem.run_bind, hagg', Result.andThen_ok]
      simp [hc]
    · have hx' := hx
      rw [List.getElem?_eq_getElem (show off < vs.length by omega)] at hx'
      rw [h1, List.drop_eq_getElem_cons (by omega), Option.some.inj hx']
      exact .one _ _ (hv _ _ _ hc hx)

theorem op_field {t f : Nat} {x : Operand} (ho : o.op = .field t x f) (hT : TabOk P tab) (R : Rel E ok hd tm ob a.tmps w) (h : (sField tab t f (ev tm x)).holds std cl K) : Goes P E tm ob a.tmps K o a w := by
  unfold sField at h
  split at h
  · rename_i vs hx
    split at h
    · rename_i k u hf
      split at h
      · rename_i ti hti
        obtain ⟨hle, h'⟩ := bif_inv h
        have hle := le_of_leB hle
        obtain ⟨cs, hcs, hl, hv⟩ := (ev_rel R hx).agg_inv
        obtain ⟨v, hr, ha⟩ := part_rel (P := P) (w := w) hT hti hl hv hle
        unfold fieldOff at hf
        split at hf
        · rename_i ti' hti'
          split at hf
          · rename_i fs hk
            obtain ⟨d, hu, hkd, _⟩ := (hT t ti' hti').kd
            rw [hk] at hkd
            obtain ⟨ar, rfl, hfs, hnz⟩ := hkd
            rw [← hfs, List.getElem?_map] at hf
            cases hq : ar.toList[f]? with
            | none => rw [hq] at hf; cases hf
            | some fd =>
              rw [hq] at hf; simp at hf
              have hq' : ar[f]? = some fd := by simpa using hq
              refine goes_value ?_ h' R ha
              have : asAgg (.agg cs.toArray) = Sem.pure cs.toArray := rfl
              simp [execOp, ho, hcs, Instr.field, run_underlying hu, hq', asAgg, hf.1, hf.2, hr]
          · cases hf
        · cases hf
      · exact h.elim
    · exact h.elim
  · exact h.elim

theorem op_extract {x : Operand} {i : Nat} (ho : o.op = .extract x i) (R : Rel E ok hd tm ob a.tmps w)
    (h : (match ev tm x with | some (.tup l) => SR.ofOpt l[i]? | _ => .bad).holds std cl K) : Goes P E tm ob a.tmps K o a w := by
  split at h
  · rename_i l hx
    obtain ⟨xs, hxs, hl, hv⟩ := (ev_rel R hx).tup_inv
    cases hi : l[i]? with
    | none => rw [hi] at h; exact h.elim
    | some av =>
      rw [hi] at h
      have hlt : i < l.length := by by_cases q : i < l.length; exact q; rw [List.getElem?_eq_none (by omega)] at hi; cases hi
      have hx' : xs[i]? = some (xs[i]'(by omega)) := List.getElem?_eq_getElem (by omega)
      exact goes_value (v := xs[i]'(by omega)) (by simp [execOp, ho, hxs, Instr.extract, hx']) h R (hv i _ _ hx' hi)
  · exact h.elim

theorem op_nilCheck {x : Operand} (ho : o.op = .nilCheck x) (R : Rel E ok hd tm ob a.tmps w)
    (h : (match ev tm x with
      | some (.one (.ptr o off)) => SR.ret (.one (.ptr o off)) []
      | some (.one (.elt o g i j)) => (match ob o with
        | some (.row _ _ cur _ _) => bif eqB g cur then .ret (.one (.elt o g i j)) [] else .bad
        | _ => .bad)
      | some (.one (.t (.pt cs off))) => .ret (.one (.t (.pt cs off))) []
      | _ => .bad).holds std cl K) : Goes P E tm ob a.tmps K o a w := by
  split at h
  · rename_i n off hx
    have hr := ev_rel R hx
    obtain ⟨cs, fz, b, h1, h2, h3⟩ := hr.one_inv
    exact goes_value (v := a.eval x) (by simp [execOp, ho, h3]) h R hr
  · rename_i n g i j hx
    have hr := ev_rel R hx
    split at h
    · rename_i sz es cur tags fz hob
      obtain ⟨hg, h'⟩ := bif_inv h
      have hg := eq_of_eqB hg
      obtain ⟨sz', es', cur', tags', fz', h1, h2, ⟨p, hp⟩, h3⟩ := hr.one_inv
      rw [hob] at h1; injection h1 with h1; injection h1 with q1 q2 q3 q4 q5; subst q1; subst q2; subst q3; subst q4; subst q5
      obtain ⟨h0, b, len, cap, h4, h5⟩ := h3 hg
      exact goes_value (v := a.eval x) (by simp [execOp, ho, h5]) h' R hr
    · exact h.elim
  · rename_i cs off hx
    have hr := ev_rel R hx
    have hv : Rep w ok (a.eval x) (.pt cs off) := hr.one_inv
    have : ∃ ad, a.eval x = .pointer (some ad) := by
      generalize a.eval x = p at hv
      cases hv; exact ⟨_, rfl⟩
    obtain ⟨ad, h3⟩ := this
    exact goes_value (v := a.eval x) (by simp [execOp, ho, h3]) h R hr
  · exact h.elim

theorem isStr_und (hT : TabOk P tab) {t : Nat} (h : isStr tab t = true) : P.underlying t = some .string := by
  unfold isStr at h
  split at h
  · rename_i ti hti
    split at h
    · rename_i hk
      obtain ⟨d, h1, h2, _⟩ := (hT t ti hti).kd
      rw [hk] at h2; rw [h1]; exact congrArg some h2
    · cases h
  · cases h
theorem Rep.slice_inv {v : Value} {es : List (List T)} (h : Rep w ok v (.sl es)) : ∃ x c, v = .slice x es.length c ∧ es.length ≤ 2 ^ 63 - 1 := by
  cases h with
  | snil => exact ⟨_, _, rfl, by simp⟩
  | szero x => exact ⟨_, _, rfl, by simp⟩
  | sl b off cap sz es vs hm hcap hsz hok hc hr => exact ⟨_, _, rfl, hm⟩
theorem run_len {c : Call} {x : Operand} {t n : Nat} (ho : o.op = .call c) (hc : c.callee = .builtin .len) (hx : c.args.toList = [x]) (ht : c.argTypes.toList = [t])
    (h : (Builtin.len_ #[t] o.type #[a.eval x]).run P w = .ok (goInt n) w) : (execOp a.eval o).run P w = .ok (.value (goInt n)) w := by
  have hx' : c.args = #[x] := by rw [← hx]
  have ht' : c.argTypes = #[t] := by rw [← ht]
  simp only [execOp, ho, resolve, hc, hx', ht', invoke, builtin, Sem.run_bind, Sem.run_pure, Result.andThen_ok]
  simp [h]
theorem has_len {n : Nat} (h : n ≤ 2 ^ 63 - 1) : IntKind.i64.has (n : Int) := by
  simp [IntKind.has, IntKind.min, IntKind.max, IntKind.signed, IntKind.bits]; omega

theorem row_len {n sz : Nat} {es : List (List T)} {cur : Nat} {tags : List Nat} {fz : Bool} (R : ORel ok hd ob w) (h : ob n = some (.row sz es cur tags fz)) : ∃ x c, (hd n).v = .slice x es.length c ∧ es.length ≤ 2 ^ 63 - 1 := by
  exact (R.obs n _ h).slice

theorem op_len {c : Call} {x : Operand} {t : Nat} (ho : o.op = .call c) (hc : c.callee = .builtin .len) (hx : c.args.toList = [x]) (ht : c.argTypes.toList = [t]) (hT : TabOk P tab) (R : Rel E ok hd tm ob a.tmps w)
    (h : (sLen std tab t ob (ev tm x)).holds std cl K) : Goes P E tm ob a.tmps K o a w := by
  unfold sLen at h
  split at h
  · rename_i es hes
    obtain ⟨hs, h'⟩ := bif_inv h
    obtain ⟨e, hu⟩ := isSlice_und hT hs
    obtain ⟨y, c', hv, hb⟩ := Rep.slice_inv (show Rep w ok (a.eval x) (.sl es) from (ev_rel R hes).one_inv)
    exact goes_t R (run_len ho hc hx ht (n := es.length) (by rw [hv]; simp [Builtin.len_, run_underlying hu])) (h' hb) (.int _ _ (has_len (by omega)))
  · rename_i hes
    obtain ⟨hs, h'⟩ := bif_inv h
    obtain ⟨e, hu⟩ := isSlice_und hT hs
    have hv : a.eval x = .slice none 0 0 := (ev_rel R hes).one_inv
    exact goes_t R (run_len ho hc hx ht (n := 0) (by rw [hv]; simp [Builtin.len_, run_underlying hu])) h' (.int _ _ (has_len (by omega)))
  · rename_i m n sz hes
    obtain ⟨hs, h'⟩ := bif_inv h
    obtain ⟨e, hu⟩ := isSlice_und hT hs
    obtain ⟨cs, fz, b, p1, p2, hv, hb⟩ := (ev_rel R hes).one_inv
    exact goes_t R (run_len ho hc hx ht (n := n) (by rw [hv]; simp [Builtin.len_, run_underlying hu])) h' (.int _ _ (has_len (by omega)))
  · rename_i n g hes
    split at h
    · rename_i sz es cur tags fz hob
      obtain ⟨hs, h'⟩ := bif_inv h
      rw [Bool.and_eq_true] at hs
      obtain ⟨e, hu⟩ := isSlice_und hT hs.1
      have hg := eq_of_eqB hs.2
      obtain ⟨sz', es', cur', tags', fz', h1, h2, _, h3⟩ := (ev_rel R hes).one_inv
      rw [hob] at h1; injection h1 with h1; injection h1 with q1 q2 q3 q4 q5; subst q1; subst q2; subst q3; subst q4; subst q5
      obtain ⟨y, c', hv, hb⟩ := row_len R.toORel hob
      rw [← h3 hg] at hv
      exact goes_t R (run_len ho hc hx ht (n := es.length) (by rw [hv]; simp [Builtin.len_, run_underlying hu])) (h' hb) (.int _ _ (has_len (by omega)))
    · exact h.elim
  · rename_i s hes
    obtain ⟨hs, h'⟩ := bif_inv h
    have hu := isStr_und hT hs
    obtain ⟨u, hv, rfl, hb⟩ := ev_str R hes
    have hb' : u.data.toList.length ≤ 2 ^ 63 - 1 := by simpa using hb
    refine goes_t R (run_len ho hc hx ht (n := u.data.toList.length) (by rw [hv]; simp [Builtin.len_, run_underlying hu])) (h' hb') (.int _ _ (has_len (by omega)))
  · exact h.elim

theorem sliceOf_und (hT : TabOk P tab) {t e : Nat} (h : sliceOf tab t = some e) : P.underlying t = some (.slice e) := by
  unfold sliceOf at h
  split at h
  · rename_i ti hti
    split at h
    · rename_i e' hk
      injection h with h; subst h
      obtain ⟨d, h1, h2, _⟩ := (hT t ti hti).kd
      rw [hk] at h2; rw [h1]; exact congrArg some h2
    · cases h
  · cases h

theorem index_inv {i : Int} {es : List (List T)} (h : std.inb i es) : 0 ≤ i ∧ i < es.length := h

/-- An element of a tree's slice, as a place of its own. -/
theorem Rep.elem {v : Value} {es : List (List T)} {i : Nat} (h : Rep w ok v (.sl es)) (hi : i < es.length) : ∃ b off sz n c, v = .slice (some ⟨b, off, none⟩) n c ∧ (∀ e ∈ es, e.length = sz) ∧ n = es.length ∧
    Rep w ok (.pointer (some ⟨b, off + i * sz, none⟩)) (.pt (es.getD i []) 0) := by
  cases h with
  | snil => simp at hi
  | szero x => simp at hi
  | sl b off cap sz es vs hm hcap hsz hok hc hr =>
    refine ⟨b, off, sz, _, _, rfl, hsz, rfl, ?_⟩
    have he : es[i]? = some (es.getD i []) := by simp [List.getD, hi]
    have hl : (es.getD i []).length = sz := hsz _ (List.mem_of_getElem? he)
    exact .pt b (off + i * sz) 0 _ (vs i) hok (fun j hj => hc i j hi (by omega)) (fun j t ht => hr i j _ t he ht)

theorem cellsOf_size (hT : TabOk P tab) {e : Nat} {te : TI} (h : tab e = some te) : (sizeOf e).run P w = .ok te.size w := by
  obtain ⟨i, hi, hsz, _, _⟩ := (hT e te h).info
  simp [sizeOf, typeInfo, hi, hsz]

theorem op_indexAddr {t : Nat} {x y : Operand} (ho : o.op = .indexAddr t x y) (hT : TabOk P tab) (R : Rel E ok hd tm ob a.tmps w)
    (h : (sIndexAddr std tab t ob (ev tm x) (ev tm y)).holds std cl K) : Goes P E tm ob a.tmps K o a w := by
  unfold sIndexAddr at h
  split at h
  · rename_i es k i hx hy
    split at h
    · rename_i e he
      split at h
      · rename_i te hte
        cases h with
        | mk hin h' =>
          obtain ⟨hb, h'⟩ := bif_inv h'
          have hb := eq_of_eqB hb
          obtain ⟨h0, h1⟩ := index_inv hin
          obtain ⟨hyv, _⟩ := ev_int R hy
          obtain ⟨b, off, sz, n, c, hv, hsz, rfl, hp⟩ := Rep.elem (i := i.toNat) (show Rep w ok (a.eval x) (.sl es) from (ev_rel R hx).one_inv) (by omega)
          have hu := sliceOf_und hT he
          have hg : es[i.toNat]? = some (es.getD i.toNat []) := by simp [List.getD, show i.toNat < es.length by omega]
          have hs : te.size = sz := by rw [← hsz _ (List.mem_of_getElem? hg)]; exact hb.symm
          refine goes_t R (v := .pointer (some ⟨b, off + i.toNat * sz, none⟩)) ?_ h' hp
          have hlt : (0 : Int) ≤ i ∧ i < (es.length : Int) := ⟨h0, h1⟩
          simp [execOp, ho, hv, hyv, Instr.indexAt, asIntOf, run_underlying hu, hlt, cellsOf_size hT hte, hs, Addr.add_mid]
      · exact h.elim
    · exact h.elim
  · rename_i n g k i hx hy
    split at h
    · rename_i e he
      split at h
      · rename_i te sz es cur tags fz hte hob
        obtain ⟨hb, h'⟩ := bif_inv h
        rw [Bool.and_eq_true] at hb
        have hg := eq_of_eqB hb.1
        have hs := eq_of_eqB hb.2
        obtain ⟨hin, h'⟩ := h'
        obtain ⟨h0, h1⟩ := index_inv hin
        obtain ⟨hyv, _⟩ := ev_int R hy
        have hu := sliceOf_und hT he
        obtain ⟨sz', es', cur', tags', fz', p1, p2, _, p3⟩ := (ev_rel R hx).one_inv
        rw [hob] at p1; injection p1 with p1; injection p1 with q1 q2 q3 q4 q5; subst q1; subst q2; subst q3; subst q4; subst q5
        have hv := p3 hg
        have hsm : sz < 1000000 := by rw [← hs]; exact (hT e te hte).small
        obtain ⟨_, _, hR⟩ := (ObR.small hsm).1 (R.obs n _ hob)
        rcases hR with ⟨he, _⟩ | ⟨b', c, e', fr, cap', g1, _⟩
        · subst he; simp at h1; omega
        · rw [g1] at hv
          refine goes_value (v := .pointer (some ⟨b', i.toNat * sz + 0, none⟩)) ?_ h' R (.one _ _ ⟨sz, es, cur, tags, fz, hob, p2, ⟨_, rfl⟩, fun _ => ⟨h0, b', _, _, g1, by rw [wd_small hsm]⟩⟩)
          have hlt : (0 : Int) ≤ i ∧ i < (es.length : Int) := ⟨h0, h1⟩
          simp [execOp, ho, hv, hyv, Instr.indexAt, asIntOf, run_underlying hu, hlt, cellsOf_size hT hte, hs, Addr.add_mid]
      · exact h.elim
    · exact h.elim
  · rename_i n off k i hx hy
    split at h
    · rename_i ti hti
      split at h
      · rename_i m e hk
        split at h
        · rename_i te hte
          obtain ⟨hb, h'⟩ := bif_inv h
          rw [Bool.and_eq_true] at hb
          have h0 := of_decide_eq_true hb.1
          have h1 := of_decide_eq_true hb.2
          obtain ⟨d, hu, hkd, _⟩ := (hT t ti hti).kd
          rw [hk] at hkd
          have hkd : d = .array m e := hkd
          subst hkd
          obtain ⟨hyv, _⟩ := ev_int R hy
          obtain ⟨cs, fz, b, p1, p2, p3⟩ := (ev_rel R hx).one_inv
          refine goes_value (v := .pointer (some ⟨b, off + i.toNat * te.size, none⟩)) ?_ h' R (.one _ _ ⟨cs, fz, b, p1, p2, rfl⟩)
          have hlt : (0 : Int) ≤ i ∧ i < (m : Int) := ⟨h0, h1⟩
          simp [execOp, ho, p3, hyv, Instr.indexAt, Instr.sureAddr, asIntOf, run_underlying hu, hlt, cellsOf_size hT hte, Addr.add_mid]
        · exact h.elim
      · exact h.elim
    · exact h.elim
  · exact h.elim

theorem op_indexAddr2 {t : Nat} {x y : Operand} (ho : o.op = .indexAddr t x y) (hT : TabOk P tab) (R : Rel E ok hd tm ob a.tmps w)
    (h : (sIndexAddr2 std tab t ob (ev tm x) (ev tm y)).holds std cl K) : Goes P E tm ob a.tmps K o a w := by
  unfold sIndexAddr2 at h
  split at h
  · rename_i m n sz k i hx hy
    split at h
    rotate_left
    · exact h.elim
    rename_i e he
    split at h
    rotate_left
    · exact h.elim
    rename_i te hte
    obtain ⟨hb, h'⟩ := bif_inv h
    rw [Bool.and_eq_true, Bool.and_eq_true] at hb
    have hs := eq_of_eqB hb.1
    have h0 := of_decide_eq_true hb.2.1
    have h1 : i < (n : Int) := of_decide_eq_true hb.2.2
    obtain ⟨hyv, _⟩ := ev_int R hy
    have hu := sliceOf_und hT he
    obtain ⟨cs, fz, b, p1, p2, hv, hb⟩ := (ev_rel R hx).one_inv
    refine goes_value (v := .pointer (some ⟨b, i.toNat * sz, none⟩)) ?_ h' R (.one _ _ ⟨cs, fz, b, p1, p2, rfl⟩)
    have hlt : (0 : Int) ≤ i ∧ i < (n : Int) := ⟨h0, h1⟩
    simp [execOp, ho, hv, hyv, Instr.indexAt, asIntOf, run_underlying hu, hlt, cellsOf_size hT hte, hs, Addr.add_mid]
  · exact op_indexAddr ho hT R h

theorem op_indexAddr3 {t : Nat} {x y : Operand} (ho : o.op = .indexAddr t x y) (hT : TabOk P tab) (R : Rel E ok hd tm ob a.tmps w)
    (h : (sIndexAddr3 std tab t ob (ev tm x) (ev tm y)).holds std cl K) : Goes P E tm ob a.tmps K o a w := by
  unfold sIndexAddr3 at h
  split at h
  · rename_i m g i0 j0 k i hx hy
    split at h
    rotate_left
    · exact h.elim
    rename_i ti sz es cur tags fz hti hob
    split at h
    rotate_left
    · exact h.elim
    rename_i n e hk
    split at h
    rotate_left
    · exact h.elim
    rename_i te hte
    obtain ⟨hb, h'⟩ := bif_inv h
    simp only [Bool.and_eq_true] at hb
    have hg := eq_of_eqB hb.1
    have hs := eq_of_eqB hb.2.1
    have hs1 := eq_of_eqB hb.2.2.1
    have hj := eq_of_eqB hb.2.2.2.1
    have hi0 := of_decide_eq_true hb.2.2.2.2
    subst hj; subst hi0; subst hs1
    obtain ⟨⟨hin, hlen⟩, h'⟩ := h'
    obtain ⟨h0, h1⟩ := index_inv hin
    have hlen : (es.length : Int) = (n : Int) := hlen
    obtain ⟨hyv, _⟩ := ev_int R hy
    obtain ⟨d, hu, hkd, _⟩ := (hT t ti hti).kd
    rw [hk] at hkd
    have hkd : d = .array n e := hkd
    subst hkd
    obtain ⟨sz', es', cur', tags', fz', p1, p2, _, p3⟩ := (ev_rel R hx).one_inv
    rw [hob] at p1; injection p1 with p1; injection p1 with q1 q2 q3 q4 q5; subst q1; subst q2; subst q3; subst q4; subst q5
    obtain ⟨_, b, len, cap, hv, hp⟩ := p3 hg
    have hp : a.eval x = .pointer (some ⟨b, 0, none⟩) := by simpa using hp
    refine goes_value (v := .pointer (some ⟨b, i.toNat * 1 + 0, none⟩)) ?_ h' R (.one _ _ ⟨1, es, cur, tags, fz, hob, p2, ⟨_, rfl⟩, fun _ => ⟨h0, b, len, cap, hv, rfl⟩⟩)
    have hlt : (0 : Int) ≤ i ∧ i < (n : Int) := ⟨h0, by omega⟩
    simp [execOp, ho, hp, hyv, Instr.indexAt, Instr.sureAddr, asIntOf, run_underlying hu, hlt, cellsOf_size hT hte, hs, Addr.add_mid]
  · exact op_indexAddr2 ho hT R h

theorem op_indexAddrD {t : Nat} {x y : Operand} (ho : o.op = .indexAddr t x y) (hT : TabOk P tab) (R : Rel E ok hd tm ob a.tmps w)
    (h : (sIndexAddrD std tab t ob (ev tm x) (ev tm y)).holds std cl K) : Goes P E tm ob a.tmps K o a w := by
  unfold sIndexAddrD at h
  split at h
  · rename_i n g k i hx hy
    split at h
    rotate_left
    · exact h.elim
    rename_i sz es cur tags fz hob
    split at h
    · exact op_indexAddr3 ho hT R (by rw [hx, hy]; exact h)
    · exact h.elim
    rename_i hc1 hc2
    split at h
    rotate_left
    · exact h.elim
    rename_i e he
    split at h
    rotate_left
    · exact h.elim
    rename_i te hte
    obtain ⟨hb, h'⟩ := bif_inv h
    rw [Bool.and_eq_true] at hb
    have hg := eq_of_eqB hb.1
    have hs := eq_of_eqB hb.2
    obtain ⟨hin, h'⟩ := h'
    obtain ⟨h0, h1⟩ := index_inv hin
    obtain ⟨hyv, _⟩ := ev_int R hy
    have hu := sliceOf_und hT he
    obtain ⟨sz', es', cur', tags', fz', p1, p2, _, p3⟩ := (ev_rel R hx).one_inv
    rw [hob] at p1; injection p1 with p1; injection p1 with q1 q2 q3 q4 q5; subst q1; subst q2; subst q3; subst q4; subst q5
    have hv := p3 hg
    have hlt : (0 : Int) ≤ i ∧ i < (es.length : Int) := ⟨h0, h1⟩
    have hm : ∃ b cap, (hd n).v = .slice (some ⟨b, 0, none⟩) es.length cap := by
      obtain ⟨_, _, hR⟩ := R.obs n _ hob
      cases hcl : cls sz fz with
      | s => exact absurd hcl hc1
      | f => exact absurd hcl hc2
      | d =>
        rw [hcl] at hR
        rcases hR with ⟨he, _⟩ | ⟨b, cap, c, e, fr, vs, subs, d, _⟩
        · subst he; simp at h1; omega
        · exact ⟨_, _, d.v⟩
      | p =>
        rw [hcl] at hR
        rcases hR with ⟨he, _⟩ | ⟨b, cap, c, e, fr, vs, subs, d, _⟩
        · subst he; simp at h1; omega
        · exact ⟨_, _, d.v⟩
    obtain ⟨b, cap, g1⟩ := hm
    rw [g1] at hv
    refine goes_value (v := .pointer (some ⟨b, i.toNat * wd sz + 0, none⟩)) ?_ h' R (.one _ _ ⟨sz, es, cur, tags, fz, hob, p2, ⟨_, rfl⟩, fun _ => ⟨h0, b, _, _, g1, rfl⟩⟩)
    simp [execOp, ho, hv, hyv, Instr.indexAt, asIntOf, run_underlying hu, hlt, cellsOf_size hT hte, hs, Addr.add_mid]
  · rename_i n g i j k' k hx hy
    split at h
    rotate_left
    · exact h.elim
    rename_i e sz es cur tags fz he hob
    split at h
    rotate_left
    · exact h.elim
    rename_i te hte
    obtain ⟨hb, h'⟩ := bif_inv h
    simp only [Bool.and_eq_true] at hb
    have hcls := isP_cls hb.1
    have hg := eq_of_eqB hb.2.1
    have hs := eq_of_eqB hb.2.2
    cases h' with
    | mk hin h' =>
    obtain ⟨h0, h1⟩ := index_inv hin
    dsimp only at h'
    split at h'
    rotate_left
    · exact h'.elim
    rename_i l hl
    obtain ⟨hink, h'⟩ := h'
    obtain ⟨k0, k1⟩ := index_inv hink
    obtain ⟨hyv, _⟩ := ev_int R hy
    have hu := sliceOf_und hT he
    obtain ⟨sz', es', cur', tags', fz', p1, p2, _, p3⟩ := (ev_rel R hx).one_inv
    rw [hob] at p1; injection p1 with p1; injection p1 with q1 q2 q3 q4 q5; subst q1; subst q2; subst q3; subst q4; subst q5
    have hv := p3 hg
    have hgt : es[i.toNat]? = some (std.get es i) := by simp [std, List.getD, show i.toNat < es.length by omega]
    obtain ⟨_, _, hR⟩ := R.obs n _ hob
    rw [hcls] at hR
    rcases hR with ⟨he, _⟩ | ⟨b, cap, c, e, fr, vs, subs, d, hsb⟩
    · subst he; simp at h1; omega
    · have hd' := d.dp i.toNat j _ _ hgt hl
      rw [hsb i.toNat j _ l hgt hl] at hd'
      have hm : ∃ b cap, (hd n).sub i.toNat j = .slice (some ⟨b, 0, none⟩) l.length cap := by
        generalize (hd n).sub i.toNat j = v at hd'
        cases hd' with
        | snil => simp at k1; omega
        | szero => simp at k1; omega
        | sl => exact ⟨_, _, rfl⟩
      obtain ⟨b2, cap2, g1⟩ := hm
      rw [g1] at hv
      refine goes_value (v := .pointer (some ⟨b2, k.toNat, none⟩)) ?_ h' R (.one _ _ ⟨sz, es, cur, tags, fz, hob, p2, ⟨_, rfl⟩, fun _ => ⟨k0, b2, _, _, g1, rfl⟩⟩)
      have hlt : (0 : Int) ≤ k ∧ k < (l.length : Int) := ⟨k0, k1⟩
      simp [execOp, ho, hv, hyv, Instr.indexAt, asIntOf, run_underlying hu, hlt, cellsOf_size hT hte, hs, Addr.add_mid]
  · exact op_indexAddr3 ho hT R h

theorem op_index {t : Nat} {x y : Operand} (ho : o.op = .index t x y) (hT : TabOk P tab) (R : Rel E ok hd tm ob a.tmps w) (h : (sIndex std tab t (ev tm x) (ev tm y)).holds std cl K) : Goes P E tm ob a.tmps K o a w := by
  unfold sIndex at h
  split at h
  · rename_i s k i hx hy
    obtain ⟨hs, h'⟩ := bif_inv h
    have hu := isStr_und hT hs
    obtain ⟨⟨h0, h1⟩, h'⟩ := h'
    obtain ⟨u, hv, rfl, hb⟩ := ev_str R hx
    obtain ⟨hyv, _⟩ := ev_int R hy
    have hlt : i.toNat < u.size := by have : i < (u.data.toList.length : Int) := h1; simp at this; omega
    have h0 : 0 ≤ i := h0
    have hget : u[i.toNat]? = some u[i.toNat] := by simp [getElem?_pos, hlt]
    have e1 : u.data.toList.getD i.toNat 0 = u[i.toNat] := by
      have : u.data.toList.length = u.size := by simp
      rw [List.getD, List.getElem?_eq_getElem (by omega)]; rfl
    refine goes_t R (v := .int .u8 (u[i.toNat]).toNat) ?_ h' ?_
    · simp [execOp, ho, hv, hyv, Instr.index, asIntOf, run_underlying hu, h0, hlt]
    · show Rep w ok _ (.int .u8 (std.sget u.data.toList i))
      have : std.sget u.data.toList i = ((u[i.toNat]).toNat : Int) := by show ((u.data.toList.getD i.toNat 0).toNat : Int) = _; rw [e1]
      rw [this]
      have hlt2 := (u[i.toNat]).toNat_lt
      exact .int _ _ (by simp [IntKind.has, IntKind.min, IntKind.max, IntKind.signed, IntKind.bits]; omega)
  · rename_i vs k i hx hy
    split at h
    rotate_left
    · exact h.elim
    rename_i ti hti
    split at h
    rotate_left
    · exact h.elim
    rename_i n e hk
    split at h
    rotate_left
    · exact h.elim
    rename_i te hte
    obtain ⟨hb, h'⟩ := bif_inv h
    simp only [Bool.and_eq_true, decide_eq_true_eq] at hb
    obtain ⟨hlt, hle⟩ := hb
    have hle := le_of_leB hle
    obtain ⟨d, hu, hkd, _⟩ := (hT t ti hti).kd
    rw [hk] at hkd
    have hkd : d = .array n e := hkd
    subst hkd
    obtain ⟨cs, hcs, hl, hv⟩ := (ev_rel R hx).agg_inv
    obtain ⟨v, hr, ha⟩ := part_rel (P := P) (w := w) hT hte hl hv hle
    obtain ⟨hyv, _⟩ := ev_int R hy
    refine goes_value ?_ h' R ha
    simp [execOp, ho, hcs, hyv, Instr.index, asIntOf, run_underlying hu, hlt, cellsOf_size hT hte, hr]
  · exact h.elim

theorem treesC_rel : ∀ {vs : List V} {ts : List T} {cvs : List Value}, treesC vs = some ts → cvs.length = vs.length → (∀ (i : Nat) c x, cvs[i]? = some c → vs[i]? = some x → VR w ok hd ob c x) →
    cvs.length = ts.length ∧ ∀ (j : Nat) v t, cvs[j]? = some v → ts[j]? = some t → Rep w ok v t := by
  intro vs
  induction vs with
  | nil => intro ts cvs h hl _; simp [treesC] at h; subst h; simp at hl; subst hl; exact ⟨rfl, by simp⟩
  | cons v vs ihv =>
    intro ts cvs h hl hrel
    cases cvs with
    | nil => simp at hl
    | cons cv cvs =>
      have step : ∀ (c : T) (r' : List T), treesC vs = some r' → Rep w ok cv c → ts = c :: r' → (cv :: cvs).length = ts.length ∧ ∀ (j : Nat) v t, (cv :: cvs)[j]? = some v → ts[j]? = some t → Rep w ok v t := by
        intro c r' h1 h2 h3
        subst h3
        obtain ⟨l1, l2⟩ := ihv h1 (by simpa using hl) (fun i c x a b => hrel (i + 1) c x (by simpa using a) (by simpa using b))
        refine ⟨by simp [l1], fun j v' t a b => ?_⟩
        cases j with
        | zero => simp at a b; subst a; subst b; exact h2
        | succ j => exact l2 j v' t (by simpa using a) (by simpa using b)
      unfold treesC at h
      split at h
      · rename_i heq; cases heq
      · rename_i c l heq
        injection heq with e1 e2; subst e1; subst e2
        split at h
        · rename_i r' h1; injection h with h; exact step c r' h1 (hrel 0 cv _ rfl rfl) h.symm
        · cases h
      · rename_i l heq
        injection heq with e1 e2; subst e1; subst e2
        split at h
        · rename_i r' h1
          injection h with h
          have : cv = .slice none 0 0 := hrel 0 cv .nil rfl rfl
          exact step (.sl []) r' h1 (this ▸ .snil) h.symm
        · cases h
      · cases h

theorem op_makeFunc {f : Fn} {first caps : Array Operand} (ho : o.op = .makeFunc f first caps) (R : Rel E ok hd tm ob a.tmps w)
    (h : (match firstsOf (ev tm) first.toList, capsOf (ev tm) caps.toList with
      | some fs, some cs => SR.ret (.one (.fn f fs cs)) []
      | _, _ => .bad).holds std cl K) : Goes P E tm ob a.tmps K o a w := by
  split at h
  · rename_i fs cs hf hc
    have key : ∀ (l : List Operand) (fs : List (List T)), firstsOf (ev tm) l = some fs → ∃ fvs : List (List Value), l.map a.eval = fvs.map (fun c => .agg c.toArray) ∧ fvs.length = fs.length ∧
        (∀ (i : Nat) (x : List Value) (y : List T), fvs[i]? = some x → fs[i]? = some y → x.length = y.length) ∧
        (∀ (i j : Nat) (x : List Value) (y : List T) (v : Value) (t : T), fvs[i]? = some x → fs[i]? = some y → x[j]? = some v → y[j]? = some t → Rep w ok v t) := by
      intro l
      induction l with
      | nil => intro fs h; simp [firstsOf] at h; subst h; exact ⟨[], rfl, rfl, by simp, by simp⟩
      | cons x r ih =>
        intro fs h
        unfold firstsOf at h
        split at h
        · rename_i vs l' hx hr
          split at h
          · rename_i ts hts
            injection h with h; subst h
            obtain ⟨fvs, e1, e2, e3, e4⟩ := ih _ hr
            obtain ⟨cvs, hv, hl, hrel⟩ := (ev_rel R hx).agg_inv
            obtain ⟨l1, l2⟩ := treesC_rel hts hl hrel
            refine ⟨cvs :: fvs, by simp [hv, e1], by simp [e2], fun i x y p q => ?_, fun i j x y v t p q p' q' => ?_⟩
            · cases i with
              | zero => simp at p q; subst p; subst q; exact l1
              | succ i => exact e3 i x y (by simpa using p) (by simpa using q)
            · cases i with
              | zero => simp at p q; subst p; subst q; exact l2 j v t p' q'
              | succ i => exact e4 i j x y v t (by simpa using p) (by simpa using q) p' q'
          · cases h
        · cases h
    have key2 : ∀ (l : List Operand) (cs : List Cap), capsOf (ev tm) l = some cs → (l.map a.eval).length = cs.length ∧ ∀ (j : Nat) v c, (l.map a.eval)[j]? = some v → cs[j]? = some c → CapR w ok hd ob v c := by
      intro l
      induction l with
      | nil => intro cs h; simp [capsOf] at h; subst h; simp
      | cons x r ih =>
        intro cs h
        unfold capsOf at h
        have step : ∀ (c : Cap) (l' : List Cap), capsOf (ev tm) r = some l' → CapR w ok hd ob (a.eval x) c → cs = c :: l' → ((x :: r).map a.eval).length = cs.length ∧ ∀ (j : Nat) v c, ((x :: r).map a.eval)[j]? = some v → cs[j]? = some c → CapR w ok hd ob v c := by
          intro c l' h1 h2 h3
          subst h3
          obtain ⟨l1, l2⟩ := ih _ h1
          refine ⟨by simpa using l1, fun j v c' p q => ?_⟩
          cases j with
          | zero => simp at p q; subst p; subst q; exact h2
          | succ j => exact l2 j v c' (by simpa using p) (by simpa using q)
        split at h
        · rename_i n off l' hx hr
          injection h with h
          exact step (.ptr n off) _ hr (ev_rel R hx).one_inv h.symm
        · rename_i c l' hx hr
          injection h with h
          exact step (.t c) _ hr (ev_rel R hx).one_inv h.symm
        · cases h
    obtain ⟨fvs, e1, e2, e3, e4⟩ := key _ _ hf
    obtain ⟨e5, e6⟩ := key2 _ _ hc
    refine goes_value (v := .func f (fvs.map fun c => .agg c.toArray).toArray (caps.toList.map a.eval).toArray) ?_ h R (.one _ _ ⟨fvs, caps.toList.map a.eval, rfl, e2, e3, e5, e4, e6⟩)
    have e1' : first.map a.eval = (fvs.map fun c => Value.agg c.toArray).toArray := by rw [← e1, ← Array.toList_map]
    have e2' : caps.map a.eval = (caps.toList.map a.eval).toArray := by rw [← Array.toList_map]
    simp only [execOp, ho, Instr.makeFunc, e1', e2']
    simp
  · exact h.elim

end Go.TL

/- TlK -/
namespace Go.TL
open Go

variable {P : Program} {E : Env P} {ok : Nat → Prop} {hd : HF} {tm : Nat → Option A} {ob : OF} {w : World} {a : Act} {K : A → Obs → Prop} {o : Oper} {tab : TF} {cl : Nat → List A → Obs → (A → Obs → Prop) → Prop} {tmps : Array Value}

def frzO (ob : OF) (ns : List Nat) : OF := fun m => if m ∈ ns then (ob m).map frOb else ob m
def frzH (hd : HF) (ns : List Nat) : HF := fun m => if m ∈ ns then ⟨(hd m).v, [], (hd m).sub⟩ else hd m
def frzK (ok : Nat → Prop) (hd : HF) (ob : OF) (ns : List Nat) : Nat → Prop := fun b => ok b ∨ ∃ n, n ∈ ns ∧ ob n ≠ none ∧ b ∈ (hd n).own

theorem look_append {α : Type} (l m : List (Nat × α)) (n : Nat) : look (l ++ m) n = match look l n with | some x => some x | none => look m n := by
  induction l with
  | nil => rfl
  | cons p l ih =>
    obtain ⟨i, x⟩ := p
    by_cases h : i = n
    · simp [look, h]
    · simp [look, h, ih]
theorem look_frz (ob : OF) (ns : List Nat) (m : Nat) : look (frz ob ns).reverse m = if m ∈ ns then (ob m).map frOb else none := by
  induction ns with
  | nil => simp [frz, look]
  | cons n ns ih =>
    unfold frz
    cases h : ob n with
    | none =>
      simp only []
      rw [ih]
      by_cases e : m = n
      · subst e; simp [h]
      · simp [e]
    | some x =>
      simp only [List.reverse_cons, look_append, ih]
      by_cases e : m = n
      · subst e
        by_cases hm : m ∈ ns
        · simp [h, hm]
        · simp [h, hm, look]
      · by_cases hm : m ∈ ns
        · cases hb : ob m <;> simp [e, hm, look, Ne.symm e]
        · simp [e, hm, look, Ne.symm e]
theorem updO_frz (ob : OF) (ns : List Nat) : updO ob (frz ob ns) = frzO ob ns := by
  funext m
  simp only [updO, look_frz, frzO]
  by_cases e : m ∈ ns
  · simp only [e, if_true]
    cases h : ob m <;> rfl
  · simp [e]

theorem frOb_row {o : Ob} : ∀ {sz es cur tags fz}, frOb o = .row sz es cur tags fz → ∃ fz', o = .row sz es cur tags fz' ∧ fz = true := by
  intro sz es cur tags fz h
  cases o with
  | box => cases h
  | row => injection h with h1 h2 h3 h4 h5; subst h1; subst h2; subst h3; subst h4; exact ⟨_, rfl, h5.symm⟩

theorem le_frz (ns : List Nat) : Le hd ob (frzH hd ns) (frzO ob ns) where
  box m cs fz h := by
    by_cases e : m ∈ ns
    · exact ⟨cs, true, by simp [frzO, e, h, frOb], by simp [frzH, e]⟩
    · exact ⟨cs, fz, by simp [frzO, e, h], by simp [frzH, e]⟩
  row m sz es cur tags fz h := by
    by_cases e : m ∈ ns
    · exact ⟨es, cur, tags, true, by simp [frzO, e, h, frOb], fun _ h => h, .inl ⟨rfl, by simp [frzH, e], by simp [frzH, e]⟩⟩
    · exact ⟨es, cur, tags, fz, by simp [frzO, e, h], fun _ h => h, .inl ⟨rfl, by simp [frzH, e], by simp [frzH, e]⟩⟩

theorem frzO_some {ns : List Nat} {m : Nat} (h : frzO ob ns m ≠ none) : ob m ≠ none := by
  intro e
  apply h
  unfold frzO
  split <;> simp [e]

theorem cls_frz_s {sz : Nat} {fz : Bool} (h : cls sz fz = .s) : cls sz true = .s := by
  unfold cls at h ⊢
  revert h
  generalize ltB sz 1000000 = x
  generalize ltB sz 2000000 = y
  cases x <;> cases y <;> cases fz <;> intro h <;> first | rfl | cases h
theorem cls_frz_d {sz : Nat} {fz : Bool} (h : cls sz fz = .d) : cls sz true = .s := by
  unfold cls at h ⊢
  revert h
  generalize ltB sz 1000000 = x
  generalize ltB sz 2000000 = y
  cases x <;> cases y <;> cases fz <;> intro h <;> first | rfl | cases h
theorem cls_frz_p {sz : Nat} {fz : Bool} (h : cls sz fz = .p) : cls sz true = .f := by
  unfold cls at h ⊢
  revert h
  generalize ltB sz 1000000 = x
  generalize ltB sz 2000000 = y
  cases x <;> cases y <;> cases fz <;> intro h <;> first | rfl | cases h
theorem cls_frz_f {sz : Nat} {fz : Bool} (h : cls sz fz = .f) : cls sz true = .f := by
  unfold cls at h ⊢
  revert h
  generalize ltB sz 1000000 = x
  generalize ltB sz 2000000 = y
  cases x <;> cases y <;> cases fz <;> intro h <;> first | rfl | cases h
theorem cls_true_d {sz : Nat} : cls sz true ≠ .d := by
  unfold cls
  generalize ltB sz 1000000 = x
  generalize ltB sz 2000000 = y
  cases x <;> cases y <;> intro h <;> cases h
theorem cls_true_p {sz : Nat} : cls sz true ≠ .p := by
  unfold cls
  generalize ltB sz 1000000 = x
  generalize ltB sz 2000000 = y
  cases x <;> cases y <;> intro h <;> cases h
theorem cls_false_f {sz : Nat} : cls sz false ≠ .f := by
  unfold cls
  generalize ltB sz 1000000 = x
  generalize ltB sz 2000000 = y
  cases x <;> cases y <;> intro h <;> cases h
theorem ORel.freeze (R : ORel ok hd ob w) (ns : List Nat) : ORel (frzK ok hd ob ns) (frzH hd ns) (frzO ob ns) w where
  okLt b hb := by
    rcases hb with hb | ⟨n, _, hn, hb⟩
    · exact R.okLt b hb
    · exact (R.own n b hn hb).2
  own m b hm hb := by
    by_cases e : m ∈ ns
    · simp [frzH, e] at hb
    · simp only [frzH, e, if_false] at hb
      have hm' := frzO_some hm
      obtain ⟨h1, h2⟩ := R.own m b hm' hb
      refine ⟨fun hk => ?_, h2⟩
      rcases hk with hk | ⟨n, hn, hno, hk⟩
      · exact h1 hk
      · exact R.disj m n b (fun q => e (q ▸ hn)) hm' hno hb hk
  disj m n b hmn hm hn hb := by
    by_cases e : m ∈ ns
    · simp [frzH, e] at hb
    · simp only [frzH, e, if_false] at hb
      by_cases e' : n ∈ ns
      · simp [frzH, e']
      · simp only [frzH, e', if_false]
        exact R.disj m n b hmn (frzO_some hm) (frzO_some hn) hb
  obs m o' hm := by
    have mono : ∀ {h : Hd} {o : Ob}, ObR w ok hd ob h o → ObR w (frzK ok hd ob ns) (frzH hd ns) (frzO ob ns) h o := fun hh => hh.mono (fun _ h => .inl h) (fun _ _ => rfl) (fun _ _ => rfl) (le_frz ns)
    by_cases e : m ∈ ns
    · simp only [frzO, e, if_true] at hm
      cases ho : ob m with
      | none => rw [ho] at hm; cases hm
      | some o =>
        rw [ho] at hm; injection hm with hm; subst hm
        have ho' := mono (R.obs m o ho)
        have hne : ob m ≠ none := by rw [ho]; simp
        cases o with
        | box cs fz =>
          obtain ⟨b, c, e', fr, h1, h2, h3, h4⟩ := ho'
          refine ⟨b, c, e', fr, by simp [frzH, e, h1], by simp [frzH, e], fun _ => ?_, h4⟩
          cases fz with
          | true => exact h3 rfl
          | false => exact .inr ⟨m, e, hne, by rw [h2]; simp⟩
        | row sz es cur tags fz =>
          obtain ⟨h0, hz, hh⟩ := ho'
          refine ⟨h0, hz, ?_⟩
          have hsub : ∀ b, b ∈ (hd m).own → frzK ok hd ob ns b := fun b hb => .inr ⟨m, e, hne, hb⟩
          have e2 : (frzH hd ns m).v = (hd m).v := by simp [frzH, e]
          have e3 : (frzH hd ns m).own = [] := by simp [frzH, e]
          cases hc : cls sz fz with
          | s =>
            rw [hc] at hh
            rw [cls_frz_s hc]
            rcases hh with ⟨e1, e2', e3'⟩ | ⟨b, c, e', fr, cap, h1, h2, h3, h4⟩
            · exact .inl ⟨e1, by rw [e2, e2'], e3⟩
            · refine .inr ⟨b, c, e', fr, cap, by rw [e2, h1], by rw [e3]; rfl, fun _ => ?_, h4⟩
              cases fz with
              | true => exact h3 rfl
              | false => exact .inr ⟨m, e, hne, by rw [h2]; simp⟩
          | d =>
            rw [hc] at hh
            rw [cls_frz_d hc]
            rcases hh with ⟨e1, e2'⟩ | ⟨b, cap, c, e', fr, vs, subs, d, hs⟩
            · exact .inl ⟨e1, by rw [e2, e2'], e3⟩
            · refine .inr ⟨b, c, e', fr, cap, by rw [e2, d.v], by rw [e3]; rfl, fun _ => hsub _ d.own, d.blk, d.free, hs, d.cap, d.max, d.wid, fun i j x t p q => ⟨_, d.cell i j x t p q, ?_⟩⟩
              exact (d.dp i j x t p q).rep fun b hb => hsub b (d.sub i j b hb).1
          | p =>
            rw [hc] at hh
            rw [cls_frz_p hc]
            refine ⟨e3, ?_⟩
            rw [e2]
            rcases hh with ⟨e1, x, n, e2', e4⟩ | ⟨b, cap, c, e', fr, vs, subs, d, hs⟩
            · rw [e2', e1]
              cases x with
              | none => rw [e4 rfl]; exact .snil
              | some x => exact .szero x n
            · exact d.toDp.rep hsub
          | f =>
            rw [hc] at hh
            rw [cls_frz_f hc]
            exact ⟨e3, by rw [e2]; exact hh.2⟩
    · simp only [frzO, e, if_false] at hm
      have := mono (R.obs m o' hm)
      simp only [frzH, e, if_false]
      exact this

theorem Rel.freeze (R : Rel E ok hd tm ob tmps w) (ns : List Nat) : Rel E (frzK ok hd ob ns) (frzH hd ns) tm (frzO ob ns) tmps w where
  toORel := R.toORel.freeze ns
  fr := R.fr
  ok0 b hb := .inl (R.ok0 b hb)
  okSub b hb := by
    rcases hb with hb | ⟨n, _, hn, hb⟩
    · exact R.okSub b hb
    · exact .inr (R.ownSub n b hn hb)
  ownSub m b hm hb := by
    by_cases e : m ∈ ns
    · simp [frzH, e] at hb
    · simp only [frzH, e, if_false] at hb
      exact R.ownSub m b (frzO_some hm) hb
  nt := R.nt
  kp := R.kp.trans (le_frz ns).keep
  tms t x hx := (R.tms t x hx).mono (fun _ h => .inl h) (fun _ _ => rfl) (le_frz ns)

/-- All objects of the list are frozen. -/
def AllFr (ob : OF) (ns : List Nat) : Prop := ∀ n, n ∈ ns → ∀ o, ob n = some o → frOb o = o
theorem allFr_frzO (ob : OF) (ns : List Nat) : AllFr (frzO ob ns) ns := by
  intro n hn o h
  simp only [frzO, hn, if_true] at h
  cases hb : ob n with
  | none => rw [hb] at h; cases h
  | some x => rw [hb] at h; injection h with h; subst h; cases x <;> rfl

theorem capTree_frz (ns : List Nat) (c : Cap) : c.tree (frzO ob ns) = c.tree ob := by
  cases c with
  | t c => rfl
  | ptr o off =>
    by_cases h : o ∈ ns
    · cases hb : ob o with
      | none => simp [Cap.tree, frzO, h, hb]
      | some x => cases x <;> simp [Cap.tree, frzO, h, hb, frOb]
    · simp [Cap.tree, frzO, h]
theorem capsTree_frz (ns : List Nat) : ∀ l : List Cap, capsTree (frzO ob ns) l = capsTree ob l
  | [] => rfl
  | c :: r => by simp only [capsTree, capTree_frz, capsTree_frz ns r]
/-- What is frozen reads as it did. -/
theorem tree_frz (ns : List Nat) (v : V) : v.tree ob = v.tree (frzO ob ns) := by
  cases v with
  | row o g =>
    by_cases h : o ∈ ns
    · cases hb : ob o with
      | none => simp [V.tree, frzO, h, hb]
      | some x => cases x <;> simp [V.tree, frzO, h, hb, frOb]
    · simp [V.tree, frzO, h]
  | ptr o off => simp only [V.tree, capTree_frz]
  | fn f first caps => simp only [V.tree, capsTree_frz]
  | _ => rfl

theorem CapR.rep {v : Value} {c : Cap} {t : T} (R : ORel ok hd ob w) (h : CapR w ok hd ob v c) (ht : c.tree ob = some t) (hf : AllFr ob (crefs [c])) : Rep w ok v t := by
  cases c with
  | t c => simp [Cap.tree] at ht; subst ht; exact h
  | ptr o off =>
    obtain ⟨cs, fz, b, h1, h2, h3⟩ := h
    simp only [Cap.tree, h1] at ht
    split at ht
    · rename_i l hl
      injection ht with ht; subst ht
      have hfz := hf o (by simp [crefs]) _ h1
      injection hfz with _ hfz
      obtain ⟨b', c, e, fr, g1, g2, g3, g4, g5, g6, g7⟩ := R.obs o _ h1
      rw [h2] at g1; injection g1 with g1; injection g1 with g1; injection g1 with g1; subst g1
      obtain ⟨l1, l2⟩ := treesC_rel (cvs := c.toList) hl (by simpa using g6) (fun i c' x p q => g7 i c' x (by simpa using p) q)
      subst h3
      have := Rep.pt (w := w) (ok := ok) b 0 off l (fun j => c.getD j undef) (g3 hfz.symm) (fun j hj => by
        have hj' : j < c.size := by rw [← l1] at hj; simpa using hj
        rw [cell_of g4]; simp [Array.getD, hj']) (fun j t htj => by
        have hj' : j < l.length := by by_cases q : j < l.length; exact q; rw [List.getElem?_eq_none (by omega)] at htj; cases htj
        have hj2 : j < c.size := by rw [← l1] at hj'; simpa using hj'
        exact l2 j _ t (by simp [Array.getD, hj2]) htj)
      simpa using this
    · cases ht
theorem VR.rep {v : Value} {c : V} {t : T} (R : ORel ok hd ob w) (h : VR w ok hd ob v c) (ht : c.tree ob = some t) (hf : AllFr ob c.refs) : Rep w ok v t := by
  cases c with
  | t c => simp [V.tree] at ht; subst ht; exact h
  | nil => simp [V.tree] at ht; subst ht; cases h; exact .snil
  | row o g =>
    obtain ⟨sz, es, cur, tags, fz, h1, h2, _, h3⟩ := h
    simp only [V.tree, h1] at ht
    by_cases hg : eqB g cur = true
    · rw [hg] at ht; simp at ht; subst ht
      have hfz := hf o (by simp [V.refs]) _ h1
      injection hfz with _ _ _ _ hfz
      rw [h3 (eq_of_eqB hg)]
      obtain ⟨_, hz, hR⟩ := R.obs o _ h1
      subst hfz
      cases hcl : cls sz true with
      | d => exact absurd hcl cls_true_d
      | p => exact absurd hcl cls_true_p
      | f => rw [hcl] at hR; exact hR.2
      | s =>
      rw [hcl] at hR
      generalize wd sz = sz at hR hz
      rcases hR with ⟨he, hv, _⟩ | ⟨b', c, e, fr, cap', g1, g2, g3, g4, g5, g6, g7, g7', g8, g9⟩
      · rw [hv]; subst he; exact .snil
      · rw [g1]
        have hm : ∀ i j, i < es.length → j < sz → i * sz + j < c.size := by
          intro i j hi hj
          have : (i + 1) * sz ≤ cap' * sz := Nat.mul_le_mul_right _ (by omega)
          rw [Nat.succ_mul] at this; omega
        refine .sl b' 0 cap' sz es (fun i j => c.getD (i * sz + j) undef) g7' g7 g8 (g3 rfl) (fun i j hi hj => ?_) (fun i j x t hx ht => ?_)
        · rw [cell_of g4]; have := hm i j hi hj; simp [Array.getD, this]
        · obtain ⟨v, hv, hr⟩ := g9 i j x t hx ht
          simpa [Array.getD_eq_getD_getElem?, hv] using hr
    · rw [Bool.not_eq_true] at hg; rw [hg] at ht; cases ht
  | ptr o off => exact CapR.rep R (c := .ptr o off) h ht (by simpa [V.refs, crefs] using hf)
  | elt o g i j => cases ht
  | fn f first caps =>
    obtain ⟨fvs, cvs, rfl, h2, h3, h4, h5, h6⟩ := h
    simp only [V.tree] at ht
    split at ht
    · rename_i l hl
      injection ht with ht; subst ht
      have key : ∀ (caps : List Cap) (l : List T) (cvs : List Value), capsTree ob caps = some l → cvs.length = caps.length → (∀ (j : Nat) v c, cvs[j]? = some v → caps[j]? = some c → CapR w ok hd ob v c) → AllFr ob (crefs caps) →
          cvs.length = l.length ∧ ∀ (j : Nat) v t, cvs[j]? = some v → l[j]? = some t → Rep w ok v t := by
        intro caps
        induction caps with
        | nil => intro l cvs h hl _ _; simp [capsTree] at h; subst h; simp at hl; subst hl; exact ⟨rfl, by simp⟩
        | cons c r ih =>
          intro l cvs h hl hr hfr
          unfold capsTree at h
          split at h
          · rename_i t l' ht hl'
            injection h with h; subst h
            cases cvs with
            | nil => simp at hl
            | cons cv cvs =>
              have hfc : AllFr ob (crefs [c]) := fun n hn => hfr n (by cases c <;> simp [crefs] at hn ⊢; exact .inl hn)
              have hfr' : AllFr ob (crefs r) := fun n hn => hfr n (by cases c <;> simp [crefs] <;> first | exact hn | exact .inr hn)
              obtain ⟨l1, l2⟩ := ih l' cvs hl' (by simpa using hl) (fun j v c p q => hr (j + 1) v c (by simpa using p) (by simpa using q)) hfr'
              refine ⟨by simp [l1], fun j v t' p q => ?_⟩
              cases j with
              | zero => simp at p q; subst p; subst q; exact CapR.rep R (hr 0 _ _ rfl rfl) ht hfc
              | succ j => exact l2 j v t' (by simpa using p) (by simpa using q)
          · cases h
      obtain ⟨l1, l2⟩ := key caps l cvs hl h4 h6 (by simpa [V.refs] using hf)
      exact .fn f first l fvs cvs h2 h3 l1 h5 l2
    · cases ht
  | bsl o n sz => cases ht
  | part o g i j => cases ht
  | sub o g i j => cases ht
  | selt o g i j k => cases ht
  | any => cases ht

theorem allFr_append {l m : List Nat} : AllFr ob (l ++ m) ↔ AllFr ob l ∧ AllFr ob m :=
  ⟨fun h => ⟨fun n hn => h n (by simp [hn]), fun n hn => h n (by simp [hn])⟩, fun h n hn => by rcases List.mem_append.1 hn with q | q; exact h.1 n q; exact h.2 n q⟩

theorem trees_rel (R : ORel ok hd ob w) : ∀ {vs : List V} {ts : List T} {cvs : List Value}, trees ob vs = some ts → cvs.length = vs.length → (∀ (i : Nat) c x, cvs[i]? = some c → vs[i]? = some x → VR w ok hd ob c x) → AllFr ob (vrefs vs) →
    cvs.length = ts.length ∧ ∀ (j : Nat) v t, cvs[j]? = some v → ts[j]? = some t → Rep w ok v t := by
  intro vs
  induction vs with
  | nil => intro ts cvs h hl _ _; simp [trees] at h; subst h; simp at hl; subst hl; exact ⟨rfl, by simp⟩
  | cons v vs ih =>
    intro ts cvs h hl hr hfr
    unfold trees at h
    split at h
    · rename_i c r hc hr'
      injection h with h; subst h
      cases cvs with
      | nil => simp at hl
      | cons cv cvs =>
        obtain ⟨f1, f2⟩ := allFr_append.1 (show AllFr ob (v.refs ++ vrefs vs) from hfr)
        obtain ⟨l1, l2⟩ := ih hr' (by simpa using hl) (fun j v c p q => hr (j + 1) v c (by simpa using p) (by simpa using q)) f2
        refine ⟨by simp [l1], fun j v t' p q => ?_⟩
        cases j with
        | zero => simp at p q; subst p; subst q; exact VR.rep R (hr 0 _ _ rfl rfl) hc f1
        | succ j => exact l2 j v t' (by simpa using p) (by simpa using q)
    · cases h

theorem AR.rep (R : ORel ok hd ob w) {v : Value} {x y : A} (h : AR w ok hd ob v x) : x.tree ob = some y → AllFr ob x.refs → AR w ok hd ob v y := by
  induction h generalizing y with
  | one v c h =>
    intro ht hf
    unfold A.tree at ht
    split at ht
    · rename_i t hc; injection ht with ht; subst ht; exact .one _ _ (VR.rep R h hc hf)
    · cases ht
  | agg cs vs hl h =>
    intro ht hf
    unfold A.tree at ht
    split at ht
    · rename_i l hc
      injection ht with ht; subst ht
      obtain ⟨l1, l2⟩ := trees_rel R hc hl h hf
      refine .agg cs _ (by simp [l1]) fun i c x p q => ?_
      rw [List.getElem?_map] at q
      cases hx : l[i]? with
      | none => rw [hx] at q; cases q
      | some t => rw [hx] at q; injection q with q; subst q; exact l2 i c t p hx
    · cases ht
  | tup xs as hl h ih =>
    intro ht hf
    unfold A.tree at ht
    split at ht
    · rename_i r hr
      injection ht with ht; subst ht
      have key : ∀ (as : List A) (xs : List Value) (r : List A), A.tree.go ob as = some r → xs.length = as.length → (∀ (i : Nat) x a, xs[i]? = some x → as[i]? = some a → ∀ {y : A}, a.tree ob = some y → AllFr ob a.refs → AR w ok hd ob x y) → AllFr ob (A.refs.go as) →
          xs.length = r.length ∧ ∀ (i : Nat) x a, xs[i]? = some x → r[i]? = some a → AR w ok hd ob x a := by
        intro as
        induction as with
        | nil => intro xs r h hl _ _; simp [A.tree.go] at h; subst h; simp at hl; subst hl; exact ⟨rfl, by simp⟩
        | cons a as iha =>
          intro xs r h hl hr hfr
          unfold A.tree.go at h
          split at h
          · rename_i c r' hc hr'
            injection h with h; subst h
            cases xs with
            | nil => simp at hl
            | cons cv cvs =>
              obtain ⟨f1, f2⟩ := allFr_append.1 (show AllFr ob (a.refs ++ A.refs.go as) from hfr)
              obtain ⟨l1, l2⟩ := iha cvs r' hr' (by simpa using hl) (fun j v c p q => hr (j + 1) v c (by simpa using p) (by simpa using q)) f2
              refine ⟨by simp [l1], fun j v t' p q => ?_⟩
              cases j with
              | zero => simp at p q; subst p; subst q; exact hr 0 _ _ rfl rfl hc f1
              | succ j => exact l2 j v t' (by simpa using p) (by simpa using q)
          · cases h
      obtain ⟨l1, l2⟩ := key as xs r hr hl (fun i x a p q => ih i x a p q) hf
      exact .tup xs r l1 l2
    · cases ht

end Go.TL

/- TlL -/
namespace Go.TL
open Go

variable {P : Program} {E : Env P} {ok : Nat → Prop} {hd : HF} {tm : Nat → Option A} {ob : OF} {w : World} {a : Act} {K : A → Obs → Prop} {o : Oper} {tab : TF} {cl : Nat → List A → Obs → (A → Obs → Prop) → Prop} {tmps : Array Value}

theorem Rel.turn {n : Nat} {x x' : Ob} {h' : Hd} {w' : World} (R : Rel E ok hd tm ob tmps w) (hx : ob n = some x) (hf : Fr (hd n).own w w')
    (hown : ∀ b, b ∈ h'.own → (b ∈ (hd n).own ∨ w.heap.size ≤ b) ∧ b < w'.heap.size) (le : Le hd ob (setF hd n h') (setF ob n (some x')))
    (hO : ObR w' ok (setF hd n h') (setF ob n (some x')) h' x') : Rel E ok (setF hd n h') tm (setF ob n (some x')) tmps w' := by
  have hne : ob n ≠ none := by rw [hx]; simp
  have hok : ∀ b, ok b → w'.heap[b]? = w.heap[b]? := fun b hb => hf.block b (R.okLt b hb) fun q => (R.own n b hne q).1 hb
  have hne' : ∀ m, m ≠ n → setF ob n (some x') m ≠ none → ob m ≠ none := fun m hm h => by rwa [setF_ne _ _ _ _ hm] at h
  refine { okLt := fun b hb => Nat.lt_of_lt_of_le (R.okLt b hb) hf.size, own := ?_, disj := ?_, obs := ?_, fr := ?_, ok0 := R.ok0, okSub := R.okSub, ownSub := ?_, nt := R.nt, kp := R.kp.trans le.keep, tms := ?_ }
  · intro m b hm hb
    by_cases e : m = n
    · subst e
      rw [setF_same] at hb
      obtain ⟨h1, h2⟩ := hown b hb
      refine ⟨fun hk => ?_, h2⟩
      rcases h1 with h1 | h1
      · exact (R.own m b hne h1).1 hk
      · have := R.okLt b hk; omega
    · rw [setF_ne _ _ _ _ e] at hb
      obtain ⟨h1, h2⟩ := R.own m b (hne' m e hm) hb
      exact ⟨h1, Nat.lt_of_lt_of_le h2 hf.size⟩
  · intro m k b hmk hm hk hb
    by_cases e : m = n
    · subst e
      have ek : k ≠ m := fun q => hmk q.symm
      rw [setF_same] at hb
      rw [setF_ne _ _ _ _ ek]
      rcases (hown b hb).1 with h1 | h1
      · exact R.disj m k b hmk hne (hne' k ek hk) h1
      · intro h2; have := (R.own k b (hne' k ek hk) h2).2; omega
    · rw [setF_ne _ _ _ _ e] at hb
      by_cases e' : k = n
      · subst e'
        rw [setF_same]
        intro h2
        rcases (hown b h2).1 with h1 | h1
        · exact R.disj m k b hmk (hne' m e hm) hne hb h1
        · have := (R.own m b (hne' m e hm) hb).2; omega
      · rw [setF_ne _ _ _ _ e']
        exact R.disj m k b hmk (hne' m e hm) (hne' k e' hk) hb
  · intro m o' hm
    by_cases e : m = n
    · subst e
      rw [setF_same] at hm ⊢
      injection hm with hm; subst hm
      exact hO
    · rw [setF_ne _ _ _ _ e] at hm ⊢
      refine (R.obs m o' hm).mono (fun _ h => h) hok (fun b hb => ?_) le
      have hm' : ob m ≠ none := by rw [hm]; simp
      exact hf.block b (R.own m b hm' hb).2 fun q => R.disj m n b e hm' hne hb q
  · exact ⟨hf.os.trans R.fr.os, hf.tape.trans R.fr.tape, hf.output.trans R.fr.output, Nat.le_trans R.fr.size hf.size, fun b hb hn =>
      (hf.block b (Nat.lt_of_lt_of_le hb R.fr.size) fun q' => by
        rcases R.ownSub n b hne q' with h | h
        · omega
        · exact hn h).trans (R.fr.block b hb hn)⟩
  · intro m b hm hb
    by_cases e : m = n
    · subst e
      rw [setF_same] at hb
      rcases (hown b hb).1 with h1 | h1
      · exact R.ownSub m b hne h1
      · have := R.fr.size; exact .inl (by omega)
    · rw [setF_ne _ _ _ _ e] at hb
      exact R.ownSub m b (hne' m e hm) hb
  · exact fun t x hx => (R.tms t x hx).mono (fun _ h => h) hok le

theorem setCell_block {w : World} {b i : Nat} {v : Value} {c : Array Value} {e : TypeId} {fr : Nat × Nat} (h : w.heap[b]? = some (.cells c e fr)) :
    (w.setCell ⟨b, i, none⟩ v).heap[b]? = some (.cells (c.setIfInBounds i v) e fr) := by
  simp [World.setCell, Array.getElem?_modify, h]
theorem setCell_fr (w : World) (b i : Nat) (v : Value) : Fr [b] w (w.setCell ⟨b, i, none⟩ v) :=
  ⟨rfl, rfl, rfl, by simp [World.setCell], fun k _ hk => by
    have : b ≠ k := fun e => hk (by simp [e])
    simp [World.setCell, Array.getElem?_modify, this]⟩
theorem setCell_other {w : World} {b i q : Nat} {v : Value} (h : q ≠ b) : (w.setCell ⟨b, i, none⟩ v).heap[q]? = w.heap[q]? := by
  have : b ≠ q := fun e => h e.symm
  simp [World.setCell, Array.getElem?_modify, this]
theorem setCells_block : ∀ (vs : List Value) {w : World} {b o : Nat} {c : Array Value} {e : TypeId} {fr : Nat × Nat}, w.heap[b]? = some (.cells c e fr) → o + vs.length ≤ c.size →
    ∃ c', (w.setCells b o vs).heap[b]? = some (.cells c' e fr) ∧ c'.size = c.size ∧ (∀ j, c'[j]? = if o ≤ j ∧ j < o + vs.length then vs[j - o]? else c[j]?) ∧ Fr [b] w (w.setCells b o vs)
  | [], w, b, o, c, e, fr, h, hl => ⟨c, h, rfl, fun j => by rw [if_neg (by intro h; simp at h; omega)], Fr.refl _ _⟩
  | v :: r, w, b, o, c, e, fr, h, hl => by
    have h1 := setCell_block (i := o) (v := v) h
    obtain ⟨c', h2, h3, h4, h5⟩ := setCells_block r (o := o + 1) h1 (by simp at hl ⊢; omega)
    refine ⟨c', h2, by simpa using h3, fun j => ?_, (setCell_fr w b o v).trans h5⟩
    rw [h4 j]
    simp only [List.length_cons] at hl ⊢
    by_cases e1 : o + 1 ≤ j ∧ j < o + 1 + r.length
    · rw [if_pos e1, if_pos (by omega), show j - o = (j - (o + 1)) + 1 by omega]; simp
    · rw [if_neg e1]
      by_cases e2 : j = o
      · subst e2
        rw [if_pos (by omega), Array.getElem?_setIfInBounds]
        simp; omega
      · rw [if_neg (by omega), Array.getElem?_setIfInBounds_ne (Ne.symm e2)]

theorem getElem?_setAt {α : Type} : ∀ (l : List α) (off : Nat) (r : List α) (j : Nat), off + r.length ≤ l.length → (setAt l off r)[j]? = if off ≤ j ∧ j < off + r.length then r[j - off]? else l[j]?
  | l, off, [], j, h => by
    have : setAt l off ([] : List α) = l := by cases l <;> cases off <;> rfl
    rw [this, if_neg (by intro h; simp at h; omega)]
  | [], off, x :: r, j, h => by simp at h
  | y :: l, 0, x :: r, j, h => by
    show (x :: setAt l 0 r)[j]? = _
    cases j with
    | zero => simp
    | succ j =>
      have ih := getElem?_setAt l 0 r j (by simp at h ⊢; omega)
      simp only [List.getElem?_cons_succ, ih, List.length_cons]
      by_cases e : j < r.length
      · rw [if_pos (by omega), if_pos (by omega)]; simp
      · rw [if_neg (by omega), if_neg (by omega)]
  | y :: l, off + 1, x :: r, j, h => by
    show (y :: setAt l off (x :: r))[j]? = _
    cases j with
    | zero => rw [if_neg (by omega)]; rfl
    | succ j =>
      have ih := getElem?_setAt l off (x :: r) j (by simp at h ⊢; omega)
      simp only [List.getElem?_cons_succ, ih]
      by_cases e : off ≤ j ∧ j < off + (x :: r).length
      · rw [if_pos e, if_pos (by omega), show j + 1 - (off + 1) = j - off by omega]
      · rw [if_neg e, if_neg (by omega)]
theorem length_setAt {α : Type} : ∀ (l : List α) (off : Nat) (r : List α), (setAt l off r).length = l.length
  | [], _, [] => rfl
  | _ :: _, 0, [] => rfl
  | _ :: _, _ + 1, [] => rfl
  | [], _, _ :: _ => rfl
  | _ :: l, 0, _ :: r => by show (setAt l 0 r).length + 1 = _; rw [length_setAt]; rfl
  | _ :: l, off + 1, x :: r => by show (setAt l off (x :: r)).length + 1 = _; rw [length_setAt]; rfl

theorem Rep.oneCell {v : Value} {t : T} (h : Rep w ok v t) : v.oneCell' = true := by cases h <;> rfl
theorem VR.oneCell {v : Value} {c : V} (h : VR w ok hd ob v c) (hc : c ≠ .any) : v.oneCell' = true := by
  cases c with
  | t c => exact Rep.oneCell h
  | nil => cases h; rfl
  | row o g => obtain ⟨_, _, _, _, _, _, _, ⟨_, _, _, rfl⟩, _⟩ := h; rfl
  | ptr o off => obtain ⟨_, _, _, _, _, rfl⟩ := h; rfl
  | elt o g i j => obtain ⟨_, _, _, _, _, _, _, ⟨_, rfl⟩, _⟩ := h; rfl
  | fn f first caps => obtain ⟨_, _, rfl, _⟩ := h; rfl
  | bsl o n sz => obtain ⟨_, _, _, _, _, rfl, _⟩ := h; rfl
  | part o g i j => obtain ⟨_, _, _, _, _, _, _, ⟨_, _, _, rfl⟩, _⟩ := h; rfl
  | sub o g i j => obtain ⟨_, _, _, _, _, _, _, ⟨_, _, _, rfl⟩, _⟩ := h; rfl
  | selt o g i j k => obtain ⟨_, _, _, _, _, _, _, ⟨_, rfl⟩, _⟩ := h; rfl
  | any => exact absurd rfl hc
theorem noAny_mem : ∀ {vs : List V}, noAny vs = true → ∀ (j : Nat) x, vs[j]? = some x → x ≠ .any
  | [], _, j, x, h => by simp at h
  | v :: vs, hn, j, x, h => by
    cases j with
    | zero => simp at h; subst h; intro e; subst e; cases hn
    | succ j => exact noAny_mem (vs := vs) (by cases v <;> first | exact hn | cases hn) j x (by simpa using h)

/-- A store into a variable. -/
theorem op_storeBox {t n off : Nat} {x y : Operand} {ti : TI} {cs vs : List V} {av : A} (ho : o.op = .store t x y) (hT : TabOk P tab) (R : Rel E ok hd tm ob a.tmps w) (hx : ev tm x = some (.one (.ptr n off))) (hy : ev tm y = some av)
    (hti : tab t = some ti) (hob : ob n = some (.box cs false)) (hvs : av.cells = some vs) (hl : vs.length = ti.size) (hle : off + ti.size ≤ cs.length) (hna : noAny vs = true)
    (hk : K (.one .any) [(n, .box (setAt cs off vs) false)]) : Goes P E tm ob a.tmps K o a w := by
  obtain ⟨cs', fz', b, h1, h2, h3⟩ := (ev_rel R hx).one_inv
  rw [hob] at h1; injection h1 with h1; injection h1 with h1 h1'; subst h1; subst h1'
  obtain ⟨b', c, e, fr, g1, g2, g3, g4, g5, g6, g7⟩ := R.obs n _ hob
  rw [h2] at g1; injection g1 with g1; injection g1 with g1; injection g1 with g1; subst g1
  obtain ⟨k1, k2⟩ := (ev_rel R hy).cells hvs
  obtain ⟨i, hi, hsz, _, _⟩ := (hT t ti hti).info
  have hone : ∀ v ∈ (a.eval y).cells.toList, v.oneCell' = true := by
    intro v hv
    obtain ⟨j, hj⟩ := List.getElem?_of_mem hv
    have hj' : (a.eval y).cells[j]? = some v := by simpa using hj
    have hlt : j < vs.length := by
      rw [← k1]
      by_cases q : j < (a.eval y).cells.size
      · exact q
      · rw [Array.getElem?_eq_none (by omega)] at hj'; cases hj'
    exact (k2 j v _ hj' (List.getElem?_eq_getElem hlt)).oneCell (noAny_mem hna j _ (List.getElem?_eq_getElem hlt))
  have hrun : (storeVar t ⟨b, off, none⟩ (a.eval y)).run P w = .ok () (w.setCells b off (a.eval y).cells.toList) := by
    have := run_storeCells_cells (P := P) b off (a.eval y).cells.toList 0 w (fun j hj => by
        rw [cell_of g4]; simp at hj; simp; omega) (fun j hj => by
        have := g5.at (off + 0 + j) (by simp at hj; omega)
        simp only [World.frozen?, g4]
        simp only [Bool.and_eq_false_iff, decide_eq_false_iff_not]
        omega) hone
    simp only [Nat.add_zero] at this
    simp [storeVar, sizeOf, typeInfo, hi, hsz, k1, hl, this]
  obtain ⟨c', m1, m2, m3, m4⟩ := setCells_block (a.eval y).cells.toList (o := off) g4 (by simp; omega)
  refine goes_skip (w' := w.setCells b off (a.eval y).cells.toList) (ok' := ok) (hd' := setF hd n (hd n)) (by simp [execOp, ho, h3, Instr.storeAt, Instr.sureAddr, hrun]) hk ?_
  rw [updO_one]
  have le : Le hd ob (setF hd n (hd n)) (setF ob n (some (.box (setAt cs off vs) false))) := by
    have hsame : setF hd n (hd n) = hd := by funext m; unfold setF; split <;> simp_all
    rw [hsame]
    refine ⟨fun m cs2 fz2 hm => ?_, fun m sz es cur tags fz2 hm => ?_⟩
    · by_cases q : m = n
      · subst q; exact ⟨_, _, setF_same _ _ _, rfl⟩
      · exact ⟨_, _, by rw [setF_ne _ _ _ _ q]; exact hm, rfl⟩
    · have q : m ≠ n := fun q => by subst q; rw [hob] at hm; cases hm
      exact ⟨_, _, _, _, by rw [setF_ne _ _ _ _ q]; exact hm, fun _ h => h, .inl ⟨rfl, rfl, rfl⟩⟩
  have hown : (hd n).own = [b] := by simpa using g2
  refine R.turn hob (by rw [hown]; exact m4) (fun b2 hb2 => ⟨.inl hb2, Nat.lt_of_lt_of_le (R.own n b2 (by rw [hob]; simp) hb2).2 m4.size⟩) le ?_
  have hokb : ∀ k, ok k → (w.setCells b off (a.eval y).cells.toList).heap[k]? = w.heap[k]? := fun k hk => m4.block k (R.okLt k hk) fun q => by
    have : k = b := by simpa using q
    subst this
    exact (R.own n k (by rw [hob]; simp) (by rw [hown]; simp)).1 hk
  refine ⟨b, c', e, fr, h2, by simpa using hown, by simp, m1, by rw [m2]; exact g5, by rw [m2, g6, length_setAt], fun j v x hj hx => ?_⟩
  rw [m3 j] at hj
  rw [getElem?_setAt _ _ _ _ (by omega)] at hx
  simp only [Array.length_toList, k1] at hj
  by_cases q : off ≤ j ∧ j < off + vs.length
  · rw [if_pos q] at hj hx
    exact (k2 (j - off) v x (by simpa using hj) hx).mono (fun _ h => h) hokb le
  · rw [if_neg q] at hj hx
    exact (g7 j v x hj hx).mono (fun _ h => h) hokb le

theorem modify_get {es : List (List T)} {i k : Nat} {f : List T → List T} : (es.modify i f)[k]? = if i = k then es[k]?.map f else es[k]? := by
  rw [List.getElem?_modify]
  split <;> rename_i h
  · subst h; cases es[i]? <;> simp
  · cases es[k]? <;> simp

theorem le_row {n sz : Nat} {es es' : List (List T)} {cur : Nat} {tags : List Nat} {fz fz' : Bool} (hob : ob n = some (.row sz es cur tags fz)) {h : Hd} (hh : h.v = (hd n).v) (hs : h.sub = (hd n).sub) :
    Le hd ob (setF hd n h) (setF ob n (some (.row sz es' cur tags fz'))) where
  box m cs2 fz2 hm := by
    have q : m ≠ n := fun q => by subst q; rw [hob] at hm; cases hm
    exact ⟨_, _, by rw [setF_ne _ _ _ _ q]; exact hm, by rw [setF_ne _ _ _ _ q]⟩
  row m sz2 es2 cur2 tags2 fz2 hm := by
    by_cases q : m = n
    · subst q
      rw [hob] at hm; injection hm with hm; injection hm with q1 q2 q3 q4 q5; subst q1; subst q3; subst q4
      exact ⟨_, _, _, _, setF_same _ _ _, fun _ h => h, .inl ⟨rfl, by rw [setF_same, hh], by rw [setF_same, hs]⟩⟩
    · exact ⟨_, _, _, _, by rw [setF_ne _ _ _ _ q]; exact hm, fun _ h => h, .inl ⟨rfl, by rw [setF_ne _ _ _ _ q], by rw [setF_ne _ _ _ _ q]⟩⟩

/-- A store into an element of an own row. -/
theorem op_storeElt {t n g j sz : Nat} {i : Int} {x y : Operand} {ti : TI} {vs : List V} {l : List T} {es : List (List T)} {cur : Nat} {tags : List Nat} {av : A} (ho : o.op = .store t x y) (hT : TabOk P tab) (R : Rel E ok hd tm ob a.tmps w)
    (hx : ev tm x = some (.one (.elt n g i j))) (hy : ev tm y = some av) (hti : tab t = some ti) (hob : ob n = some (.row sz es cur tags false)) (hvs : av.cells = some vs) (hts : treesC vs = some l)
    (hg : g = cur) (hl : l.length = ti.size) (hle : j + ti.size ≤ wd sz) (hcl : cls sz false = .s) (hin : std.inb i es) (hk : K (.one .any) [(n, .row sz (std.setc es i j l) cur tags false)]) : Goes P E tm ob a.tmps K o a w := by
  obtain ⟨h0, h1⟩ := index_inv hin
  obtain ⟨sz', es', cur', tags', fz', p1, p2, _, p3⟩ := (ev_rel R hx).one_inv
  rw [hob] at p1; injection p1 with p1; injection p1 with q1 q2 q3 q4 q5; subst q1; subst q2; subst q3; subst q4; subst q5
  obtain ⟨_, b, len, cap, p4, p5⟩ := p3 hg
  obtain ⟨hcur, hz, hR⟩ := R.obs n _ hob
  rw [hcl] at hR
  rcases hR with ⟨he, _⟩ | ⟨b', c, e, fr, cap', g1, g2, g3, g4, g5, g6, g7, g7', g8, g9⟩
  · subst he; simp at h1; omega
  rw [p4] at g1; injection g1 with g1 g1' g1''; injection g1 with g1; injection g1 with g1; subst g1; subst g1'; subst g1''
  obtain ⟨k1, k2⟩ := (ev_rel R hy).cells hvs
  have k1' : (a.eval y).cells.toList.length = vs.length := by simpa using k1
  obtain ⟨l1, l2⟩ := treesC_rel hts k1' (fun i c x p q => k2 i c x (by simpa using p) q)
  obtain ⟨ii, hi, hsz, _, _⟩ := (hT t ti hti).info
  have hone : ∀ v ∈ (a.eval y).cells.toList, v.oneCell' = true := by
    intro v hv
    obtain ⟨jj, hj⟩ := List.getElem?_of_mem hv
    have hlt : jj < l.length := by
      rw [← l1]
      by_cases q : jj < (a.eval y).cells.toList.length
      · exact q
      · rw [List.getElem?_eq_none (by omega)] at hj; cases hj
    exact (l2 jj v _ hj (List.getElem?_eq_getElem hlt)).oneCell
  have hmul : (i.toNat + 1) * wd sz ≤ cap * wd sz := Nat.mul_le_mul_right _ (by omega)
  rw [Nat.succ_mul] at hmul
  have hrun : (storeVar t ⟨b, i.toNat * wd sz + j, none⟩ (a.eval y)).run P w = .ok () (w.setCells b (i.toNat * wd sz + j) (a.eval y).cells.toList) := by
    have := run_storeCells_cells (P := P) b (i.toNat * wd sz + j) (a.eval y).cells.toList 0 w (fun jj hj => by
        rw [cell_of g4]; simp at hj; simp; omega) (fun jj hj => by
        have := g5.at (i.toNat * wd sz + j + 0 + jj) (by simp at hj; omega)
        simp only [World.frozen?, g4]
        simp only [Bool.and_eq_false_iff, decide_eq_false_iff_not]
        omega) hone
    simp only [Nat.add_zero] at this
    have e1 : (a.eval y).cells.size = ti.size := by rw [k1, ← k1', l1, hl]
    simp [storeVar, sizeOf, typeInfo, hi, hsz, e1, this]
  obtain ⟨c', m1, m2, m3, m4⟩ := setCells_block (a.eval y).cells.toList (o := i.toNat * wd sz + j) g4 (by omega)
  refine goes_skip (w' := w.setCells b (i.toNat * wd sz + j) (a.eval y).cells.toList) (ok' := ok) (hd' := setF hd n (hd n)) (by simp [execOp, ho, p5, Instr.storeAt, Instr.sureAddr, hrun]) hk ?_
  rw [updO_one]
  have hown : (hd n).own = [b] := by simpa using g2
  refine R.turn hob (by rw [hown]; exact m4) (fun b2 hb2 => ⟨.inl hb2, Nat.lt_of_lt_of_le (R.own n b2 (by rw [hob]; simp) hb2).2 m4.size⟩) (le_row hob rfl rfl) ?_
  have hokb : ∀ k, ok k → (w.setCells b (i.toNat * wd sz + j) (a.eval y).cells.toList).heap[k]? = w.heap[k]? := fun k hk => m4.block k (R.okLt k hk) fun q => by
    have : k = b := by simpa using q
    subst this
    exact (R.own n k (by rw [hob]; simp) (by rw [hown]; simp)).1 hk
  have hlen : (std.setc es i j l).length = es.length := by simp [std]
  have hmem : ∀ k (x : List T), (std.setc es i j l)[k]? = some x → ∃ x0, es[k]? = some x0 ∧ x.length = x0.length ∧ (if i.toNat = k then x = setAt x0 j l else x = x0) := by
    intro k x hx
    have hx : (es.modify i.toNat fun e => setAt e j l)[k]? = some x := hx
    rw [modify_get] at hx
    by_cases q : i.toNat = k
    · rw [if_pos q] at hx
      cases hq : es[k]? with
      | none => rw [hq] at hx; cases hx
      | some x0 => rw [hq] at hx; injection hx with hx; subst hx; exact ⟨x0, rfl, length_setAt _ _ _, by rw [if_pos q]⟩
    · rw [if_neg q] at hx; exact ⟨x, hx, rfl, by rw [if_neg q]⟩
  refine ⟨hcur, hz, ?_⟩
  rw [hcl]
  refine .inr ⟨b, c', e, fr, cap, by rw [hlen]; exact p4, by simpa using hown, by simp, m1, by rw [m2]; exact g5, by rw [m2]; exact g6, by rw [hlen]; exact g7, by rw [hlen]; exact g7', ?_, ?_⟩
  · intro x hx
    obtain ⟨k, hk⟩ := List.getElem?_of_mem hx
    obtain ⟨x0, h2, h3, _⟩ := hmem k x hk
    rw [h3]; exact g8 x0 (List.mem_of_getElem? h2)
  · intro i' j' x t' hx ht'
    obtain ⟨x0, h2, h3, h4⟩ := hmem i' x hx
    have hx0 : x0.length = wd sz := g8 x0 (List.mem_of_getElem? h2)
    have hj' : j' < wd sz := by
      by_cases q : j' < wd sz
      · exact q
      · rw [List.getElem?_eq_none (by omega)] at ht'; cases ht'
    rw [m3]
    by_cases q : i.toNat = i'
    · rw [if_pos q] at h4
      subst h4; subst q
      rw [getElem?_setAt _ _ _ _ (by omega)] at ht'
      by_cases q2 : j ≤ j' ∧ j' < j + l.length
      · rw [if_pos q2] at ht'
        rw [if_pos (by omega), show i.toNat * wd sz + j' - (i.toNat * wd sz + j) = j' - j by omega]
        have hlt : j' - j < (a.eval y).cells.toList.length := by omega
        exact ⟨_, List.getElem?_eq_getElem hlt, (l2 (j' - j) _ t' (List.getElem?_eq_getElem hlt) ht').mono (fun _ h => h) hokb⟩
      · rw [if_neg q2] at ht'
        rw [if_neg (by omega)]
        obtain ⟨v, hv, hr⟩ := g9 i.toNat j' x0 t' h2 ht'
        exact ⟨v, hv, hr.mono (fun _ h => h) hokb⟩
    · rw [if_neg q] at h4
      subst h4
      have hne : ¬ (i.toNat * wd sz + j ≤ i' * wd sz + j' ∧ i' * wd sz + j' < i.toNat * wd sz + j + (a.eval y).cells.toList.length) := by
        rcases Nat.lt_or_ge i' i.toNat with q2 | q2
        · have : (i' + 1) * wd sz ≤ i.toNat * wd sz := Nat.mul_le_mul_right _ q2
          rw [Nat.succ_mul] at this; omega
        · have : (i.toNat + 1) * wd sz ≤ i' * wd sz := Nat.mul_le_mul_right _ (by omega)
          rw [Nat.succ_mul] at this; omega
      rw [if_neg hne]
      obtain ⟨v, hv, hr⟩ := g9 i' j' x t' h2 ht'
      exact ⟨v, hv, hr.mono (fun _ h => h) hokb⟩


theorem flatTs_mem : ∀ {l : List T}, flatTs l = true → ∀ (j : Nat) t, l[j]? = some t → flatT t = true
  | [], _, j, t, h => by simp at h
  | x :: l, hf, j, t, h => by
    simp only [flatTs, Bool.and_eq_true] at hf
    cases j with
    | zero => simp at h; subst h; exact hf.1
    | succ j => exact flatTs_mem hf.2 j t (by simpa using h)
theorem Rep.dp {S : Nat → Prop} {v : Value} {t : T} (h : Rep w ok v t) (hf : flatT t = true) : Dp w S v t := by
  cases h with
  | bool b => exact .bool _ b
  | int k n h => exact .int _ k n h
  | str s h => exact .str _ s h
  | snil => cases hf
  | szero => cases hf
  | sl => cases hf
  | pt => cases hf
  | fn => cases hf
theorem setc_get {es : List (List T)} {i : Int} {j k : Nat} {l x : List T} (h : (std.setc es i j l)[k]? = some x) : ∃ x0, es[k]? = some x0 ∧ x.length = x0.length ∧ (if i.toNat = k then x = setAt x0 j l else x = x0) := by
  have hx : (es.modify i.toNat fun e => setAt e j l)[k]? = some x := h
  rw [modify_get] at hx
  by_cases q : i.toNat = k
  · rw [if_pos q] at hx
    cases hq : es[k]? with
    | none => rw [hq] at hx; cases hx
    | some x0 => rw [hq] at hx; injection hx with hx; subst hx; exact ⟨x0, rfl, length_setAt _ _ _, by rw [if_pos q]⟩
  · rw [if_neg q] at hx; exact ⟨x, hx, rfl, by rw [if_neg q]⟩

/-- Cells of a row's element turned: what the block holds behind it. -/
theorem Deep.store {h : Hd} {sz : Nat} {es : List (List T)} {b cap : Nat} {c c' : Array Value} {e : TypeId} {fr : Nat × Nat} {vs : Nat → Nat → Value} {subs subs' : Nat → Nat → Nat → Prop} {w' : World} {h' : Hd}
    (d : Deep w h sz es b cap c e fr vs subs) {i : Int} {j : Nat} {l : List T} {nv : List Value} (hl : nv.length = l.length) (hle : j + l.length ≤ sz)
    (hv : h'.v = h.v) (hO : ∀ k, k ∈ h.own → k ∈ h'.own) (hb : w'.heap[b]? = some (.cells c' e fr)) (hcs : c'.size = c.size)
    (hc : ∀ k, c'[k]? = if i.toNat * sz + j ≤ k ∧ k < i.toNat * sz + j + nv.length then nv[k - (i.toNat * sz + j)]? else c[k]?)
    (hw : ∀ k, k ∈ h.own → k ≠ b → w'.heap[k]? = w.heap[k]?)
    (hold : ∀ i' j', (i' = i.toNat ∧ j ≤ j' ∧ j' < j + l.length) ∨ subs' i' j' = subs i' j')
    (hnew : ∀ (k : Nat) v t, nv[k]? = some v → l[k]? = some t → Dp w' (subs' i.toNat (j + k)) v t)
    (hsub : ∀ i j k, subs' i j k → k ∈ h'.own ∧ k ≠ b) (hdis : ∀ i j i' j' k, subs' i j k → subs' i' j' k → i = i' ∧ j = j') :
    Deep w' h' sz (std.setc es i j l) b cap c' e fr (fun i' j' => if i' = i.toNat ∧ j ≤ j' ∧ j' < j + l.length then nv.getD (j' - j) undef else vs i' j') subs' := by
  have hlen : (std.setc es i j l).length = es.length := by simp [std]
  refine ⟨by rw [hlen, hv]; exact d.v, hO _ d.own, hb, by rw [hcs]; exact d.free, by rw [hlen]; exact d.cap, by rw [hlen]; exact d.max, fun x hx => ?_, fun i' j' x t hx ht => ?_, fun i' j' x t hx ht => ?_, hsub, hdis⟩
  · obtain ⟨k, hk⟩ := List.getElem?_of_mem hx
    obtain ⟨x0, h2, h3, _⟩ := setc_get hk
    rw [h3]; exact d.wid x0 (List.mem_of_getElem? h2)
  · obtain ⟨x0, h2, h3, h4⟩ := setc_get hx
    have hx0 : x0.length = sz := d.wid x0 (List.mem_of_getElem? h2)
    have hj' : j' < sz := by
      by_cases q : j' < sz
      · exact q
      · rw [List.getElem?_eq_none (by omega)] at ht; cases ht
    rw [hc]
    by_cases q : i' = i.toNat ∧ j ≤ j' ∧ j' < j + l.length
    · rw [if_pos q, if_pos (by obtain ⟨rfl, q2, q3⟩ := q; omega)]
      obtain ⟨rfl, q2, q3⟩ := q
      rw [show i.toNat * sz + j' - (i.toNat * sz + j) = j' - j by omega]
      have : j' - j < nv.length := by omega
      simp [List.getD_eq_getElem?_getD, List.getElem?_eq_getElem this]
    · rw [if_neg q]
      have hne : ¬ (i.toNat * sz + j ≤ i' * sz + j' ∧ i' * sz + j' < i.toNat * sz + j + nv.length) := by
        intro r
        by_cases e1 : i' = i.toNat
        · subst e1; exact q ⟨rfl, by omega, by omega⟩
        · rcases Nat.lt_or_gt_of_ne e1 with g | g
          · have := Nat.mul_le_mul_right sz (show i' + 1 ≤ i.toNat from g); rw [Nat.succ_mul] at this; omega
          · have := Nat.mul_le_mul_right sz (show i.toNat + 1 ≤ i' from g); rw [Nat.succ_mul] at this; omega
      rw [if_neg hne]
      by_cases e1 : i.toNat = i'
      · rw [if_pos e1] at h4
        subst h4
        rw [getElem?_setAt _ _ _ _ (by omega), if_neg (by intro r; exact q ⟨e1.symm, r.1, r.2⟩)] at ht
        exact d.cell i' j' x0 t h2 ht
      · rw [if_neg e1] at h4; subst h4; exact d.cell i' j' x t h2 ht
  · obtain ⟨x0, h2, h3, h4⟩ := setc_get hx
    have hx0 : x0.length = sz := d.wid x0 (List.mem_of_getElem? h2)
    by_cases q : i' = i.toNat ∧ j ≤ j' ∧ j' < j + l.length
    · simp only [if_pos q]
      obtain ⟨rfl, q2, q3⟩ := q
      rw [if_pos rfl] at h4
      subst h4
      rw [getElem?_setAt _ _ _ _ (by omega), if_pos ⟨q2, q3⟩] at ht
      have := hnew (j' - j) (nv.getD (j' - j) undef) t (by simp [List.getD_eq_getElem?_getD, List.getElem?_eq_getElem (show j' - j < nv.length by omega)]) ht
      rwa [show j + (j' - j) = j' by omega] at this
    · simp only [if_neg q]
      have e1 := (hold i' j').resolve_left q
      rw [e1]
      have hx' : x0[j']? = some t := by
        by_cases e1 : i.toNat = i'
        · rw [if_pos e1] at h4
          subst h4
          rwa [getElem?_setAt _ _ _ _ (by omega), if_neg (by intro r; exact q ⟨e1.symm, r.1, r.2⟩)] at ht
        · rw [if_neg e1] at h4; subst h4; exact ht
      exact (d.dp i' j' x0 t h2 hx').mono (fun _ h => h) fun k hk => hw k (d.sub i' j' k hk).1 (d.sub i' j' k hk).2

/-- The run of a store into an element. -/
theorem Deep.runStore {h : Hd} {sz : Nat} {es : List (List T)} {b cap : Nat} {c : Array Value} {e : TypeId} {fr : Nat × Nat} {vs : Nat → Nat → Value} {subs : Nat → Nat → Nat → Prop}
    (d : Deep w h sz es b cap c e fr vs subs) {t : Nat} {ti : TI} (hT : TabOk P tab) (hti : tab t = some ti) {i j : Nat} (hi : i < es.length) (hle : j + ti.size ≤ sz) {y : Value} (hy : y.cells.size = ti.size) (hone : ∀ v ∈ y.cells.toList, v.oneCell' = true) :
    (storeVar t ⟨b, i * sz + j, none⟩ y).run P w = .ok () (w.setCells b (i * sz + j) y.cells.toList) ∧ ∃ c', (w.setCells b (i * sz + j) y.cells.toList).heap[b]? = some (.cells c' e fr) ∧ c'.size = c.size ∧
      (∀ k, c'[k]? = if i * sz + j ≤ k ∧ k < i * sz + j + y.cells.toList.length then y.cells.toList[k - (i * sz + j)]? else c[k]?) ∧ Fr [b] w (w.setCells b (i * sz + j) y.cells.toList) := by
  obtain ⟨ii, hii, hsz, _, _⟩ := (hT t ti hti).info
  have hx : es[i]? = some es[i] := List.getElem?_eq_getElem hi
  have hxl : es[i].length = sz := d.wid _ (List.getElem_mem hi)
  have hsize : i * sz + j + ti.size ≤ c.size := by
    by_cases q : ti.size = 0
    · by_cases q2 : i * sz + j ≤ c.size
      · omega
      · by_cases q3 : sz = 0
        · subst q3; omega
        · have := d.cell i (sz - 1) _ _ hx (List.getElem?_eq_getElem (by omega))
          have := (Array.getElem?_eq_some_iff.1 this).1
          omega
    · have := d.cell i (j + ti.size - 1) _ _ hx (List.getElem?_eq_getElem (by omega))
      have := (Array.getElem?_eq_some_iff.1 this).1
      omega
  have hrun : (storeVar t ⟨b, i * sz + j, none⟩ y).run P w = .ok () (w.setCells b (i * sz + j) y.cells.toList) := by
    have := run_storeCells_cells (P := P) b (i * sz + j) y.cells.toList 0 w (fun jj hj => by
        rw [cell_of d.blk]; simp at hj; simp; omega) (fun jj hj => by
        have := d.free.at (i * sz + j + 0 + jj) (by simp at hj; omega)
        simp only [World.frozen?, d.blk]
        simp only [Bool.and_eq_false_iff, decide_eq_false_iff_not]
        omega) hone
    simp only [Nat.add_zero] at this
    simp [storeVar, sizeOf, typeInfo, hii, hsz, hy, this]
  obtain ⟨c', m1, m2, m3, m4⟩ := setCells_block y.cells.toList (o := i * sz + j) d.blk (by simp; omega)
  exact ⟨hrun, c', m1, m2, m3, m4⟩

/-- A store of numbers into an element of a row that owns what it leads to. -/
theorem op_storeP {t n g j sz : Nat} {i : Int} {x y : Operand} {ti : TI} {vs : List V} {l : List T} {es : List (List T)} {cur : Nat} {tags : List Nat} {av : A} (ho : o.op = .store t x y) (hT : TabOk P tab) (R : Rel E ok hd tm ob a.tmps w)
    (hx : ev tm x = some (.one (.elt n g i j))) (hy : ev tm y = some av) (hti : tab t = some ti) (hob : ob n = some (.row sz es cur tags false)) (hvs : av.cells = some vs) (hts : treesC vs = some l)
    (hg : g = cur) (hl : l.length = ti.size) (hle : j + ti.size ≤ wd sz) (hcl : cls sz false = .p) (hfl : flatTs l = true) (hin : std.inb i es) (hk : K (.one .any) [(n, .row sz (std.setc es i j l) cur tags false)]) : Goes P E tm ob a.tmps K o a w := by
  obtain ⟨h0, h1⟩ := index_inv hin
  obtain ⟨sz', es', cur', tags', fz', p1, p2, _, p3⟩ := (ev_rel R hx).one_inv
  rw [hob] at p1; injection p1 with p1; injection p1 with q1 q2 q3 q4 q5; subst q1; subst q2; subst q3; subst q4; subst q5
  obtain ⟨_, b, len, cap, p4, p5⟩ := p3 hg
  obtain ⟨hcur, hz, hR⟩ := R.obs n _ hob
  rw [hcl] at hR
  rcases hR with ⟨he, _⟩ | ⟨b', cap', c, e, fr, vv, subs, d, hs⟩
  · subst he; simp at h1; omega
  have g1 := d.v
  rw [p4] at g1; injection g1 with g1 g1' g1''; injection g1 with g1; injection g1 with g1; subst g1
  obtain ⟨k1, k2⟩ := (ev_rel R hy).cells hvs
  have k1' : (a.eval y).cells.toList.length = vs.length := by simpa using k1
  obtain ⟨l1, l2⟩ := treesC_rel hts k1' (fun i c x p q => k2 i c x (by simpa using p) q)
  have hone : ∀ v ∈ (a.eval y).cells.toList, v.oneCell' = true := by
    intro v hv
    obtain ⟨jj, hj⟩ := List.getElem?_of_mem hv
    have hlt : jj < l.length := by
      rw [← l1]
      by_cases q : jj < (a.eval y).cells.toList.length
      · exact q
      · rw [List.getElem?_eq_none (by omega)] at hj; cases hj
    exact (l2 jj v _ hj (List.getElem?_eq_getElem hlt)).oneCell
  have e1 : (a.eval y).cells.size = ti.size := by rw [k1, ← k1', l1, hl]
  obtain ⟨hrun, c', m1, m2, m3, m4⟩ := d.runStore (P := P) (t := t) hT hti (i := i.toNat) (j := j) (by omega) hle e1 hone
  refine goes_skip (w' := w.setCells b (i.toNat * wd sz + j) (a.eval y).cells.toList) (ok' := ok) (hd' := setF hd n (hd n)) (by simp [execOp, ho, p5, Instr.storeAt, Instr.sureAddr, hrun]) hk ?_
  rw [updO_one]
  have hne : ob n ≠ none := by rw [hob]; simp
  have hbn : ∀ b2, b2 ∉ (hd n).own → b2 ∉ [b] := fun b2 h q => h (by simp at q; subst q; exact d.own)
  refine R.turn hob ⟨m4.os, m4.tape, m4.output, m4.size, fun b2 h1 h2 => m4.block b2 h1 (hbn b2 h2)⟩ (fun b2 hb2 => ⟨.inl hb2, Nat.lt_of_lt_of_le (R.own n b2 hne hb2).2 m4.size⟩) (le_row hob rfl rfl) ?_
  refine ⟨hcur, hz, ?_⟩
  rw [hcl]
  have d' := d.store (h' := hd n) (subs' := subs) (i := i) (j := j) (l := l) l1 (by omega) rfl (fun _ h => h) m1 m2 m3 (fun k hk hkb => m4.block k (R.own n k hne hk).2 (by simpa using hkb)) (fun _ _ => .inr rfl)
    (fun k v t hv ht => (l2 k v t hv ht).dp (flatTs_mem hfl k t ht) |>.mono (fun _ h => h) fun q hq => m4.block q (R.own n q hne (d.sub _ _ _ hq).1).2 (by simpa using (d.sub _ _ _ hq).2)) d.sub d.dis
  refine .inr ⟨b, cap', c', e, fr, _, subs, d', fun i' j' x l' hx' hl' => ?_⟩
  obtain ⟨x0, h2, h3, h4⟩ := setc_get hx'
  have hx0 : x0.length = wd sz := d.wid x0 (List.mem_of_getElem? h2)
  by_cases q : i' = i.toNat ∧ j ≤ j' ∧ j' < j + l.length
  · obtain ⟨rfl, q2, q3⟩ := q
    rw [if_pos rfl] at h4
    subst h4
    rw [getElem?_setAt _ _ _ _ (by omega), if_pos ⟨q2, q3⟩] at hl'
    have := flatTs_mem hfl _ _ hl'
    cases this
  · simp only [if_neg q]
    have hx'' : x0[j']? = some (.sl l') := by
      by_cases e1 : i.toNat = i'
      · rw [if_pos e1] at h4
        subst h4
        rwa [getElem?_setAt _ _ _ _ (by omega), if_neg (by intro r; exact q ⟨e1.symm, r.1, r.2⟩)] at hl'
      · rw [if_neg e1] at h4; subst h4; exact hl'
    exact hs i' j' x0 l' h2 hx''


/-- An element of one cell, turned. -/
theorem Dp.set1 {S : Nat → Prop} {b len cap : Nat} {l : List (List T)} {k : Nat} {x y : T} {v : Value} (h : Dp w S (.slice (some ⟨b, 0, none⟩) len cap) (.sl l)) (hk : l[k]? = some [x]) (hv : ∀ S', Dp (w.setCell ⟨b, k, none⟩ v) S' v y) :
    S b ∧ (∃ c e fr, w.heap[b]? = some (.cells c e fr) ∧ k < c.size ∧ Free c.size fr) ∧ Dp (w.setCell ⟨b, k, none⟩ v) S (.slice (some ⟨b, 0, none⟩) len cap) (.sl (l.modify k fun _ => [y])) := by
  generalize hq : Value.slice (some ⟨b, 0, none⟩) len cap = q at h
  cases h with
  | snil => cases hq
  | szero => simp at hk
  | sl _ b' cap' sz es c e fr vs subs hm hcap hsz hS hb hf hc hr hsub hdis =>
    injection hq with hq hq1 hq2; injection hq with hq; injection hq with hq; subst hq; subst hq1; subst hq2
    have h1 := hsz _ (List.mem_of_getElem? hk)
    have h1 : sz = 1 := by simpa using h1.symm
    subst h1
    have hlt := (Array.getElem?_eq_some_iff.1 (hc k 0 _ x hk rfl)).1
    have hlt : k < c.size := by omega
    have hblk := setCell_block (i := k) (v := v) hb
    refine ⟨hS, ⟨c, e, fr, hb, hlt, hf⟩, ?_⟩
    have hlen : (l.modify k fun _ => [y]).length = l.length := by simp
    rw [← hlen]
    have get : ∀ i (z : List T), (l.modify k fun _ => [y])[i]? = some z → (i = k ∧ z = [y]) ∨ (i ≠ k ∧ l[i]? = some z) := by
      intro i z hz
      rw [modify_get] at hz
      by_cases e : k = i
      · subst e
        rw [if_pos rfl, hk] at hz
        injection hz with hz
        exact .inl ⟨rfl, hz.symm⟩
      · rw [if_neg e] at hz
        exact .inr ⟨fun q => e q.symm, hz⟩
    refine .sl S b cap 1 _ (c.setIfInBounds k v) e fr (fun i j => if i = k then v else vs i j) subs (by omega) (by omega) (fun z hz => ?_) hS hblk (by simpa using hf) (fun i j z t hz ht => ?_) (fun i j z t hz ht => ?_) hsub hdis
    · obtain ⟨i, hi⟩ := List.getElem?_of_mem hz
      rcases get i z hi with ⟨_, rfl⟩ | ⟨_, h2⟩
      · rfl
      · exact hsz z (List.mem_of_getElem? h2)
    · rcases get i z hz with ⟨rfl, rfl⟩ | ⟨h1, h2⟩
      · have hj : j = 0 := by
          cases j with
          | zero => rfl
          | succ j => simp at ht
        subst hj
        simp [hlt]
      · have hj : j = 0 := by
          have := hsz z (List.mem_of_getElem? h2)
          have := (List.getElem?_eq_some_iff.1 ht).1
          omega
        subst hj
        have := hc i 0 z t h2 ht
        rw [if_neg h1, Array.getElem?_setIfInBounds_ne (by omega)]
        exact this
    · rcases get i z hz with ⟨rfl, rfl⟩ | ⟨h1, h2⟩
      · have hj : j = 0 := by
          cases j with
          | zero => rfl
          | succ j => simp at ht
        subst hj
        simp at ht; subst ht
        simp only [if_pos]
        exact hv _
      · simp only [if_neg h1]
        exact (hr i j z t h2 ht).mono (fun _ h => h) fun q hq => setCell_other (hsub i j q hq).2
theorem setAt_one {l : List T} {j : Nat} {x y : T} (h : l[j]? = some x) : setAt l j [y] = l.set j y := by
  induction l generalizing j with
  | nil => simp at h
  | cons z l ih =>
    cases j with
    | zero => simp [setAt]
    | succ j => simp only [setAt, List.set_cons_succ]; rw [ih (by simpa using h)]

/-- A store into an element of a slice in a row that owns it. -/
theorem op_storeSelt {t n g j sz : Nat} {i k : Int} {kk kk' : IntKind} {m m' : Int} {x y : Operand} {ti : TI} {l e0 : List (List T)} {es : List (List T)} {cur : Nat} {tags : List Nat} (ho : o.op = .store t x y) (hT : TabOk P tab) (R : Rel E ok hd tm ob a.tmps w)
    (hx : ev tm x = some (.one (.selt n g i j k))) (hy : ev tm y = some (.one (.t (.int kk m)))) (hti : tab t = some ti) (hob : ob n = some (.row sz es cur tags false)) (hsz1 : ti.size = 1)
    (hg : g = cur) (hcl : cls sz false = .p) (hin : std.inb i es) (hl : (std.get es i)[j]? = some (.sl l)) (hink : std.inb k l) (hlk : std.get l k = [.int kk' m'])
    (hk : K (.one .any) [(n, .row sz (std.setc es i j [.sl (std.setc l k 0 [.int kk m])]) cur tags false)]) : Goes P E tm ob a.tmps K o a w := by
  obtain ⟨h0, h1⟩ := index_inv hin
  obtain ⟨k0, k1⟩ := index_inv hink
  obtain ⟨sz', es', cur', tags', fz', p1, p2, _, p3⟩ := (ev_rel R hx).one_inv
  rw [hob] at p1; injection p1 with p1; injection p1 with q1 q2 q3 q4 q5; subst q1; subst q2; subst q3; subst q4; subst q5
  obtain ⟨_, b2, len, cap2, p4, p5⟩ := p3 hg
  obtain ⟨hcur, hz, hR⟩ := R.obs n _ hob
  rw [hcl] at hR
  rcases hR with ⟨he, _⟩ | ⟨b, cap, c, e, fr, vs, subs, d, hs⟩
  · subst he; simp at h1; omega
  have hne : ob n ≠ none := by rw [hob]; simp
  have hi : i.toNat < es.length := by omega
  have hgt : es[i.toNat]? = some (std.get es i) := by simp [std, List.getD, hi]
  have hglen : (std.get es i).length = wd sz := d.wid _ (List.mem_of_getElem? hgt)
  have hjl := (List.getElem?_eq_some_iff.1 hl).1
  have hkl : l[k.toNat]? = some [.int kk' m'] := by rw [← hlk]; simp [std, List.getD, show k.toNat < l.length by omega]
  obtain ⟨hyv, hyk⟩ := ev_int R hy
  have hd' := d.dp i.toNat j _ _ hgt hl
  rw [hs i.toNat j _ l hgt hl, p4] at hd'
  obtain ⟨s1, ⟨c2, e2, fr2, s2, s3, s4⟩, s5⟩ := hd'.set1 (v := .int kk m) (y := .int kk m) hkl (fun S' => .int S' kk m hyk)
  obtain ⟨ii, hii, hsz, _, _⟩ := (hT t ti hti).info
  have hrun : (storeVar t ⟨b2, k.toNat, none⟩ (a.eval y)).run P w = .ok () (w.setCell ⟨b2, k.toNat, none⟩ (.int kk m)) := by
    have := run_storeCells_cells (P := P) b2 k.toNat [.int kk m] 0 w (fun jj hj => by
        rw [cell_of s2]; simp at hj; subst hj; simp; omega) (fun jj hj => by
        have := s4.at (k.toNat + 0 + jj) (by simp at hj; omega)
        simp only [World.frozen?, s2]
        simp only [Bool.and_eq_false_iff, decide_eq_false_iff_not]
        omega) (by intro v hv; simp at hv; subst hv; rfl)
    simp only [Nat.add_zero] at this
    rw [hyv]
    simpa [storeVar, sizeOf, typeInfo, hii, hsz, hsz1, Value.cells, World.setCells] using this
  have hfr := setCell_fr w b2 k.toNat (.int kk m)
  refine goes_skip (w' := w.setCell ⟨b2, k.toNat, none⟩ (.int kk m)) (ok' := ok) (hd' := setF hd n (hd n)) (by simp [execOp, ho, p5, Instr.storeAt, Instr.sureAddr, hrun]) hk ?_
  rw [updO_one]
  have hb2 : b2 ∈ (hd n).own ∧ b2 ≠ b := d.sub _ _ _ s1
  refine R.turn hob ⟨hfr.os, hfr.tape, hfr.output, hfr.size, fun q h1 h2 => hfr.block q h1 (fun r => h2 (by simp at r; subst r; exact hb2.1))⟩ (fun q hq => ⟨.inl hq, Nat.lt_of_lt_of_le (R.own n q hne hq).2 hfr.size⟩) (le_row hob rfl rfl) ?_
  refine ⟨hcur, hz, ?_⟩
  rw [hcl]
  have hlen : (std.setc es i j [.sl (std.setc l k 0 [.int kk m])]).length = es.length := by simp [std]
  have hsetl : std.setc l k 0 [.int kk m] = l.modify k.toNat fun _ => [.int kk m] := by
    show l.modify k.toNat (fun e => setAt e 0 [.int kk m]) = _
    apply List.ext_getElem?
    intro q
    rw [modify_get, modify_get]
    by_cases r : k.toNat = q
    · subst r; rw [if_pos rfl, if_pos rfl, hkl]; rfl
    · rw [if_neg r, if_neg r]
  have get : ∀ i' (x : List T) j' t, (std.setc es i j [.sl (std.setc l k 0 [.int kk m])])[i']? = some x → x[j']? = some t → (i' = i.toNat ∧ j' = j ∧ t = .sl (std.setc l k 0 [.int kk m])) ∨ (¬ (i' = i.toNat ∧ j' = j) ∧ ∃ x0, es[i']? = some x0 ∧ x0[j']? = some t) := by
    intro i' x j' t hx ht
    obtain ⟨x0, h2, h3, h4⟩ := setc_get hx
    by_cases r : i.toNat = i'
    · rw [if_pos r] at h4
      subst r
      rw [hgt] at h2; injection h2 with h2; subst h2
      subst h4
      rw [getElem?_setAt _ _ _ _ (by simp; omega)] at ht
      by_cases r2 : j ≤ j' ∧ j' < j + [T.sl (std.setc l k 0 [.int kk m])].length
      · have : j' = j := by simp at r2; omega
        subst this
        rw [if_pos r2] at ht
        simp at ht
        exact .inl ⟨rfl, rfl, ht.symm⟩
      · rw [if_neg r2] at ht
        exact .inr ⟨fun r3 => r2 (by rw [r3.2]; simp), _, hgt, ht⟩
    · rw [if_neg r] at h4; subst h4
      exact .inr ⟨fun r3 => r r3.1.symm, _, h2, ht⟩
  refine .inr ⟨b, cap, c, e, fr, vs, subs, ⟨by rw [hlen]; exact d.v, d.own, by rw [setCell_other (Ne.symm hb2.2)]; exact d.blk, d.free, by rw [hlen]; exact d.cap, by rw [hlen]; exact d.max, fun x hx => ?_, fun i' j' x t hx ht => ?_, fun i' j' x t hx ht => ?_, d.sub, d.dis⟩, fun i' j' x l' hx ht => ?_⟩
  · obtain ⟨q, hq⟩ := List.getElem?_of_mem hx
    obtain ⟨x0, h2, h3, _⟩ := setc_get hq
    rw [h3]; exact d.wid x0 (List.mem_of_getElem? h2)
  · rcases get i' x j' t hx ht with ⟨rfl, rfl, rfl⟩ | ⟨_, x0, h2, h3⟩
    · exact d.cell _ _ _ _ hgt hl
    · exact d.cell _ _ _ _ h2 h3
  · rcases get i' x j' t hx ht with ⟨rfl, rfl, rfl⟩ | ⟨h1, x0, h2, h3⟩
    · rw [hs i.toNat j' _ l hgt hl, p4, hsetl]
      exact s5
    · refine (d.dp _ _ _ _ h2 h3).mono (fun _ h => h) fun q hq => setCell_other fun r => ?_
      subst r
      exact h1 (d.dis _ _ _ _ q hq s1)
  · rcases get i' x j' _ hx ht with ⟨rfl, rfl, h4⟩ | ⟨h1, x0, h2, h3⟩
    · exact hs _ _ _ l hgt hl
    · exact hs _ _ _ _ h2 h3

theorem op_store {t : Nat} {x y : Operand} (ho : o.op = .store t x y) (hT : TabOk P tab) (R : Rel E ok hd tm ob a.tmps w) (h : (sStore std tab t ob (ev tm x) (ev tm y)).holds std cl K) : Goes P E tm ob a.tmps K o a w := by
  unfold sStore at h
  split at h
  · rename_i n off av hx hy
    split at h
    · rename_i ti cs vs hti hob hvs
      obtain ⟨hb, h'⟩ := bif_inv h
      rw [Bool.and_eq_true, Bool.and_eq_true] at hb
      exact op_storeBox ho hT R hx hy hti hob hvs (eq_of_eqB hb.1.1) (le_of_leB hb.1.2) hb.2 h'
    · exact h.elim
  · rename_i n g i j av hx hy
    split at h
    · rename_i ti sz es cur tags vs hti hob hvs
      split at h
      · rename_i l hl
        obtain ⟨hb, h'⟩ := bif_inv h
        rw [Bool.and_eq_true, Bool.and_eq_true] at hb
        split at h'
        · rename_i hcl
          exact op_storeElt ho hT R hx hy hti hob hvs hl (eq_of_eqB hb.1.1) (eq_of_eqB hb.1.2) (le_of_leB hb.2) hcl h'.1 h'.2
        · rename_i hcl
          obtain ⟨hfl, h'⟩ := bif_inv h'
          exact op_storeP ho hT R hx hy hti hob hvs hl (eq_of_eqB hb.1.1) (eq_of_eqB hb.1.2) (le_of_leB hb.2) hcl hfl h'.1 h'.2
        · exact h'.elim
      · exact h.elim
    · exact h.elim
  · rename_i n g i j k kk m hx hy
    split at h
    rotate_left
    · exact h.elim
    rename_i ti sz es cur tags hti hob
    obtain ⟨hb, h'⟩ := bif_inv h
    simp only [Bool.and_eq_true] at hb
    cases h' with
    | mk hin h' =>
    dsimp only at h'
    split at h'
    rotate_left
    · exact h'.elim
    rename_i l hl
    cases h' with
    | mk hink h' =>
    dsimp only at h'
    split at h'
    rotate_left
    · exact h'.elim
    rename_i kk' m' hlk
    obtain ⟨_, h'⟩ := bif_inv h'
    exact op_storeSelt (e0 := []) ho hT R hx hy hti hob (eq_of_eqB hb.2.2) (eq_of_eqB hb.2.1) (isP_cls hb.1) hin hl hink hlk h'
  · exact h.elim

end Go.TL
