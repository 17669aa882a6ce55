/- Texts of a proof, joined by a program (merge.py): TfShJ TfOwsA TfShS TfShT TfOrdP TfExtI TfRrOkI TfPutI TfOrdS TfZoU TfMoA TfZoS. -/
import Derived.Test.YtpnhfpjpmjdgmaaGreatDoorV08
import Derived.Laws.Externs
import Derived.Lib.Bytealg
import Derived.Lib.BytesEntry
set_option linter.all false
/- TfShJ -/
namespace Go.TL.Tryz
open Go Go.TL Go.Proofs
set_option maxRecDepth 20000
variable {P : Program}

/-- Long words in memory. -/
def encJ (l : List Int) : List (List T) := l.map fun n => [.int .u64 n]
theorem encJ_len {l : List Int} {es : List (List T)} (h : encJ l = es) : es.length = l.length := by subst h; simp [encJ]
theorem encJ_app {l m : List Int} {es fs : List (List T)} (h : encJ l = es) (k : encJ m = fs) : encJ (l ++ m) = es ++ fs := by subst h; subst k; simp [encJ]
theorem get_ltJ {ar : Ar} (har : ar = std) {b : List Int} {es : List (List T)} {i : Int} {K : List T → Prop} (hes : encJ b = es) (h : ar.icmp .lss i (ar.len es) = true) (h0 : 0 ≤ i)
    (k : ∀ (x : Int), b[i.toNat]? = some x → K [.int .u64 x]) : GetP ar es i K := by
  have hl : i.toNat < b.length := by rw [← encJ_len hes]; exact lt_len har h h0
  subst har; subst hes
  refine ⟨by simp [std, encJ]; omega, ?_⟩
  have := k b[i.toNat] (List.getElem?_eq_getElem hl)
  simpa [std, encJ, hl] using this
theorem addU {a b : Int} (h1 : 0 ≤ a + b) (h2 : a + b ≤ 18446744073709551615) : iopS .add .u64 a b = a + b := by
  show IntKind.u64.wrap (a + b) = a + b
  exact wrap_id (by simp [IntKind.has, IntKind.min, IntKind.max, IntKind.signed, IntKind.bits]; omega)
theorem len_lt {ar : Ar} (har : ar = std) {ls : List (List T)} {n : Int} (h : ar.icmp .lss (ar.len ls) n = true) : (ls.length : Int) < n := by subst har; exact lt_cmp rfl h
theorem len_ge {ar : Ar} (har : ar = std) {ls : List (List T)} {n : Int} (h : ar.icmp .lss (ar.len ls) n = false) : n ≤ (ls.length : Int) := by subst har; exact ge_cmp rfl h
theorem any_hit {α : Type} {p : α → Bool} {l : List α} {i : Nat} {x : α} (hx : l[i]? = some x) (h : p x = true) : l.any p = true := List.any_eq_true.2 ⟨x, List.mem_of_getElem? hx, h⟩
theorem any_take_succ {α : Type} {p : α → Bool} {l : List α} {i : Nat} {x : α} (hx : l[i]? = some x) (h : (l.take i).any p = false) (hp : p x = false) : (l.take (i + 1)).any p = false := by
  rw [List.take_add_one, hx]; simp [h, hp]
set_option maxRecDepth 20000 in
theorem fn167 : Tryz.prog.funcs[167]? = some Tryz.f167 := rfl
set_option maxHeartbeats 40000000 in
set_option maxRecDepth 3000 in
theorem iPrimes1 (hP : Prg P) {p k : Int} (hp : 2 ≤ p) : ACall P 167 [.one (.t (.int .u64 p)), .one (.t (.pt [.int .u64 k] 0))] [] (fun r ob => r = .one (.t (.bool (decide (iopS .rem .u64 k p = 0)))) ∧ ob = []) := by
  refine acall_fn (md := md) [none] v167 hP.mixed hP.tab (fn_at hP fn167) 2 rfl (by decide +kernel) rfl ?_
  intro ar har
  cbv
  repeat' (first | (intro; cbv) | (with_reducible refine and_side ?_ ?_; rotate_left; try cbv))
  case refine_2 =>
    subst har
    refine ret_b1 ?_
    show (iopS .rem .u64 k p == 0) = _
    rw [Bool.eq_iff_iff]; simp
  case refine_1 => subst har; exact ⟨fun e => by omega⟩
set_option maxRecDepth 20000 in
theorem fn173 : Tryz.prog.funcs[173]? = some Tryz.f173 := rfl
set_option maxHeartbeats 40000000 in
set_option maxRecDepth 3000 in
theorem iIdxJ (hP : Prg P) {n : List Int} {ns : List (List T)} (hn : encJ n = ns) {k : Int} (hpos : ∀ p ∈ n, 2 ≤ p) : ACall P 173 [.one (.t (.sl ns)), .one (.t (.fn (.func 167) [] [.pt [.int .u64 k] 0]))] []
    (fun r ob => ∃ v, (0 ≤ v ↔ n.any (fun p => decide (iopS .rem .u64 k p = 0)) = true) ∧ r = .one (.t (.int .i64 v)) ∧ ob = []) := by
  refine acall_fn (md := md) [none] v173 hP.mixed hP.tab (fn_at hP fn173) 2 rfl (by decide +kernel) rfl ?_
  intro ar har
  cbv
  repeat' (first | (intro; cbv))
  refine loop_start [] [] ?_
  cbv
  refine LoopR.mk Int (fun i => ([(8, .one (.t (.int .i64 i)))], []))
    (fun i => 0 ≤ i ∧ (n.take i.toNat).any (fun p => decide (iopS .rem .u64 k p = 0)) = false) (fun i => n.length - i.toNat) 0 ?e ?f ?g
  case e => kernel_rfl
  case f => simp
  case g =>
    intro i hi
    have hi0 : 0 ≤ i := hi.1
    have hi1 : (n.take i.toNat).any (fun p => decide (iopS .rem .u64 k p = 0)) = false := hi.2
    clear hi
    cbv
    repeat' (first | (intro; cbv) | (refine br_intro ?_ ?_ <;> intro <;> cbv) | (refine get_ltJ har (by assumption) (by assumption) (by assumption) ?_; intro x hx; cbv) | (refine call_intro (iPrimes1 hP (by first | assumption | exact hpos _ (List.mem_of_getElem? (by assumption)))) ?_; rintro r ob ⟨rfl, rfl⟩; generalize hpr : decide (iopS .rem .u64 _ _ = 0) = pr; cbv))
    case refine_1.refine_1 =>
      exact ⟨⟨i, by rw [any_hit hx (by rw [hpr]; assumption)]; simp [hi0], rfl, rfl⟩⟩
    case refine_1.refine_2 =>
      have hlt := (List.getElem?_eq_some_iff.1 hx).1
      have hl := encJ_len hn
      have hb : ns.length ≤ 2 ^ 63 - 1 := by subst har; assumption
      have e1 : ar.iop .add .i64 i 1 = i + 1 := add_std har (by omega) (by omega)
      exact ⟨i + 1, by rw [← e1]; kernel_rfl, ⟨by omega, by rw [show (i + 1).toNat = i.toNat + 1 by omega]; exact any_take_succ hx hi1 (by rw [hpr]; assumption)⟩, by omega⟩
    case refine_2 =>
      have hend := ge_len har (by assumption) hi0
      rw [encJ_len hn] at hend
      rw [List.take_of_length_le hend] at hi1
      exact ⟨⟨-1, by rw [hi1]; simp, rfl, rfl⟩⟩
set_option maxRecDepth 20000 in
theorem fn166 : Tryz.prog.funcs[166]? = some Tryz.f166 := rfl
set_option maxHeartbeats 40000000 in
set_option maxRecDepth 3000 in
theorem iConJ (hP : Prg P) {n : List Int} {ns : List (List T)} (hn : encJ n = ns) {k : Int} (hpos : ∀ p ∈ n, 2 ≤ p) : ACall P 166 [.one (.t (.sl ns)), .one (.t (.fn (.func 167) [] [.pt [.int .u64 k] 0]))] []
    (fun r ob => r = .one (.t (.bool (n.any (fun p => decide (iopS .rem .u64 k p = 0))))) ∧ ob = []) := by
  refine acall_fn (md := md) [none] v166 hP.mixed hP.tab (fn_at hP fn166) 2 rfl (by decide +kernel) rfl ?_
  intro ar har
  cbv
  repeat' (first | (refine call_intro (iIdxJ hP (by assumption) hpos) ?_; rintro r ob ⟨v, hv, rfl, rfl⟩; cbv))
  subst har
  refine ret_b1 ?_
  show decide (0 ≤ v) = _
  rw [Bool.eq_iff_iff, decide_eq_true_eq, hv]
set_option maxRecDepth 20000 in
theorem fn154 : Tryz.prog.funcs[154]? = some Tryz.f154 := rfl
set_option maxHeartbeats 40000000 in
set_option maxRecDepth 3000 in
theorem iPrimes (hP : Prg P) : ACall P 154 [.one (.t (.int .i64 64))] [] (fun r ob => r = .one (.row 32 0) ∧ ob = [(32, .row 1 (encJ (prV 310)) 0 [0] false)]) := by
  generalize hK : (fun (r : A) (ob : Obs) => r = A.one (V.row 32 0) ∧ ob = [(32, Ob.row 1 (encJ (prV 310)) 0 [0] false)]) = K
  refine acall_fn (md := md) [some []] v154 hP.mixed hP.tab (fn_at hP fn154) 1 rfl (by decide +kernel) rfl ?_
  intro ar har
  cbv
  repeat' (first | (intro; cbv) | (with_reducible refine and_side ?_ ?_; rotate_left; try cbv) | (refine ChkP.mk (by decide +kernel) ?_; cbv) | (refine br_intro ?_ ?_ <;> intro <;> cbv) | (refine get_at har (by assumption) (by assumption) (by assumption) (by assumption) ?_; cbv) | (refine get_lt har (by assumption) (by assumption) (by assumption) ?_; intro x xx hx hxx; cbv) | (refine get_atN har (by assumption) (by assumption) (by assumption) (by assumption) ?_; cbv) | (refine get_ltN har (by assumption) (by assumption) (by assumption) ?_; intro x xx hx hxx; cbv) | (refine get_atI har (by assumption) (by assumption) (by decide) ?_; cbv) | (refine get_twoA har (by assumption) (by assumption) (by decide) ?_; intro x hx; cbv) | (refine get_twoB har (by assumption) (by assumption) (by decide) ?_; intro x hx; cbv) | (refine bytes_intro (by assumption) ?_; cbv) | (exact side_lt har (by assumption) (by assumption)) | (exact side_inb har (by assumption) (by assumption) (by assumption)) | (exact side_sh har (by decide)) | (exact side_app har (by assumption) (by assumption) (by omega)) | (exact side_app0 har (by assumption) (by omega)) | (exact side_new har (by assumption) (by omega)) | (exact side_one har (by assumption) (by omega)) | (exact side_oneN har (by assumption) (by omega)) | (exact side_flat har (by assumption)) | (exact side_sbig har (by omega)) | (refine side_sbig har ?_; simp; done) | (exact side_oneI har (by assumption) (by omega)) | (refine side_ix har ?_; simp; done) | (refine side_ix har ?_; simp; omega))
  refine loop_start [] [] ?_
  cbv
  refine LoopR.mk (List Int × List (List T) × Int) (fun x => ([], [(16, .row 1 x.2.1 0 [0] false), (17, .box [.t (.int .u64 x.2.2)] false)]))
    (fun x => encJ x.1 = x.2.1 ∧ 2 ≤ x.2.2 ∧ x.2.2 ≤ 312 ∧ x.1 = prV (x.2.2 - 2).toNat) (fun x => (313 - x.2.2).toNat) ([], [], 2) ?e ?f ?g
  case e => kernel_rfl
  case f => exact ⟨rfl, by decide, by decide, rfl⟩
  case g =>
    intro y hy
    obtain ⟨l, ls, k⟩ := y
    have hn : encJ l = ls := hy.1
    have hk2 : 2 ≤ k := hy.2.1
    have hk3 : k ≤ 312 := hy.2.2.1
    have hl : l = prV (k - 2).toNat := hy.2.2.2
    clear hy
    have hpos : ∀ p ∈ l, 2 ≤ p := by rw [hl]; exact prV_pos _
    have hll := encJ_len hn
    have hb : ls.length ≤ 64 := by rw [hll, hl, ← prV_310]; exact prV_mono (by omega)
    have eu : ar.iop .add .u64 k 1 = k + 1 := by subst har; exact addU (by omega) (by omega)
    have hk4 : ls.length < 64 → k < 312 := by
      intro hlt
      by_cases h : k < 312
      · exact h
      · have e : (k - 2).toNat = 310 := by omega
        rw [e] at hl
        rw [hll, hl, prV_310] at hlt
        omega
    have hj : prV ((k + 1 - 2).toNat) = match l.any (fun p => decide (iopS .rem .u64 k p = 0)) with | true => l | false => l ++ [k] := by
      rw [show (k + 1 - 2).toNat = (k - 2).toNat + 1 by omega, prV, ← hl, show (((k - 2).toNat : Nat) : Int) + 2 = k by omega]
      all_goals (generalize l.any (fun p => decide (iopS .rem .u64 k p = 0)) = q; cases q <;> rfl)
    cbv
    repeat' (first | (intro; cbv) | (with_reducible refine and_side ?_ ?_; rotate_left; try cbv) | (refine br_intro ?_ ?_ <;> intro <;> cbv) | (refine call_intro (iConJ hP (by assumption) hpos) ?_; rintro r ob ⟨rfl, rfl⟩; generalize hcj : List.any _ _ = cj; cbv))
    case refine_2 =>
      have h := len_ge har (by assumption : ar.icmp .lss (ar.len ls) 64 = false)
      have e : (k - 2).toNat = 310 := by
        rcases Nat.lt_or_ge (k - 2).toNat 310 with h1 | h1
        · have := prV_mono (show (k - 2).toNat ≤ 309 by omega)
          rw [prV_309, ← hl] at this
          omega
        · omega
      subst hK
      refine ⟨⟨rfl, ?_⟩⟩
      rw [← hn, hl, e]
    case refine_1.refine_1.refine_1 => exact ⟨by subst har; simp [std]; omega, by subst har; exact wid_one _⟩
    case refine_1.refine_1.refine_2 =>
      have hk4 := hk4 (by have := len_lt har (by assumption : ar.icmp .lss (ar.len ls) 64 = true); omega)
      rw [hcj, bnot_t har (by assumption : ar.bnot cj = true)] at hj
      refine ⟨(l ++ [k], ar.app ls [[.int .u64 k]], k + 1), by rw [← eu]; kernel_rfl, ⟨?_, by dsimp only; omega, by dsimp only; omega, hj.symm⟩, by dsimp only; omega⟩
      subst har; exact encJ_app hn rfl
    case refine_1.refine_2 =>
      have hk4 := hk4 (by have := len_lt har (by assumption : ar.icmp .lss (ar.len ls) 64 = true); omega)
      rw [hcj, bnot_f har (by assumption : ar.bnot cj = false)] at hj
      exact ⟨(l, ls, k + 1), by rw [← eu]; kernel_rfl, ⟨hn, by dsimp only; omega, by dsimp only; omega, hj.symm⟩, by dsimp only; omega⟩
end Go.TL.Tryz

/- TfOwsA -/
namespace Go.TL.Tryz
open Go Go.TL Go.Proofs
set_option maxRecDepth 20000
variable {P : Program}
theorem take_snoc {α : Type} {l : List α} {i : Nat} {x : α} (hx : l[i]? = some x) : l.take i ++ [x] = l.take (i + 1) := by
  rw [List.take_add_one, hx]; rfl
theorem side_app0I {ar : Ar} (har : ar = std) {m : List Int} {fs : List (List T)} (k : encI m = fs) (hn : m.length ≤ 1000000000) : Side (ar.room 8 (ar.app [] fs) ∧ ar.wid 1 fs) := by
  subst har; subst k
  exact ⟨by simp [std, encI]; omega, by intro x hx; simp [encI] at hx; obtain ⟨n, _, rfl⟩ := hx; rfl⟩
theorem side_any {ar : Ar} (har : ar = std) {b w : Nat} {es : List (List T)} {e : List T} (hl : es.length ≤ 1048576) (hb : b ≤ 1000000) (he : e.length = w) : Side (ar.room b (ar.app es [e]) ∧ ar.wid w [e]) := by
  subst har
  refine ⟨?_, fun x hx => by simp at hx; subst hx; exact he⟩
  have hm : (es.length + (0 + 1)) * (b + 1) ≤ 1048577 * 1000001 := Nat.mul_le_mul (by omega) (by omega)
  simp only [std, List.length_append, List.length_cons, List.length_nil]
  omega
/-- Callees give back what is frozen. -/
def mdN (_ : Nat) : Md := ⟨[], false⟩
set_option maxRecDepth 20000 in
theorem fn133 : Tryz.prog.funcs[133]? = some Tryz.f133 := rfl
set_option maxHeartbeats 40000000 in
set_option maxRecDepth 3000 in
theorem sOwn2 (hP : Prg P) {n : List (List UInt8)} {ns : List (List T)} (hn : encN n = ns) (hs : smByteSS n) : ACall P 133 [.agg [.t (.sl ns)]] [] (fun r ob => r = .agg [.t (.sl ns)] ∧ ob = []) := by
  have hnl := encN_len hn
  have hlb : n.length ≤ 1048576 := hs.1
  refine acall_fn (md := md) [none] v133 hP.mixed hP.tab (fn_at hP fn133) 1 rfl (by decide +kernel) rfl ?_
  intro ar har
  cbv
  repeat' (first | (intro; cbv) | (with_reducible refine and_side ?_ ?_; rotate_left; try cbv) | (refine ChkP.mk (by decide +kernel) ?_; cbv) | (refine br_intro ?_ ?_ <;> intro <;> cbv) | (exact side_sh har (by decide)))
  refine loop_start [] [.cell 3 0 1 12] ?_
  cbv
  refine LoopR.mk (List (List T) × Int) (fun x => ([(4, .one (.t (.int .i64 x.2)))], [(19, .row 1 x.1 0 [0] false)])) (fun x => x.1 = ns.take x.2.toNat ∧ 0 ≤ x.2) (fun x => n.length - x.2.toNat) ([], 0) ?e ?f ?g
  case e => kernel_rfl
  case f => exact ⟨rfl, Int.le_refl _⟩
  case g =>
    intro x hx
    obtain ⟨ms, i⟩ := x
    have hms : ms = ns.take i.toNat := hx.1
    have hi0 : 0 ≤ i := hx.2
    have hml : ms.length ≤ 1048576 := by rw [hms, List.length_take]; omega
    clear hx
    cbv
    repeat' (first | (intro; cbv) | (with_reducible refine and_side ?_ ?_; rotate_left; try cbv) | (refine ChkP.mk (by decide +kernel) ?_; cbv) | (refine br_intro ?_ ?_ <;> intro <;> cbv) | (refine get_ltN har (by assumption) (by assumption) (by assumption) ?_; intro x xx hx hxx; cbv))
    case refine_1.refine_1 => exact side_app0 har hxx (Nat.le_trans (hs.2 _ _ hx) (by decide))
    case refine_1.refine_2.refine_1 => exact side_any har hml (by decide) rfl
    case refine_1.refine_2.refine_2 =>
      have hx1 := (List.getElem?_eq_some_iff.1 hx).1
      have ea : ar.iop .add .i64 i 1 = i + 1 := add_std har (by omega) (by omega)
      have hat := at_N hn hx hxx
      refine ⟨(ar.app ms [[T.sl (ar.app [] xx)]], i + 1), by rw [← ea]; kernel_rfl, ⟨?_, by dsimp only; omega⟩, by dsimp only; omega⟩
      subst har
      rw [show (i + 1).toNat = i.toNat + 1 by omega, ← take_snoc hat, hms]; rfl
    case refine_2 =>
      have hend := ge_len har (by assumption) hi0
      rw [List.take_of_length_le (by omega)] at hms
      exact ⟨⟨by rw [hms], rfl⟩⟩
set_option maxRecDepth 20000 in
theorem fn160 : Tryz.prog.funcs[160]? = some Tryz.f160 := rfl
set_option maxHeartbeats 40000000 in
set_option maxRecDepth 3000 in
theorem sOwn3 (hP : Prg P) {x : Rrv} {e1 e2 e3 e4 : List (List T)} (he1 : encN x.n = e1) (he2 : encN x.to = e2) (he3 : encB x.tx = e3) (he4 : encI x.nu = e4) (hs : smRr x) : ACall P 160 [.agg [.t (.sl e1), .t (.int .i64 x.t), .t (.int .i64 x.ttl), .t (.int .i64 x.addr), .t (.sl e2), .t (.sl e3), .t (.sl e4)]] []
    (fun r ob => r = .agg [.t (.sl e1), .t (.int .i64 x.t), .t (.int .i64 x.ttl), .t (.int .i64 x.addr), .t (.sl e2), .t (.sl e3), .t (.sl e4)] ∧ ob = []) := by
  have s1 : smByteSS x.n := hs.1
  have s2 : smByteSS x.to := hs.2.1
  have s3 : x.tx.length ≤ 1000000000 := Nat.le_trans hs.2.2.1 (by decide)
  have s4 : x.nu.length ≤ 1000000000 := Nat.le_trans hs.2.2.2 (by decide)
  refine acall_fn (md := mdN) [none] v160 hP.mixed hP.tab (fn_at hP fn160) 1 rfl (by decide +kernel) rfl ?_
  intro ar har
  cbv
  repeat' (first | (intro; cbv) | (with_reducible refine and_side ?_ ?_; rotate_left; try cbv) | (refine ChkP.mk (by decide +kernel) ?_; cbv) | (exact side_app0 har (by assumption) (by omega)) | (refine calld_intro (sOwn2 hP (by assumption) (by assumption)) ?_; cbv))
  all_goals first
    | exact side_app0 har he3 s3
    | exact side_app0I har he4 s4
    | (subst har; exact ⟨⟨rfl, rfl⟩⟩)
set_option maxRecDepth 20000 in
theorem fn134 : Tryz.prog.funcs[134]? = some Tryz.f134 := rfl
set_option maxHeartbeats 40000000 in
set_option maxRecDepth 3000 in
theorem sOwnAll (hP : Prg P) {n : List Rrv} {ns : List (List T)} (hn : encR n = ns) (hs : smRrS n) : ACall P 134 [.one (.t (.sl ns))] [] (fun r ob => r = .one (.t (.sl ns)) ∧ ob = []) := by
  have hnl := encR_len hn
  have hlb : n.length ≤ 1048576 := hs.1
  refine acall_fn (md := mdN) [none] v134 hP.mixed hP.tab (fn_at hP fn134) 1 rfl (by decide +kernel) rfl ?_
  intro ar har
  cbv
  repeat' (first | (intro; cbv) | (with_reducible refine and_side ?_ ?_; rotate_left; try cbv) | (refine ChkP.mk (by decide +kernel) ?_; cbv) | (refine br_intro ?_ ?_ <;> intro <;> cbv) | (exact side_sh har (by decide)))
  refine loop_start [] [.tmp 3 0 7 12] ?_
  cbv
  refine LoopR.mk (List (List T) × Int) (fun x => ([(4, .one (.t (.int .i64 x.2)))], [(16, .row 7 x.1 0 [0] false)])) (fun x => x.1 = ns.take x.2.toNat ∧ 0 ≤ x.2) (fun x => n.length - x.2.toNat) ([], 0) ?e ?f ?g
  case e => kernel_rfl
  case f => exact ⟨rfl, Int.le_refl _⟩
  case g =>
    intro x hx
    obtain ⟨ms, i⟩ := x
    have hms : ms = ns.take i.toNat := hx.1
    have hi0 : 0 ≤ i := hx.2
    have hml : ms.length ≤ 1048576 := by rw [hms, List.length_take]; omega
    clear hx
    cbv
    repeat' (first | (intro; cbv) | (with_reducible refine and_side ?_ ?_; rotate_left; try cbv) | (refine br_intro ?_ ?_ <;> intro <;> cbv) | (refine get_ltR har (by assumption) (by assumption) (by assumption) ?_; intro x e1 e2 e3 e4 hx he1 he2 he3 he4; cbv) | (refine call_intro (sOwn3 hP (by assumption) (by assumption) (by assumption) (by assumption) (hs.2 _ _ (by assumption))) ?_; rintro r ob ⟨rfl, rfl⟩; cbv))
    case refine_1.refine_1 => exact side_any har hml (by decide) rfl
    case refine_1.refine_2 =>
      have hx1 := (List.getElem?_eq_some_iff.1 hx).1
      have ea : ar.iop .add .i64 i 1 = i + 1 := add_std har (by omega) (by omega)
      have hat := at_R hn hx he1 he2 he3 he4
      refine ⟨(ar.app ms [[T.sl e1, T.int .i64 x.t, T.int .i64 x.ttl, T.int .i64 x.addr, T.sl e2, T.sl e3, T.sl e4]], i + 1), by rw [← ea]; kernel_rfl, ⟨?_, by dsimp only; omega⟩, by dsimp only; omega⟩
      subst har
      rw [show (i + 1).toNat = i.toNat + 1 by omega, ← take_snoc hat, hms]; rfl
    case refine_2 =>
      have hend := ge_len har (by assumption) hi0
      rw [List.take_of_length_le (by omega)] at hms
      exact ⟨⟨by rw [hms], rfl⟩⟩
set_option maxRecDepth 20000 in
theorem fn89 : Tryz.prog.funcs[89]? = some Tryz.f89 := rfl
set_option maxHeartbeats 40000000 in
set_option maxRecDepth 3000 in
theorem sOwn5 (hP : Prg P) {v : Zon} {e1 e2 : List (List T)} (he1 : encN v.o = e1) (he2 : encR v.rs = e2) (hs : smZone v) : ACall P 89 [.agg [.t (.sl e1), .t (.sl e2)]] []
    (fun r ob => r = .agg [.t (.sl e1), .t (.sl e2)] ∧ ob = []) := by
  have s1 : smByteSS v.o := hs.1
  have s2 : smRrS v.rs := hs.2
  refine acall_fn (md := mdN) [none] v89 hP.mixed hP.tab (fn_at hP fn89) 1 rfl (by decide +kernel) rfl ?_
  intro ar har
  cbv
  repeat' (first | (intro; cbv) | (refine ChkP.mk (by decide +kernel) ?_; cbv) | (refine calld_intro (sOwn2 hP (by assumption) (by assumption)) ?_; cbv) | (refine calld_intro (sOwnAll hP (by assumption) (by assumption)) ?_; cbv))
  exact ⟨⟨rfl, rfl⟩⟩
set_option maxRecDepth 20000 in
theorem fn42 : Tryz.prog.funcs[42]? = some Tryz.f42 := rfl
set_option maxHeartbeats 40000000 in
set_option maxRecDepth 3000 in
theorem sOwn8 (hP : Prg P) {h : Hou} {d1 d2 d3 d4 d5 : List (List T)} (hd1 : encN h.z.o = d1) (hd2 : encR h.z.rs = d2) (hd3 : encN h.rv.o = d3) (hd4 : encR h.rv.rs = d4) (hd5 : encL h.ls = d5) (hs : smHouse h) :
    ACall P 42 [.agg [.t (.int .i64 h.now), .t (.sl d1), .t (.sl d2), .t (.sl d3), .t (.sl d4), .t (.sl d5)]] [] (fun r ob => r = .agg [.t (.int .i64 h.now), .t (.sl d1), .t (.sl d2), .t (.sl d3), .t (.sl d4), .t (.sl d5)] ∧ ob = []) := by
  have s1 := hs.1
  have s2 := hs.2.1
  have hnl := encL_len hd5
  have hlb : h.ls.length ≤ 1048576 := hs.2.2.1
  refine acall_fn (md := mdN) [none] v42 hP.mixed hP.tab (fn_at hP fn42) 1 rfl (by decide +kernel) rfl ?_
  intro ar har
  cbv
  repeat' (first | (intro; cbv) | (refine ChkP.mk (by decide +kernel) ?_; cbv) | (refine calld_intro (sOwn5 hP (by assumption) (by assumption) (by assumption)) ?_; cbv))
  refine loop_start [] [.cell 3 5 5 12] ?_
  cbv
  refine LoopR.mk (List (List T) × Int) (fun x => ([(4, .one (.t (.int .i64 x.2)))], [(19, .row 5 x.1 0 [0] false)])) (fun x => x.1 = d5.take x.2.toNat ∧ 0 ≤ x.2) (fun x => h.ls.length - x.2.toNat) ([], 0) ?e ?f ?g
  case e => kernel_rfl
  case f => exact ⟨rfl, Int.le_refl _⟩
  case g =>
    intro x hx
    obtain ⟨ms, i⟩ := x
    have hms : ms = d5.take i.toNat := hx.1
    have hi0 : 0 ≤ i := hx.2
    have hml : ms.length ≤ 1048576 := by rw [hms, List.length_take]; omega
    clear hx
    cbv
    repeat' (first | (intro; cbv) | (with_reducible refine and_side ?_ ?_; rotate_left; try cbv) | (refine br_intro ?_ ?_ <;> intro <;> cbv) | (refine get_ltL har (by assumption) (by assumption) (by assumption) ?_; intro x e1 e2 hx he1 he2; cbv))
    case refine_1.refine_1 => exact side_app0 har he1 (Nat.le_trans (hs.2.2.2 _ _ hx).1 (by decide))
    case refine_1.refine_2.refine_1 => exact side_app0 har he2 (Nat.le_trans (hs.2.2.2 _ _ hx).2 (by decide))
    case refine_1.refine_2.refine_2.refine_1 => exact side_any har hml (by decide) rfl
    case refine_1.refine_2.refine_2.refine_2 =>
      have hx1 := (List.getElem?_eq_some_iff.1 hx).1
      have ea : ar.iop .add .i64 i 1 = i + 1 := add_std har (by omega) (by omega)
      have hat := at_L hd5 hx he1 he2
      refine ⟨(ar.app ms [[T.int .i64 x.ip, T.sl (ar.app [] e1), T.sl (ar.app [] e2), T.int .i64 x.til, T.bool x.won]], i + 1), by rw [← ea]; kernel_rfl, ⟨?_, by dsimp only; omega⟩, by dsimp only; omega⟩
      subst har
      rw [show (i + 1).toNat = i.toNat + 1 by omega, ← take_snoc hat, hms]; rfl
    case refine_2 =>
      have hend := ge_len har (by assumption) hi0
      rw [List.take_of_length_le (by omega)] at hms
      exact ⟨⟨by rw [hms], rfl⟩⟩
/-- Where the lease of an address stands, less than nought if nowhere. -/
def FindP (l : List Lea) (ip v : Int) : Prop := (v < 0 → l.find? (fun x => decide (x.ip = ip)) = none) ∧ (0 ≤ v → ∃ x, l[v.toNat]? = some x ∧ l.find? (fun x => decide (x.ip = ip)) = some x)
theorem find_none {l : List Lea} {ip : Int} (h : l.any (fun x => decide (x.ip = ip)) = false) : FindP l ip (-1) := by
  refine ⟨fun _ => ?_, fun h => absurd h (by decide)⟩
  rw [List.find?_eq_none]
  intro x hx
  rw [List.any_eq_false] at h
  exact h x hx
theorem find_some {l : List Lea} {ip i : Int} {x : Lea} (h0 : 0 ≤ i) (h : (l.take i.toNat).any (fun x => decide (x.ip = ip)) = false) (hx : l[i.toNat]? = some x) (he : x.ip = ip) : FindP l ip i := by
  refine ⟨fun h => absurd h (by omega), fun _ => ⟨x, hx, ?_⟩⟩
  have hl := (List.getElem?_eq_some_iff.1 hx).1
  have hd : l = l.take i.toNat ++ x :: l.drop (i.toNat + 1) := by
    have := List.getElem?_eq_some_iff.1 hx
    obtain ⟨h1, h2⟩ := this
    rw [← h2, ← List.drop_eq_getElem_cons h1, List.take_append_drop]
  rw [hd, List.find?_append, List.find?_eq_none.2 (by rw [List.any_eq_false] at h; exact h)]
  simp [he]
set_option maxRecDepth 20000 in
theorem fn41 : Tryz.prog.funcs[41]? = some Tryz.f41 := rfl
set_option maxHeartbeats 40000000 in
set_option maxRecDepth 3000 in
theorem sFind8 (hP : Prg P) {h : Hou} {d1 d2 d3 d4 d5 : List (List T)} (hd5 : encL h.ls = d5) {ip : Int} : ACall P 41 [.agg [.t (.int .i64 h.now), .t (.sl d1), .t (.sl d2), .t (.sl d3), .t (.sl d4), .t (.sl d5)], .one (.t (.int .i64 ip))] []
    (fun r ob => ∃ v : Int, FindP h.ls ip v ∧ r = .one (.t (.int .i64 v)) ∧ ob = []) := by
  have hnl := encL_len hd5
  refine acall_fn (md := md) [none] v41 hP.mixed hP.tab (fn_at hP fn41) 2 rfl (by decide +kernel) rfl ?_
  intro ar har
  cbv
  refine loop_start [] [] ?_
  cbv
  refine LoopR.mk Int (fun i => ([(5, .one (.t (.int .i64 i)))], [])) (fun i => 0 ≤ i ∧ (h.ls.take i.toNat).any (fun x => decide (x.ip = ip)) = false) (fun i => h.ls.length - i.toNat) 0 ?e ?f ?g
  case e => kernel_rfl
  case f => exact ⟨Int.le_refl _, rfl⟩
  case g =>
    intro i hi
    have hi0 : 0 ≤ i := hi.1
    have hi1 : (h.ls.take i.toNat).any (fun x => decide (x.ip = ip)) = false := hi.2
    clear hi
    cbv
    repeat' (first | (intro; cbv) | (refine br_intro ?_ ?_ <;> intro <;> cbv) | (refine get_ltL har (by assumption) (by assumption) (by assumption) ?_; intro x e1 e2 hx he1 he2; cbv))
    all_goals first
      | (have hend := ge_len har (by assumption : ar.icmp .lss i (ar.len d5) = false) hi0
         rw [List.take_of_length_le (by omega)] at hi1
         exact ⟨⟨-1, find_none hi1, rfl, rfl⟩⟩)
      | (have h0 := eq_cmp har (by assumption : ar.icmp .eql x.ip ip = true)
         exact ⟨⟨i, find_some hi0 hi1 hx h0, rfl, rfl⟩⟩)
      | (have h0 := ne_cmp har (by assumption : ar.icmp .eql x.ip ip = false)
         have hlt := (List.getElem?_eq_some_iff.1 hx).1
         have hbg := big_le har (by assumption : ar.big d5)
         have ea : ar.iop .add .i64 i 1 = i + 1 := add_std har (by omega) (by omega)
         exact ⟨i + 1, by rw [← ea]; kernel_rfl, ⟨by omega, by rw [show (i + 1).toNat = i.toNat + 1 by omega]; exact any_take_succ hx hi1 (by simp [h0])⟩, by omega⟩)
end Go.TL.Tryz

/- TfShS -/
namespace Go.TL.Tryz
open Go Go.TL Go.Proofs
set_option maxRecDepth 20000
variable {P : Program}
theorem get_byteJ {ar : Ar} (har : ar = std) {b : List UInt8} {es : List (List T)} {i : Int} {K : List T → Prop} (j : Nat) (hes : encB b = es) (hi : i = j) (hj : j < b.length) (k : ∀ xx, iB (b.getD j 0) = xx → K [.int .u8 xx]) : GetP ar es i K := by
  refine get_byte har hes ⟨by omega, by omega⟩ fun x xx hx hxx => k xx ?_
  have e : i.toNat = j := by omega
  rw [e] at hx
  simp [List.getD, hx, hxx]
theorem get_wordJ {ar : Ar} (har : ar = std) {l : List Wd} {es : List (List T)} {i : Int} {K : List T → Prop} (j : Nat) (hes : encU l = es) (hi : i = j) (hj : j < l.length) (k : ∀ xx, wI (wAt l j) = xx → K [.int .u32 xx]) : GetP ar es i K := by
  refine get_word32 har hes ⟨by omega, by omega⟩ fun xx hxx => k xx ?_
  have e : i.toNat = j := by omega
  rw [e] at hxx
  exact hxx
theorem side_w {ar : Ar} (har : ar = std) {l : List Wd} {es : List (List T)} {i : Int} (hes : encU l = es) (hl : l.length = 64) (h : 0 ≤ i ∧ i < 64) : Side (ar.inb i es ∧ ar.len es = Int.ofNat 64) := by
  have := encU_len hes
  subst har
  exact ⟨⟨by simp [std]; omega, by show (es.length : Int) = 64; omega⟩⟩
def mdB7 (n : Nat) : Md := bif eqB n 0 then ⟨[some [(5, 0)]], true⟩ else md n
/-- Eight words, as numbers. -/
structure V8R (v : V8) (a b c d e f g h : Int) : Prop where
  a : wI v.a = a
  b : wI v.b = b
  c : wI v.c = c
  d : wI v.d = d
  e : wI v.e = e
  f : wI v.f = f
  g : wI v.g = g
  h : wI v.h = h
structure N8 where
  a : Int
  b : Int
  c : Int
  d : Int
  e : Int
  f : Int
  g : Int
  h : Int
/-- The first ones of the second list, the others of the first. -/
def mixC (n : Nat) (x y : N8) : List V :=
  [.t (.int .u32 (match ltB 0 n with | true => y.a | false => x.a)), .t (.int .u32 (match ltB 1 n with | true => y.b | false => x.b)), .t (.int .u32 (match ltB 2 n with | true => y.c | false => x.c)), .t (.int .u32 (match ltB 3 n with | true => y.d | false => x.d)),
   .t (.int .u32 (match ltB 4 n with | true => y.e | false => x.e)), .t (.int .u32 (match ltB 5 n with | true => y.f | false => x.f)), .t (.int .u32 (match ltB 6 n with | true => y.g | false => x.g)), .t (.int .u32 (match ltB 7 n with | true => y.h | false => x.h))]
set_option maxRecDepth 20000 in
theorem fn143 : Tryz.prog.funcs[143]? = some Tryz.f143 := rfl
set_option maxHeartbeats 40000000 in
set_option maxRecDepth 3000 in
theorem sBlock (hP : Prg P) {v : V8} {a1 b1 c1 d1 e1 f1 g1 h1 : Int} (hv : V8R v a1 b1 c1 d1 e1 f1 g1 h1) {b : List UInt8} {bs : List (List T)} (hb : encB b = bs) (hbl : b.length = 64) :
    ACall P 143 [.agg [.t (.int .u32 a1), .t (.int .u32 b1), .t (.int .u32 c1), .t (.int .u32 d1), .t (.int .u32 e1), .t (.int .u32 f1), .t (.int .u32 g1), .t (.int .u32 h1)], .one (.t (.sl bs))] [] (fun (r : A) (ob : Obs) => ∃ n : N8, V8R (blockV kC v b) n.a n.b n.c n.d n.e n.f n.g n.h ∧ r = .agg [.t (.int .u32 n.a), .t (.int .u32 n.b), .t (.int .u32 n.c), .t (.int .u32 n.d), .t (.int .u32 n.e), .t (.int .u32 n.f), .t (.int .u32 n.g), .t (.int .u32 n.h)] ∧ ob = []) := by
  generalize hKK : (fun (r : A) (ob : Obs) => ∃ n : N8, V8R (blockV kC v b) n.a n.b n.c n.d n.e n.f n.g n.h ∧ r = .agg [.t (.int .u32 n.a), .t (.int .u32 n.b), .t (.int .u32 n.c), .t (.int .u32 n.d), .t (.int .u32 n.e), .t (.int .u32 n.f), .t (.int .u32 n.g), .t (.int .u32 n.h)] ∧ ob = []) = K
  refine acall_fn (md := mdB7) [none] v143 hP.mixed hP.tab (fn_at hP fn143) 2 rfl (by decide +kernel) rfl ?_
  intro ar har
  cbv
  repeat' (first | (intro; cbv) | (with_reducible refine and_side ?_ ?_; rotate_left; try cbv) | (refine ChkP.mk (by decide +kernel) ?_; cbv) | (refine br_intro ?_ ?_ <;> intro <;> cbv) | (refine get_at har (by assumption) (by assumption) (by assumption) (by assumption) ?_; cbv) | (refine get_lt har (by assumption) (by assumption) (by assumption) ?_; intro x xx hx hxx; cbv) | (refine get_atN har (by assumption) (by assumption) (by assumption) (by assumption) ?_; cbv) | (refine get_ltN har (by assumption) (by assumption) (by assumption) ?_; intro x xx hx hxx; cbv) | (refine get_atI har (by assumption) (by assumption) (by decide) ?_; cbv) | (refine get_twoA har (by assumption) (by assumption) (by decide) ?_; intro x hx; cbv) | (refine get_twoB har (by assumption) (by assumption) (by decide) ?_; intro x hx; cbv) | (refine bytes_intro (by assumption) ?_; cbv) | (exact side_lt har (by assumption) (by assumption)) | (exact side_inb har (by assumption) (by assumption) (by assumption)) | (exact side_sh har (by decide)) | (exact side_app har (by assumption) (by assumption) (by omega)) | (exact side_app0 har (by assumption) (by omega)) | (exact side_new har (by assumption) (by omega)) | (exact side_one har (by assumption) (by omega)) | (exact side_oneN har (by assumption) (by omega)) | (exact side_flat har (by assumption)) | (exact side_sbig har (by omega)) | (refine side_sbig har ?_; simp; done) | (exact side_oneI har (by assumption) (by omega)) | (refine side_ix har ?_; simp; done) | (refine side_ix har ?_; simp; omega))
  refine loop_start [] [] ?_
  cbv
  refine LoopR.mk (List Wd × List (List T) × Int) (fun x => ([(6, .one (.t (.int .i64 x.2.2)))], [(18, .row 1 x.2.1 0 [0] false)])) (fun x => encU x.1 = x.2.1 ∧ 0 ≤ x.2.2 ∧ x.2.2 ≤ 16 ∧ x.1 = sch1 b x.2.2.toNat) (fun x => 16 - x.2.2.toNat) (List.replicate 64 0, ar.rep 64 [.int .u32 0], 0) ?e ?f ?g
  case e => kernel_rfl
  case f => exact ⟨by subst har; exact encU_zero rfl, Int.le_refl _, (by decide : (0 : Int) ≤ 16), rfl⟩
  case g =>
    intro x hx
    obtain ⟨ws, wss, i⟩ := x
    have hws : encU ws = wss := hx.1
    have hi0 : 0 ≤ i := hx.2.1
    have hi16 : i ≤ 16 := hx.2.2.1
    have hwv : ws = sch1 b i.toNat := hx.2.2.2
    clear hx
    have hwl : ws.length = 64 := by rw [hwv]; exact sch1_len b _
    have hwsl := encU_len hws
    have e4 : iopS .mul .i64 4 i = 4 * i := mulI (by omega) (by omega)
    cbv
    repeat' (first | (refine br_intro ?_ ?_ <;> intro <;> cbv))
    case refine_1 =>
      have hlt := lt_cmp har (by assumption)
      have a1 : iopS .add .i64 (4 * i) 1 = 4 * i + 1 := addI (by omega) (by omega)
      have a2 : iopS .add .i64 (4 * i) 2 = 4 * i + 2 := addI (by omega) (by omega)
      have a3 : iopS .add .i64 (4 * i) 3 = 4 * i + 3 := addI (by omega) (by omega)
      refine get_byteJ har (4 * i.toNat) hb (by subst har; show iopS .mul .i64 4 i = _; rw [e4]; omega) (by omega) fun x0 hx0 => ?_
      cbv
      repeat' (first | (with_reducible refine and_side ?_ ?_; rotate_left; try cbv) | (exact side_sh har (by decide)))
      refine get_byteJ har (4 * i.toNat + 1) hb (by subst har; show iopS .add .i64 (iopS .mul .i64 4 i) 1 = _; rw [e4, a1]; omega) (by omega) fun x1 hx1 => ?_
      cbv
      repeat' (first | (with_reducible refine and_side ?_ ?_; rotate_left; try cbv) | (exact side_sh har (by decide)))
      refine get_byteJ har (4 * i.toNat + 2) hb (by subst har; show iopS .add .i64 (iopS .mul .i64 4 i) 2 = _; rw [e4, a2]; omega) (by omega) fun x2 hx2 => ?_
      cbv
      repeat' (first | (with_reducible refine and_side ?_ ?_; rotate_left; try cbv) | (exact side_sh har (by decide)))
      refine get_byteJ har (4 * i.toNat + 3) hb (by subst har; show iopS .add .i64 (iopS .mul .i64 4 i) 3 = _; rw [e4, a3]; omega) (by omega) fun x3 hx3 => ?_
      cbv
      repeat' (first | (intro; cbv) | (with_reducible refine and_side ?_ ?_; rotate_left; try cbv) | (refine ChkP.mk (by decide +kernel) ?_; cbv))
      case refine_2.refine_2.refine_2.refine_1 => exact ⟨by subst har; exact ⟨by simp [std]; omega, by show (wss.length : Int) = 64; omega⟩⟩
      case refine_2.refine_2.refine_2.refine_2.refine_1 => exact ⟨by subst har; simp [std]; omega⟩
      case refine_2.refine_2.refine_2.refine_2.refine_2 =>
        have hW : wI (word4 b i.toNat) = ar.iop .or .u32 (ar.iop .or .u32 (ar.iop .or .u32 (ar.iop .shl .u32 (ar.conv .u32 x0) 24) (ar.iop .shl .u32 (ar.conv .u32 x1) 16)) (ar.iop .shl .u32 (ar.conv .u32 x2) 8)) (ar.conv .u32 x3) := by
          subst har; subst hx0; subst hx1; subst hx2; subst hx3
          show _ = iopS .or .u32 (iopS .or .u32 (iopS .or .u32 (iopS .shl .u32 (std.conv .u32 (iB _)) 24) (iopS .shl .u32 (std.conv .u32 (iB _)) 16)) (iopS .shl .u32 (std.conv .u32 (iB _)) 8)) (std.conv .u32 (iB _))
          rw [conv8, conv8, conv8, conv8, shl32 _ (k := 24) rfl (by decide), shl32 _ (k := 16) rfl (by decide), shl32 _ (k := 8) rfl (by decide), or32, or32, or32]
          rfl
        have hi : ar.iop .add .i64 i 1 = i + 1 := add_std har (by omega) (by omega)
        generalize hWW : ar.iop .or .u32 (ar.iop .or .u32 (ar.iop .or .u32 (ar.iop .shl .u32 (ar.conv .u32 x0) 24) (ar.iop .shl .u32 (ar.conv .u32 x1) 16)) (ar.iop .shl .u32 (ar.conv .u32 x2) 8)) (ar.conv .u32 x3) = WW at hW
        refine ⟨(ws.set i.toNat (word4 b i.toNat), ar.setc wss i 0 [.int .u32 WW], i + 1), by rw [← hi, ← hWW]; kernel_rfl, ⟨?_, by dsimp only; omega, by dsimp only; omega, ?_⟩, by dsimp only; omega⟩
        · subst har; exact (encU_set hws hW).symm
        · rw [show (i + 1).toNat = i.toNat + 1 by omega, hwv]; rfl
    case refine_2 =>
      have hi16e := ge_cmp har (by assumption)
      have hie : i.toNat = 16 := by omega
      rw [hie] at hwv
      clear hi0 hi16 hi16e hie e4
      refine loop_start [6, 21] [] ?_
      cbv
      refine LoopR.mk (List Wd × List (List T) × Int) (fun x => ([(7, .one (.t (.int .i64 x.2.2)))], [(18, .row 1 x.2.1 0 [0] false)])) (fun x => encU x.1 = x.2.1 ∧ 16 ≤ x.2.2 ∧ x.2.2 ≤ 64 ∧ x.1 = sch2 ws (x.2.2.toNat - 16)) (fun x => 64 - x.2.2.toNat) (ws, wss, 16) ?e2 ?f2 ?g2
      case e2 => kernel_rfl
      case f2 => exact ⟨hws, Int.le_refl _, (by decide : (16 : Int) ≤ 64), rfl⟩
      case g2 =>
        intro x hx
        obtain ⟨us, uss, i⟩ := x
        have hus : encU us = uss := hx.1
        have hi0 : 16 ≤ i := hx.2.1
        have hi64 : i ≤ 64 := hx.2.2.1
        have huv : us = sch2 ws (i.toNat - 16) := hx.2.2.2
        clear hx
        have hul : us.length = 64 := by rw [huv]; exact sch2_len hwl _
        have husl := encU_len hus
        cbv
        repeat' (first | (with_reducible refine and_side ?_ ?_; rotate_left; try cbv) | (refine br_intro ?_ ?_ <;> intro <;> cbv))
        case refine_1.refine_1 =>
          have hlt := lt_cmp har (by assumption)
          have s15 : iopS .sub .i64 i 15 = i - 15 := subI (by omega) (by omega)
          exact side_w har hus hul (by subst har; show 0 ≤ iopS .sub .i64 i 15 ∧ iopS .sub .i64 i 15 < 64; rw [s15]; omega)
        case refine_1.refine_2 =>
          have hlt := lt_cmp har (by assumption)
          have s15 : iopS .sub .i64 i 15 = i - 15 := subI (by omega) (by omega)
          have s2 : iopS .sub .i64 i 2 = i - 2 := subI (by omega) (by omega)
          have s16 : iopS .sub .i64 i 16 = i - 16 := subI (by omega) (by omega)
          have s7 : iopS .sub .i64 i 7 = i - 7 := subI (by omega) (by omega)
          refine get_wordJ har (i.toNat - 15) hus (by subst har; show iopS .sub .i64 i 15 = _; rw [s15]; omega) (by omega) fun y1 hy1 => ?_
          cbv
          repeat' (first | (with_reducible refine and_side ?_ ?_; rotate_left; try cbv))
          case refine_1 => exact side_w har hus hul (by subst har; show 0 ≤ iopS .sub .i64 i 2 ∧ iopS .sub .i64 i 2 < 64; rw [s2]; omega)
          refine get_wordJ har (i.toNat - 2) hus (by subst har; show iopS .sub .i64 i 2 = _; rw [s2]; omega) (by omega) fun y2 hy2 => ?_
          cbv
          repeat' (first | (intro; cbv) | (with_reducible refine and_side ?_ ?_; rotate_left; try cbv) | (refine ChkP.mk (by decide +kernel) ?_; cbv) | (exact side_sh har (by decide)) | (refine call_intro (sTurn hP (by assumption) (k := 7) (by decide) (by decide)) ?_; rintro r ob ⟨rfl, rfl⟩; generalize hr7 : wI (rotr _ 7) = r7; cbv) | (refine call_intro (sTurn hP (by assumption) (k := 18) (by decide) (by decide)) ?_; rintro r ob ⟨rfl, rfl⟩; generalize hr18 : wI (rotr _ 18) = r18; cbv) | (refine call_intro (sTurn hP (by assumption) (k := 17) (by decide) (by decide)) ?_; rintro r ob ⟨rfl, rfl⟩; generalize hr17 : wI (rotr _ 17) = r17; cbv) | (refine call_intro (sTurn hP (by assumption) (k := 19) (by decide) (by decide)) ?_; rintro r ob ⟨rfl, rfl⟩; generalize hr19 : wI (rotr _ 19) = r19; cbv))
          case refine_2.refine_2.refine_2.refine_1 => exact side_w har hus hul (by subst har; show 0 ≤ iopS .sub .i64 i 16 ∧ iopS .sub .i64 i 16 < 64; rw [s16]; omega)
          refine get_wordJ har (i.toNat - 16) hus (by subst har; show iopS .sub .i64 i 16 = _; rw [s16]; omega) (by omega) fun y3 hy3 => ?_
          cbv
          repeat' (first | (with_reducible refine and_side ?_ ?_; rotate_left; try cbv))
          case refine_1 => exact side_w har hus hul (by subst har; show 0 ≤ iopS .sub .i64 i 7 ∧ iopS .sub .i64 i 7 < 64; rw [s7]; omega)
          refine get_wordJ har (i.toNat - 7) hus (by subst har; show iopS .sub .i64 i 7 = _; rw [s7]; omega) (by omega) fun y4 hy4 => ?_
          cbv
          repeat' (first | (intro; cbv) | (with_reducible refine and_side ?_ ?_; rotate_left; try cbv) | (refine ChkP.mk (by decide +kernel) ?_; cbv))
          case refine_2.refine_2.refine_2.refine_2.refine_2.refine_1 => exact side_w har hus hul ⟨by omega, by omega⟩
          case refine_2.refine_2.refine_2.refine_2.refine_2.refine_2.refine_1 => exact ⟨(side_w har hus hul ⟨by omega, by omega⟩).h.1⟩
          have hW : wI (wNext us i.toNat) = ar.iop .add .u32 (ar.iop .add .u32 (ar.iop .add .u32 y3 (ar.iop .xor .u32 (ar.iop .xor .u32 r7 r18) (ar.iop .shr .u32 y1 3))) y4) (ar.iop .xor .u32 (ar.iop .xor .u32 r17 r19) (ar.iop .shr .u32 y2 10)) := by
            subst har; subst hr7; subst hr18; subst hr17; subst hr19; subst hy1; subst hy2; subst hy3; subst hy4
            show _ = iopS .add .u32 (iopS .add .u32 (iopS .add .u32 (wI _) (iopS .xor .u32 (iopS .xor .u32 (wI _) (wI _)) (iopS .shr .u32 (wI _) 3))) (wI _)) (iopS .xor .u32 (iopS .xor .u32 (wI _) (wI _)) (iopS .shr .u32 (wI _) 10))
            rw [xor32, xor32, shr32 _ (k := 3) rfl (by decide), shr32 _ (k := 10) rfl (by decide), xor32, xor32, add32, add32, add32]
            rfl
          generalize hWW : ar.iop .add .u32 (ar.iop .add .u32 (ar.iop .add .u32 y3 (ar.iop .xor .u32 (ar.iop .xor .u32 r7 r18) (ar.iop .shr .u32 y1 3))) y4) (ar.iop .xor .u32 (ar.iop .xor .u32 r17 r19) (ar.iop .shr .u32 y2 10)) = WW at hW
          have hi : ar.iop .add .i64 i 1 = i + 1 := add_std har (by omega) (by omega)
          refine ⟨(us.set i.toNat (wNext us i.toNat), ar.setc uss i 0 [.int .u32 WW], i + 1), by rw [← hi, ← hWW]; kernel_rfl, ⟨?_, by dsimp only; omega, by dsimp only; omega, ?_⟩, by dsimp only; omega⟩
          · subst har; exact (encU_set hus hW).symm
          · rw [show (i + 1).toNat - 16 = (i.toNat - 16) + 1 by omega, sch2, ← huv, show 16 + (i.toNat - 16) = i.toNat by omega]
        case refine_2 =>
          have hi64e := ge_cmp har (by assumption)
          have hie : i.toNat - 16 = 48 := by omega
          rw [hie, hwv] at huv
          clear hi0 hi64 hi64e hie hwv hws hwl hwsl
          refine loop_start [7, 60] [] ?_
          cbv
          refine LoopR.mk (V8 × N8 × Int) (fun x => ([(13, .one (.t (.int .i64 x.2.2)))], [(19, .box [.t (.int .u32 x.2.1.a), .t (.int .u32 x.2.1.b), .t (.int .u32 x.2.1.c), .t (.int .u32 x.2.1.d), .t (.int .u32 x.2.1.e), .t (.int .u32 x.2.1.f), .t (.int .u32 x.2.1.g), .t (.int .u32 x.2.1.h)] false)]))
            (fun x => V8R x.1 x.2.1.a x.2.1.b x.2.1.c x.2.1.d x.2.1.e x.2.1.f x.2.1.g x.2.1.h ∧ 0 ≤ x.2.2 ∧ x.2.2 ≤ 64 ∧ x.1 = rnds kC us v x.2.2.toNat) (fun x => 64 - x.2.2.toNat) (v, ⟨a1, b1, c1, d1, e1, f1, g1, h1⟩, 0) ?e3 ?f3 ?g3
          case e3 => kernel_rfl
          case f3 => exact ⟨hv, Int.le_refl _, (by decide : (0 : Int) ≤ 64), rfl⟩
          case g3 =>
            intro x hx
            obtain ⟨u, ⟨a2, b2, c2, d2, e2, f2, g2, h2⟩, i⟩ := x
            have hu : V8R u a2 b2 c2 d2 e2 f2 g2 h2 := hx.1
            have hi0 : 0 ≤ i := hx.2.1
            have hi64 : i ≤ 64 := hx.2.2.1
            have huu : u = rnds kC us v i.toNat := hx.2.2.2
            clear hx
            obtain ⟨ua, ub, uc, ud, ue, uf, ug, uh⟩ := hu
            cbv
            repeat' (first | (refine br_intro ?_ ?_ <;> intro <;> cbv))
            case refine_1 =>
              have hlt := lt_cmp har (by assumption)
              repeat' (first | (intro; cbv) | (with_reducible refine and_side ?_ ?_; rotate_left; try cbv) | (refine ChkP.mk (by decide +kernel) ?_; cbv) | (refine calld_intro (sTurn hP (by assumption) (k := 6) (by decide) (by decide)) ?_; generalize hr6 : wI (rotr _ 6) = r6; cbv) | (refine calld_intro (sTurn hP (by assumption) (k := 11) (by decide) (by decide)) ?_; generalize hr11 : wI (rotr _ 11) = r11; cbv) | (refine calld_intro (sTurn hP (by assumption) (k := 25) (by decide) (by decide)) ?_; generalize hr25 : wI (rotr _ 25) = r25; cbv) | (refine calld_intro (sRound hP (by constructor <;> assumption)) ?_; generalize hrk : wI (wAt kC _) = rk; cbv))
              case refine_1 => exact side_w har hus hul ⟨hi0, hlt⟩
              refine get_wordJ har i.toNat hus (by omega) (by omega) fun yw hyw => ?_
              cbv
              repeat' (first | (intro; cbv) | (refine ChkP.mk (by decide +kernel) ?_; cbv) | (refine calld_intro (sTurn hP (by assumption) (k := 2) (by decide) (by decide)) ?_; generalize hr2 : wI (rotr _ 2) = r2; cbv) | (refine calld_intro (sTurn hP (by assumption) (k := 13) (by decide) (by decide)) ?_; generalize hr13 : wI (rotr _ 13) = r13; cbv) | (refine calld_intro (sTurn hP (by assumption) (k := 22) (by decide) (by decide)) ?_; generalize hr22 : wI (rotr _ 22) = r22; cbv))
              have hT : wI (u.h + bg1 u.e + ((u.e &&& u.f) ^^^ (~~~ u.e &&& u.g)) + wAt kC i.toNat + wAt us i.toNat) = ar.iop .add .u32 (ar.iop .add .u32 (ar.iop .add .u32 (ar.iop .add .u32 h2 (ar.iop .xor .u32 (ar.iop .xor .u32 r6 r11) r25)) (ar.iop .xor .u32 (ar.iop .and .u32 e2 f2) (ar.iop .and .u32 (ar.compl .u32 e2) g2))) rk) yw := by
                subst har; subst ua; subst ub; subst uc; subst ud; subst ue; subst uf; subst ug; subst uh; subst hr6; subst hr11; subst hr25; subst hrk; subst hyw
                show _ = iopS .add .u32 (iopS .add .u32 (iopS .add .u32 (iopS .add .u32 (wI _) (iopS .xor .u32 (iopS .xor .u32 (wI _) (wI _)) (wI _))) (iopS .xor .u32 (iopS .and .u32 (wI _) (wI _)) (iopS .and .u32 (std.compl .u32 (wI _)) (wI _)))) (wI _)) (wI _)
                rw [not32, xor32, xor32, and32, and32, xor32, add32, add32, add32, add32]
                rfl
              have hA : wI (u.h + bg1 u.e + ((u.e &&& u.f) ^^^ (~~~ u.e &&& u.g)) + wAt kC i.toNat + wAt us i.toNat + bg0 u.a + ((u.a &&& u.b) ^^^ (u.a &&& u.c) ^^^ (u.b &&& u.c))) = ar.iop .add .u32 (ar.iop .add .u32 (ar.iop .add .u32 (ar.iop .add .u32 (ar.iop .add .u32 (ar.iop .add .u32 h2 (ar.iop .xor .u32 (ar.iop .xor .u32 r6 r11) r25)) (ar.iop .xor .u32 (ar.iop .and .u32 e2 f2) (ar.iop .and .u32 (ar.compl .u32 e2) g2))) rk) yw) (ar.iop .xor .u32 (ar.iop .xor .u32 r2 r13) r22)) (ar.iop .xor .u32 (ar.iop .xor .u32 (ar.iop .and .u32 a2 b2) (ar.iop .and .u32 a2 c2)) (ar.iop .and .u32 b2 c2)) := by
                rw [← hT]
                subst har; subst ua; subst ub; subst uc; subst hr2; subst hr13; subst hr22
                show _ = iopS .add .u32 (iopS .add .u32 (wI _) (iopS .xor .u32 (iopS .xor .u32 (wI _) (wI _)) (wI _))) (iopS .xor .u32 (iopS .xor .u32 (iopS .and .u32 (wI _) (wI _)) (iopS .and .u32 (wI _) (wI _))) (iopS .and .u32 (wI _) (wI _)))
                rw [xor32, xor32, and32, and32, and32, xor32, xor32, add32, add32]
                rfl
              have hE : wI (u.d + (u.h + bg1 u.e + ((u.e &&& u.f) ^^^ (~~~ u.e &&& u.g)) + wAt kC i.toNat + wAt us i.toNat)) = ar.iop .add .u32 d2 (ar.iop .add .u32 (ar.iop .add .u32 (ar.iop .add .u32 (ar.iop .add .u32 h2 (ar.iop .xor .u32 (ar.iop .xor .u32 r6 r11) r25)) (ar.iop .xor .u32 (ar.iop .and .u32 e2 f2) (ar.iop .and .u32 (ar.compl .u32 e2) g2))) rk) yw) := by
                rw [← hT]
                subst har; subst ud
                show _ = iopS .add .u32 (wI _) (wI _)
                rw [add32]
              generalize hAA : ar.iop .add .u32 (ar.iop .add .u32 (ar.iop .add .u32 (ar.iop .add .u32 (ar.iop .add .u32 (ar.iop .add .u32 h2 (ar.iop .xor .u32 (ar.iop .xor .u32 r6 r11) r25)) (ar.iop .xor .u32 (ar.iop .and .u32 e2 f2) (ar.iop .and .u32 (ar.compl .u32 e2) g2))) rk) yw) (ar.iop .xor .u32 (ar.iop .xor .u32 r2 r13) r22)) (ar.iop .xor .u32 (ar.iop .xor .u32 (ar.iop .and .u32 a2 b2) (ar.iop .and .u32 a2 c2)) (ar.iop .and .u32 b2 c2)) = AA at hA
              generalize hEE : ar.iop .add .u32 d2 (ar.iop .add .u32 (ar.iop .add .u32 (ar.iop .add .u32 (ar.iop .add .u32 h2 (ar.iop .xor .u32 (ar.iop .xor .u32 r6 r11) r25)) (ar.iop .xor .u32 (ar.iop .and .u32 e2 f2) (ar.iop .and .u32 (ar.compl .u32 e2) g2))) rk) yw) = EE at hE
              have hi : ar.iop .add .i64 i 1 = i + 1 := add_std har (by omega) (by omega)
              refine ⟨(rnd u (wAt kC i.toNat) (wAt us i.toNat), ⟨AA, a2, b2, c2, EE, e2, f2, g2⟩, i + 1), by rw [← hi, ← hAA, ← hEE]; kernel_rfl, ⟨⟨hA, ua, ub, uc, hE, ue, uf, ug⟩, by dsimp only; omega, by dsimp only; omega, ?_⟩, by dsimp only; omega⟩
              rw [show (i + 1).toNat = i.toNat + 1 by omega, rnds, ← huu]
            case refine_2 =>
              have hi64e := ge_cmp har (by assumption)
              have hie : i.toNat = 64 := by omega
              rw [hie] at huu
              clear hi0 hi64 hi64e hie
              refine loop_start [13, 104, 5, 1] [] ?_
              cbv
              refine LoopR.mk (Int × Nat) (fun x => ([(19, .one (.t (.int .i64 x.1)))], [(16, .box (mixC x.2 ⟨a1, b1, c1, d1, e1, f1, g1, h1⟩ ⟨ar.iop .add .u32 a1 a2, ar.iop .add .u32 b1 b2, ar.iop .add .u32 c1 c2, ar.iop .add .u32 d1 d2, ar.iop .add .u32 e1 e2, ar.iop .add .u32 f1 f2, ar.iop .add .u32 g1 g2, ar.iop .add .u32 h1 h2⟩) false)]))
                (fun x => 0 ≤ x.1 ∧ x.1.toNat = x.2 ∧ x.2 ≤ 8) (fun x => 8 - x.2) (0, 0) ?e4 ?f4 ?g4
              case e4 => kernel_rfl
              case f4 => exact ⟨Int.le_refl _, rfl, Nat.zero_le _⟩
              case g4 =>
                intro x hx
                obtain ⟨i, n⟩ := x
                have hi0 : 0 ≤ i := hx.1
                have hin : i.toNat = n := hx.2.1
                have hn8 : n ≤ 8 := hx.2.2
                clear hx
                have hcase := nine hi0 hin hn8
                clear hi0 hin hn8
                rcases hcase with ⟨rfl, rfl⟩ | ⟨rfl, rfl⟩ | ⟨rfl, rfl⟩ | ⟨rfl, rfl⟩ | ⟨rfl, rfl⟩ | ⟨rfl, rfl⟩ | ⟨rfl, rfl⟩ | ⟨rfl, rfl⟩ | ⟨rfl, rfl⟩
                all_goals cbv
                all_goals (repeat' (first | (intro; cbv) | (refine ChkP.mk (by decide +kernel) ?_; cbv) | (refine br_intro ?_ ?_ <;> intro <;> cbv)))
                case inl.refine_1 => exact ⟨(ar.iop .add .i64 0 1, 1), by kernel_rfl, ⟨by subst har; decide +kernel, by subst har; decide +kernel, by dsimp only; omega⟩, by dsimp only; omega⟩
                case inl.refine_2 => exact absurd (by assumption : ar.icmp .lss 0 8 = false) (by subst har; decide)
                case inr.inl.refine_1 => exact ⟨(ar.iop .add .i64 1 1, 2), by kernel_rfl, ⟨by subst har; decide +kernel, by subst har; decide +kernel, by dsimp only; omega⟩, by dsimp only; omega⟩
                case inr.inl.refine_2 => exact absurd (by assumption : ar.icmp .lss 1 8 = false) (by subst har; decide)
                case inr.inr.inl.refine_1 => exact ⟨(ar.iop .add .i64 2 1, 3), by kernel_rfl, ⟨by subst har; decide +kernel, by subst har; decide +kernel, by dsimp only; omega⟩, by dsimp only; omega⟩
                case inr.inr.inl.refine_2 => exact absurd (by assumption : ar.icmp .lss 2 8 = false) (by subst har; decide)
                case inr.inr.inr.inl.refine_1 => exact ⟨(ar.iop .add .i64 3 1, 4), by kernel_rfl, ⟨by subst har; decide +kernel, by subst har; decide +kernel, by dsimp only; omega⟩, by dsimp only; omega⟩
                case inr.inr.inr.inl.refine_2 => exact absurd (by assumption : ar.icmp .lss 3 8 = false) (by subst har; decide)
                case inr.inr.inr.inr.inl.refine_1 => exact ⟨(ar.iop .add .i64 4 1, 5), by kernel_rfl, ⟨by subst har; decide +kernel, by subst har; decide +kernel, by dsimp only; omega⟩, by dsimp only; omega⟩
                case inr.inr.inr.inr.inl.refine_2 => exact absurd (by assumption : ar.icmp .lss 4 8 = false) (by subst har; decide)
                case inr.inr.inr.inr.inr.inl.refine_1 => exact ⟨(ar.iop .add .i64 5 1, 6), by kernel_rfl, ⟨by subst har; decide +kernel, by subst har; decide +kernel, by dsimp only; omega⟩, by dsimp only; omega⟩
                case inr.inr.inr.inr.inr.inl.refine_2 => exact absurd (by assumption : ar.icmp .lss 5 8 = false) (by subst har; decide)
                case inr.inr.inr.inr.inr.inr.inl.refine_1 => exact ⟨(ar.iop .add .i64 6 1, 7), by kernel_rfl, ⟨by subst har; decide +kernel, by subst har; decide +kernel, by dsimp only; omega⟩, by dsimp only; omega⟩
                case inr.inr.inr.inr.inr.inr.inl.refine_2 => exact absurd (by assumption : ar.icmp .lss 6 8 = false) (by subst har; decide)
                case inr.inr.inr.inr.inr.inr.inr.inl.refine_1 => exact ⟨(ar.iop .add .i64 7 1, 8), by kernel_rfl, ⟨by subst har; decide +kernel, by subst har; decide +kernel, by dsimp only; omega⟩, by dsimp only; omega⟩
                case inr.inr.inr.inr.inr.inr.inr.inl.refine_2 => exact absurd (by assumption : ar.icmp .lss 7 8 = false) (by subst har; decide)
                case inr.inr.inr.inr.inr.inr.inr.inr.refine_1 => exact absurd (by assumption : ar.icmp .lss 8 8 = true) (by subst har; decide)
                case inr.inr.inr.inr.inr.inr.inr.inr.refine_2 =>
                  subst hKK
                  have hbv : blockV kC v b = v.add u := by rw [huu, huv]; rfl
                  refine ⟨⟨⟨ar.iop .add .u32 a1 a2, ar.iop .add .u32 b1 b2, ar.iop .add .u32 c1 c2, ar.iop .add .u32 d1 d2, ar.iop .add .u32 e1 e2, ar.iop .add .u32 f1 f2, ar.iop .add .u32 g1 g2, ar.iop .add .u32 h1 h2⟩, ?_, rfl, rfl⟩⟩
                  rw [hbv]
                  subst har
                  exact ⟨by show wI (v.a + u.a) = iopS .add .u32 a1 a2; rw [← hv.a, ← ua, add32], by show wI (v.b + u.b) = iopS .add .u32 b1 b2; rw [← hv.b, ← ub, add32], by show wI (v.c + u.c) = iopS .add .u32 c1 c2; rw [← hv.c, ← uc, add32], by show wI (v.d + u.d) = iopS .add .u32 d1 d2; rw [← hv.d, ← ud, add32], by show wI (v.e + u.e) = iopS .add .u32 e1 e2; rw [← hv.e, ← ue, add32], by show wI (v.f + u.f) = iopS .add .u32 f1 f2; rw [← hv.f, ← uf, add32], by show wI (v.g + u.g) = iopS .add .u32 g1 g2; rw [← hv.g, ← ug, add32], by show wI (v.h + u.h) = iopS .add .u32 h1 h2; rw [← hv.h, ← uh, add32]⟩
end Go.TL.Tryz

/- TfShT -/
namespace Go.TL.Tryz
open Go Go.TL Go.Proofs
set_option maxRecDepth 20000
variable {P : Program}
def cellsV8 (v : V8) : List V := [.t (.int .u32 (wI v.a)), .t (.int .u32 (wI v.b)), .t (.int .u32 (wI v.c)), .t (.int .u32 (wI v.d)), .t (.int .u32 (wI v.e)), .t (.int .u32 (wI v.f)), .t (.int .u32 (wI v.g)), .t (.int .u32 (wI v.h))]
theorem sBlockD (hP : Prg P) {v : V8} {a1 b1 c1 d1 e1 f1 g1 h1 : Int} (hv : V8R v a1 b1 c1 d1 e1 f1 g1 h1) {b : List UInt8} {bs : List (List T)} (hb : encB b = bs) (hbl : b.length = 64) :
    ACall P 143 [.agg [.t (.int .u32 a1), .t (.int .u32 b1), .t (.int .u32 c1), .t (.int .u32 d1), .t (.int .u32 e1), .t (.int .u32 f1), .t (.int .u32 g1), .t (.int .u32 h1)], .one (.t (.sl bs))] [] (fun r ob => r = .agg (cellsV8 (blockV kC v b)) ∧ ob = []) :=
  (sBlock hP hv hb hbl).mono fun r ob ⟨n, hn, h1, h2⟩ => ⟨by rw [h1, cellsV8, hn.a, hn.b, hn.c, hn.d, hn.e, hn.f, hn.g, hn.h], h2⟩
theorem rem64 {ar : Ar} (har : ar = std) {es : List (List T)} {n : Nat} (h : es.length = n) {c : Bool} (hc : ar.icmp .neq (ar.iop .rem .i64 (ar.len es) 64) 56 = c) : decide (n % 64 ≠ 56) = c := by
  subst har
  have hc : ((es.length : Int).tmod 64 != 56) = c := hc
  rw [Int.tmod_eq_emod_of_nonneg (by omega)] at hc
  rw [← hc, Bool.eq_iff_iff]
  simp
  omega
theorem byte_shr {n : Nat} {j : Nat} (h : j ≤ 56) : byteOf (iopS .shr .i64 (n : Int) (j : Int)) = UInt8.ofNat (n / 2 ^ j) := by
  have e : iopS .shr .i64 (n : Int) (j : Int) = ((n / 2 ^ j : Nat) : Int) := by
    show (n : Int).fdiv (2 ^ (min (j : Int).toNat 64)) = _
    rw [Int.toNat_natCast, Nat.min_eq_left (by omega)]
    have e : (2 : Int) ^ j = ((2 ^ j : Nat) : Int) := by simp
    rw [e]
    exact (Int.ofNat_fdiv _ _).symm
  rw [e]
  apply UInt8.toNat_inj.1
  simp only [byteOf, UInt8.toNat_ofNat']
  omega
/-- The bytes of a length. -/
theorem be8_at {n : Nat} (hn : n < 4294967296) {k : Nat} (hk : k < 8) : (be8 n)[k]? = some (byteOf (iopS .shr .i64 (n : Int) ((8 * (7 - k) : Nat) : Int))) := by
  rw [byte_shr (by omega)]
  have hc : k = 0 ∨ k = 1 ∨ k = 2 ∨ k = 3 ∨ k = 4 ∨ k = 5 ∨ k = 6 ∨ k = 7 := by omega
  rcases hc with rfl | rfl | rfl | rfl | rfl | rfl | rfl | rfl
  · show some 0 = some (UInt8.ofNat (n / 2 ^ 56)); rw [show n / 2 ^ 56 = 0 by omega]; rfl
  · show some 0 = some (UInt8.ofNat (n / 2 ^ 48)); rw [show n / 2 ^ 48 = 0 by omega]; rfl
  · show some 0 = some (UInt8.ofNat (n / 2 ^ 40)); rw [show n / 2 ^ 40 = 0 by omega]; rfl
  · show some 0 = some (UInt8.ofNat (n / 2 ^ 32)); rw [show n / 2 ^ 32 = 0 by omega]; rfl
  · rfl
  · rfl
  · rfl
  · show some (UInt8.ofNat n) = some (UInt8.ofNat (n / 2 ^ 0)); rw [show n / 2 ^ 0 = n by omega]
theorem take_at {α : Type} {l : List α} {k : Nat} {x : α} (h : l[k]? = some x) : l.take (k + 1) = l.take k ++ [x] := by rw [List.take_add_one, h]; rfl
theorem byteN (n : Nat) : (((UInt8.ofNat n).toNat : Nat) : Int) = IntKind.u8.wrap (n : Int) := by
  simp only [UInt8.toNat_ofNat', IntKind.wrap, IntKind.signed, IntKind.bits]
  simp
theorem shrW (w : Wd) {j : Nat} (hj : j ≤ 32) : std.iop .shr .u32 (wI w) (j : Int) = ((w.toNat / 2 ^ j : Nat) : Int) := by
  show iopS .shr .u32 (wI w) (j : Int) = _
  rw [shr32 w (k := j) (by simp) hj]
  simp [wI, BitVec.toNat_ushiftRight, Nat.shiftRight_eq_div_pow]
theorem w4_enc {ar : Ar} (har : ar = std) (w : Wd) {x : Int} (hx : wI w = x) : encB (w4 w) = [[.int .u8 (ar.conv .u8 (ar.iop .shr .u32 x 24))], [.int .u8 (ar.conv .u8 (ar.iop .shr .u32 x 16))], [.int .u8 (ar.conv .u8 (ar.iop .shr .u32 x 8))], [.int .u8 (ar.conv .u8 x)]] := by
  subst har; subst hx
  rw [show (24 : Int) = ((24 : Nat) : Int) from rfl, show (16 : Int) = ((16 : Nat) : Int) from rfl, show (8 : Int) = ((8 : Nat) : Int) from rfl, shrW w (by decide), shrW w (by decide), shrW w (by decide)]
  show encB [UInt8.ofNat (w.toNat / 2 ^ 24), UInt8.ofNat (w.toNat / 2 ^ 16), UInt8.ofNat (w.toNat / 2 ^ 8), UInt8.ofNat w.toNat] = _
  simp only [encB, List.map_cons, List.map_nil, byteN]
  rfl
set_option maxRecDepth 20000 in
theorem fn104 : Tryz.prog.funcs[104]? = some Tryz.f104 := rfl
set_option maxHeartbeats 40000000 in
set_option maxRecDepth 3000 in
theorem sSum (hP : Prg P) {b : List UInt8} {bs : List (List T)} (hb : encB b = bs) (hbl : b.length ≤ 1000000) : ACall P 104 [.one (.t (.sl bs))] [] (fun r ob => r = .one (.row 32 0) ∧ ob = [(32, .row 1 (encB (sumV kC hC b)) 0 [0] false)]) := by
  generalize hKK : (fun (r : A) (ob : Obs) => r = A.one (V.row 32 0) ∧ ob = [(32, Ob.row 1 (encB (sumV kC hC b)) 0 [0] false)]) = K
  have hll := encB_len hb
  refine acall_fn (md := md) [some [(0, 1)]] v104 hP.mixed hP.tab (fn_at hP fn104) 1 rfl (by decide +kernel) rfl ?_
  intro ar har
  cbv
  repeat' (first | (with_reducible refine and_side ?_ ?_; rotate_left; try cbv) | (exact side_app0 har (by assumption) (by omega)))
  case refine_2.refine_1 => exact ⟨by subst har; simp [std]; omega, by subst har; exact wid_one _⟩
  refine loop_start [] [] ?_
  cbv
  refine LoopR.mk (List (List T) × Nat) (fun x => ([], [(16, .row 1 x.1 0 [0] false)])) (fun x => encB (b ++ [128] ++ List.replicate x.2 0) = x.1 ∧ x.2 ≤ padN b.length) (fun x => padN b.length - x.2) (ar.app (ar.app [] bs) [[.int .u8 128]], 0) ?e ?f ?g
  case e => kernel_rfl
  case f => exact ⟨by subst har; subst hb; simp [std, encB], Nat.zero_le _⟩
  case g =>
    intro x hx
    obtain ⟨es, z⟩ := x
    have hes : encB (b ++ [128] ++ List.replicate z 0) = es := hx.1
    have hz : z ≤ padN b.length := hx.2
    have hesl : es.length = b.length + 1 + z := by rw [encB_len hes]; simp; omega
    have hpl := padN_lt b.length
    clear hx
    cbv
    repeat' (first | (intro; cbv) | (with_reducible refine and_side ?_ ?_; rotate_left; try cbv) | (refine br_intro ?_ ?_ <;> intro <;> cbv))
    case refine_1 => exact ⟨by subst har; show (64 : Int) ≠ 0; decide⟩
    case refine_2.refine_1.refine_1 => exact side_one har hes (by simp; omega)
    case refine_2.refine_1.refine_2 =>
      have hr := rem64 har hesl (by assumption : _ = true)
      have hzl : z < padN b.length := by
        have hr := of_decide_eq_true hr
        have := padN_spec b.length
        rcases Nat.lt_or_ge z (padN b.length) with h | h
        · exact h
        · exact absurd (by rw [show z = padN b.length by omega]; exact this) hr
      refine ⟨(ar.app es [[.int .u8 0]], z + 1), by kernel_rfl, ⟨?_, hzl⟩, by dsimp only; omega⟩
      show encB (b ++ [128] ++ List.replicate (z + 1) 0) = _
      subst har
      rw [List.replicate_succ', ← List.append_assoc]
      exact enc_app hes rfl
    case refine_2.refine_2 =>
      have hr := rem64 har hesl (by assumption : _ = false)
      have hr := of_decide_eq_false hr
      have hzp : z = padN b.length := padN_least (by omega) hz
      have hpad : encB (padB b) = es := by rw [← hes, hzp]; rfl
      clear hr hz hes
      have hnn : ar.iop .mul .i64 (ar.len bs) 8 = ((8 * b.length : Nat) : Int) := by
        subst har
        show iopS .mul .i64 (bs.length : Int) 8 = _
        rw [hll, show iopS .mul .i64 (b.length : Int) 8 = (b.length : Int) * 8 from mulI (by omega) (by omega)]; omega
      have hby : ∀ (k : Nat) (i : Int), k < 8 → ((8 * (7 - k) : Nat) : Int) = ar.iop .mul .i64 8 i → encB [byteOf (iopS .shr .i64 ((8 * b.length : Nat) : Int) ((8 * (7 - k) : Nat) : Int))] = [[.int .u8 (ar.conv .u8 (ar.iop .shr .i64 (ar.iop .mul .i64 (ar.len bs) 8) (ar.iop .mul .i64 8 i)))]] := by
        intro k i hk he
        rw [he, hnn, enc_byteOf]
        subst har; rfl
      have hat : ∀ k, k < 8 → (be8 (8 * b.length))[k]? = some (byteOf (iopS .shr .i64 ((8 * b.length : Nat) : Int) ((8 * (7 - k) : Nat) : Int))) := fun k hk => be8_at (by omega) hk
      refine loop_start [18] [] ?_
      cbv
      refine LoopR.mk (List (List T) × Int × Nat) (fun x => ([(5, .one (.t (.int .i64 x.2.1)))], [(16, .row 1 x.1 0 [0] false)])) (fun x => encB (padB b ++ (be8 (8 * b.length)).take x.2.2) = x.1 ∧ x.2.2 ≤ 8 ∧ (7 - x.2.1).toNat = x.2.2 ∧ -1 ≤ x.2.1 ∧ x.2.1 ≤ 7) (fun x => 8 - x.2.2) (es, 7, 0) ?e2 ?f2 ?g2
      case e2 => kernel_rfl
      case f2 => exact ⟨by rw [← hpad]; simp, Nat.zero_le _, rfl, by show (-1 : Int) ≤ 7; decide, Int.le_refl _⟩
      case g2 =>
        intro x hx
        obtain ⟨als, i, k⟩ := x
        have hals : encB (padB b ++ (be8 (8 * b.length)).take k) = als := hx.1
        have hk8 : k ≤ 8 := hx.2.1
        have hik : (7 - i).toNat = k := hx.2.2.1
        have hi1 : -1 ≤ i := hx.2.2.2.1
        have hi7 : i ≤ 7 := hx.2.2.2.2
        have hasl : als.length ≤ 1000200 := by rw [encB_len hals, List.length_append, padB_len, List.length_take]; simp only [be8, List.length_cons, List.length_nil]; omega
        have hst : ∀ (t : List (List T)), k < 8 → encB [byteOf (iopS .shr .i64 ((8 * b.length : Nat) : Int) ((8 * (7 - k) : Nat) : Int))] = t → encB (padB b ++ (be8 (8 * b.length)).take (k + 1)) = als ++ t := fun t hk ht => by
          rw [take_at (hat k hk), ← List.append_assoc]; exact enc_app hals ht
        have hmi : k < 8 → ((8 * (7 - k) : Nat) : Int) = ar.iop .mul .i64 8 i := fun hk => by
          subst har; show _ = iopS .mul .i64 8 i; rw [show iopS .mul .i64 8 i = 8 * i from mulI (by omega) (by omega)]; omega
        clear hx hat
        cbv
        repeat' (first | (intro; cbv) | (with_reducible refine and_side ?_ ?_; rotate_left; try cbv) | (refine br_intro ?_ ?_ <;> intro <;> cbv))
        case refine_1.refine_1 =>
          have hi := geq_t har (by assumption : ar.icmp .geq i 0 = true)
          exact ⟨by show ar.shok (ar.iop .mul .i64 8 i); rw [← hmi (by omega)]; subst har; exact Int.natCast_nonneg _⟩
        case refine_1.refine_2.refine_1 => exact ⟨by subst har; simp [std]; omega, by subst har; exact wid_one _⟩
        case refine_1.refine_2.refine_2 =>
          have hi := geq_t har (by assumption : ar.icmp .geq i 0 = true)
          have e1 := sub_std har (a := i) (b := 1) (by omega) (by omega)
          have hb8 := hst _ (by omega) (hby k i (by omega) (hmi (by omega)))
          refine ⟨(ar.app als [[.int .u8 (ar.conv .u8 (ar.iop .shr .i64 (ar.iop .mul .i64 (ar.len bs) 8) (ar.iop .mul .i64 8 i)))]], i - 1, k + 1), by rw [← e1]; kernel_rfl, ⟨?_, by dsimp only; omega, by dsimp only; omega, by dsimp only; omega, by dsimp only; omega⟩, by dsimp only; omega⟩
          show encB (padB b ++ (be8 (8 * b.length)).take (k + 1)) = ar.app als _
          subst har
          exact hb8
        case refine_2 =>
          have hi := geq_f har (by assumption : ar.icmp .geq i 0 = false)
          have hk : k = 8 := by omega
          have hall : encB (allB b) = als := by rw [← hals, hk]; rfl
          have halln := allB_64 b
          have halll : als.length = (allB b).length := encB_len hall
          have hall2 : (allB b).length ≤ 1000200 := by omega
          clear hst hmi hals hby hnn hik hpad hesl
          refine call_intro (sFirst hP) ?_
          rintro r ob ⟨rfl, rfl⟩
          cbv
          repeat' (first | (intro; cbv) | (with_reducible refine and_side ?_ ?_; rotate_left; try cbv) | (refine ChkP.mk (by decide +kernel) ?_; cbv) | (refine br_intro ?_ ?_ <;> intro <;> cbv) | (refine get_at har (by assumption) (by assumption) (by assumption) (by assumption) ?_; cbv) | (refine get_lt har (by assumption) (by assumption) (by assumption) ?_; intro x xx hx hxx; cbv) | (refine get_atN har (by assumption) (by assumption) (by assumption) (by assumption) ?_; cbv) | (refine get_ltN har (by assumption) (by assumption) (by assumption) ?_; intro x xx hx hxx; cbv) | (refine get_atI har (by assumption) (by assumption) (by decide) ?_; cbv) | (refine get_twoA har (by assumption) (by assumption) (by decide) ?_; intro x hx; cbv) | (refine get_twoB har (by assumption) (by assumption) (by decide) ?_; intro x hx; cbv) | (refine bytes_intro (by assumption) ?_; cbv) | (exact side_lt har (by assumption) (by assumption)) | (exact side_inb har (by assumption) (by assumption) (by assumption)) | (exact side_sh har (by decide)) | (exact side_app har (by assumption) (by assumption) (by omega)) | (exact side_app0 har (by assumption) (by omega)) | (exact side_new har (by assumption) (by omega)) | (exact side_one har (by assumption) (by omega)) | (exact side_oneN har (by assumption) (by omega)) | (exact side_flat har (by assumption)) | (exact side_sbig har (by omega)) | (refine side_sbig har ?_; simp; done) | (exact side_oneI har (by assumption) (by omega)) | (refine side_ix har ?_; simp; done) | (refine side_ix har ?_; simp; omega))
          refine loop_start [18, 26] [.tree 3] ?_
          cbv
          refine LoopR.mk (V8 × N8 × Int × Nat) (fun x => ([(7, .one (.t (.int .i64 x.2.2.1)))], [(16, .box [.t (.int .u32 x.2.1.a), .t (.int .u32 x.2.1.b), .t (.int .u32 x.2.1.c), .t (.int .u32 x.2.1.d), .t (.int .u32 x.2.1.e), .t (.int .u32 x.2.1.f), .t (.int .u32 x.2.1.g), .t (.int .u32 x.2.1.h)] false)]))
            (fun x => V8R x.1 x.2.1.a x.2.1.b x.2.1.c x.2.1.d x.2.1.e x.2.1.f x.2.1.g x.2.1.h ∧ 0 ≤ x.2.2.1 ∧ x.2.2.1.toNat = 64 * x.2.2.2 ∧ x.2.2.1.toNat ≤ (allB b).length ∧ x.1 = hashN kC hC (allB b) x.2.2.2) (fun x => (allB b).length - x.2.2.1.toNat) (hC, ⟨1779033703, 3144134277, 1013904242, 2773480762, 1359893119, 2600822924, 528734635, 1541459225⟩, 0, 0) ?e3 ?f3 ?g3
          case e3 => kernel_rfl
          case f3 => exact ⟨⟨rfl, rfl, rfl, rfl, rfl, rfl, rfl, rfl⟩, Int.le_refl _, rfl, Nat.zero_le _, rfl⟩
          case g3 =>
            intro x hx
            obtain ⟨u, ⟨a2, b2, c2, d2, e2, f2, g2, h2⟩, i, k⟩ := x
            have hu : V8R u a2 b2 c2 d2 e2 f2 g2 h2 := hx.1
            have hi0 : 0 ≤ i := hx.2.1
            have hi64 : i.toNat = 64 * k := hx.2.2.1
            have hil : i.toNat ≤ (allB b).length := hx.2.2.2.1
            have huu : u = hashN kC hC (allB b) k := hx.2.2.2.2
            clear hx
            cbv
            repeat' (first | (intro; cbv) | (with_reducible refine and_side ?_ ?_; rotate_left; try cbv) | (refine br_intro ?_ ?_ <;> intro <;> cbv))
            case refine_1.refine_1 =>
              have hlt := lt_len har (by assumption : ar.icmp .lss i (ar.len als) = true) hi0
              have e1 : ar.iop .add .i64 i 64 = i + 64 := add_std har (by omega) (by omega)
              refine ⟨⟨?_, by rw [← hall]; subst har; exact wid_byte _⟩⟩
              show ar.insub i (ar.iop .add .i64 i 64) als
              rw [e1]
              subst har
              exact ⟨hi0, by omega, by omega⟩
            case refine_1.refine_2 =>
              have hlt := lt_len har (by assumption : ar.icmp .lss i (ar.len als) = true) hi0
              have e1 : ar.iop .add .i64 i 64 = i + 64 := add_std har (by omega) (by omega)
              have hsub : encB (((allB b).drop (64 * k)).take 64) = ar.sub als i (ar.iop .add .i64 i 64) := by
                rw [e1, ← hall]
                subst har
                show _ = ((encB (allB b)).take (i + 64).toNat).drop i.toNat
                simp only [encB, ← List.map_take, ← List.map_drop]
                rw [List.drop_take, hi64, show (i + 64).toNat - 64 * k = 64 by omega]
              refine calld_intro (sBlockD hP hu hsub (by simp; omega)) ?_
              generalize hw : blockV kC u (((allB b).drop (64 * k)).take 64) = w
              unfold cellsV8
              generalize hza : wI w.a = za
              generalize hzb : wI w.b = zb
              generalize hzc : wI w.c = zc
              generalize hzd : wI w.d = zd
              generalize hze : wI w.e = ze
              generalize hzf : wI w.f = zf
              generalize hzg : wI w.g = zg
              generalize hzh : wI w.h = zh
              cbv
              repeat' (first | (intro; cbv) | (refine ChkP.mk (by decide +kernel) ?_; cbv))
              refine ⟨(w, ⟨za, zb, zc, zd, ze, zf, zg, zh⟩, i + 64, k + 1), by rw [← e1]; kernel_rfl, ⟨⟨hza, hzb, hzc, hzd, hze, hzf, hzg, hzh⟩, by dsimp only; omega, by dsimp only; omega, by dsimp only; omega, by rw [← hw, huu]; rfl⟩, by dsimp only; omega⟩
            case refine_2 =>
              have hend := ge_len har (by assumption : ar.icmp .lss i (ar.len als) = false) hi0
              have hkk : k = (allB b).length / 64 := by omega
              rw [hkk] at huu
              have hfin : encB u.bytes = encB (sumV kC hC b) := by rw [huu]; rfl
              obtain ⟨ua, ub, uc, ud, ue, uf, ug, uh⟩ := hu
              refine loop_start [18, 26, 41, 7, 5] [.tmp 8 0 1 12] ?_
              cbv
              refine LoopR.mk (List (List T) × Int × Nat) (fun x => ([(9, .one (.t (.int .i64 x.2.1)))], [(17, .row 1 x.1 0 [0] false)])) (fun x => encB (u.bytes.take (4 * x.2.2)) = x.1 ∧ 0 ≤ x.2.1 ∧ x.2.1.toNat = x.2.2 ∧ x.2.2 ≤ 8) (fun x => 8 - x.2.2) ([], 0, 0) ?e4 ?f4 ?g4
              case e4 => kernel_rfl
              case f4 => exact ⟨rfl, Int.le_refl _, rfl, Nat.zero_le _⟩
              case g4 =>
                intro x hx
                obtain ⟨es4, i, k⟩ := x
                have hes : encB (u.bytes.take (4 * k)) = es4 := hx.1
                have hi0 : 0 ≤ i := hx.2.1
                have hik : i.toNat = k := hx.2.2.1
                have hk8 : k ≤ 8 := hx.2.2.2
                have hesl : es4.length ≤ 32 := by rw [encB_len hes, List.length_take, bytes_len]; omega
                clear hx
                have hcase := nine hi0 hik hk8
                clear hi0 hik hk8
                rcases hcase with ⟨rfl, rfl⟩ | ⟨rfl, rfl⟩ | ⟨rfl, rfl⟩ | ⟨rfl, rfl⟩ | ⟨rfl, rfl⟩ | ⟨rfl, rfl⟩ | ⟨rfl, rfl⟩ | ⟨rfl, rfl⟩ | ⟨rfl, rfl⟩
                all_goals cbv
                all_goals (repeat' (first | (intro; cbv) | (with_reducible refine and_side ?_ ?_; rotate_left; try cbv) | (refine ChkP.mk (by decide +kernel) ?_; cbv) | (refine br_intro ?_ ?_ <;> intro <;> cbv) | (exact side_sh har (by decide))))
                case inl.refine_1.refine_2.refine_2.refine_2.refine_1 => exact ⟨by subst har; simp [std]; omega, by subst har; intro y hy; simp at hy; rcases hy with rfl | rfl | rfl | rfl <;> rfl⟩
                case inl.refine_1.refine_2.refine_2.refine_2.refine_2 => exact ⟨(ar.app es4 [[.int .u8 (ar.conv .u8 (ar.iop .shr .u32 a2 24))], [.int .u8 (ar.conv .u8 (ar.iop .shr .u32 a2 16))], [.int .u8 (ar.conv .u8 (ar.iop .shr .u32 a2 8))], [.int .u8 (ar.conv .u8 a2)]], ar.iop .add .i64 0 1, 1), by kernel_rfl, ⟨by show encB (u.bytes.take (4 * 1)) = _; rw [show u.bytes.take (4 * 1) = u.bytes.take (4 * 0) ++ w4 u.a from rfl, enc_app hes (w4_enc har u.a ua)]; subst har; rfl, by show (0 : Int) ≤ ar.iop .add .i64 0 1; subst har; decide +kernel, by show (ar.iop .add .i64 0 1).toNat = 1; subst har; decide +kernel, by dsimp only; omega⟩, by dsimp only; omega⟩
                case inl.refine_2 => exact absurd (by assumption : ar.icmp .lss 0 8 = false) (by subst har; decide)
                case inr.inl.refine_1.refine_2.refine_2.refine_2.refine_1 => exact ⟨by subst har; simp [std]; omega, by subst har; intro y hy; simp at hy; rcases hy with rfl | rfl | rfl | rfl <;> rfl⟩
                case inr.inl.refine_1.refine_2.refine_2.refine_2.refine_2 => exact ⟨(ar.app es4 [[.int .u8 (ar.conv .u8 (ar.iop .shr .u32 b2 24))], [.int .u8 (ar.conv .u8 (ar.iop .shr .u32 b2 16))], [.int .u8 (ar.conv .u8 (ar.iop .shr .u32 b2 8))], [.int .u8 (ar.conv .u8 b2)]], ar.iop .add .i64 1 1, 2), by kernel_rfl, ⟨by show encB (u.bytes.take (4 * 2)) = _; rw [show u.bytes.take (4 * 2) = u.bytes.take (4 * 1) ++ w4 u.b from rfl, enc_app hes (w4_enc har u.b ub)]; subst har; rfl, by show (0 : Int) ≤ ar.iop .add .i64 1 1; subst har; decide +kernel, by show (ar.iop .add .i64 1 1).toNat = 2; subst har; decide +kernel, by dsimp only; omega⟩, by dsimp only; omega⟩
                case inr.inl.refine_2 => exact absurd (by assumption : ar.icmp .lss 1 8 = false) (by subst har; decide)
                case inr.inr.inl.refine_1.refine_2.refine_2.refine_2.refine_1 => exact ⟨by subst har; simp [std]; omega, by subst har; intro y hy; simp at hy; rcases hy with rfl | rfl | rfl | rfl <;> rfl⟩
                case inr.inr.inl.refine_1.refine_2.refine_2.refine_2.refine_2 => exact ⟨(ar.app es4 [[.int .u8 (ar.conv .u8 (ar.iop .shr .u32 c2 24))], [.int .u8 (ar.conv .u8 (ar.iop .shr .u32 c2 16))], [.int .u8 (ar.conv .u8 (ar.iop .shr .u32 c2 8))], [.int .u8 (ar.conv .u8 c2)]], ar.iop .add .i64 2 1, 3), by kernel_rfl, ⟨by show encB (u.bytes.take (4 * 3)) = _; rw [show u.bytes.take (4 * 3) = u.bytes.take (4 * 2) ++ w4 u.c from rfl, enc_app hes (w4_enc har u.c uc)]; subst har; rfl, by show (0 : Int) ≤ ar.iop .add .i64 2 1; subst har; decide +kernel, by show (ar.iop .add .i64 2 1).toNat = 3; subst har; decide +kernel, by dsimp only; omega⟩, by dsimp only; omega⟩
                case inr.inr.inl.refine_2 => exact absurd (by assumption : ar.icmp .lss 2 8 = false) (by subst har; decide)
                case inr.inr.inr.inl.refine_1.refine_2.refine_2.refine_2.refine_1 => exact ⟨by subst har; simp [std]; omega, by subst har; intro y hy; simp at hy; rcases hy with rfl | rfl | rfl | rfl <;> rfl⟩
                case inr.inr.inr.inl.refine_1.refine_2.refine_2.refine_2.refine_2 => exact ⟨(ar.app es4 [[.int .u8 (ar.conv .u8 (ar.iop .shr .u32 d2 24))], [.int .u8 (ar.conv .u8 (ar.iop .shr .u32 d2 16))], [.int .u8 (ar.conv .u8 (ar.iop .shr .u32 d2 8))], [.int .u8 (ar.conv .u8 d2)]], ar.iop .add .i64 3 1, 4), by kernel_rfl, ⟨by show encB (u.bytes.take (4 * 4)) = _; rw [show u.bytes.take (4 * 4) = u.bytes.take (4 * 3) ++ w4 u.d from rfl, enc_app hes (w4_enc har u.d ud)]; subst har; rfl, by show (0 : Int) ≤ ar.iop .add .i64 3 1; subst har; decide +kernel, by show (ar.iop .add .i64 3 1).toNat = 4; subst har; decide +kernel, by dsimp only; omega⟩, by dsimp only; omega⟩
                case inr.inr.inr.inl.refine_2 => exact absurd (by assumption : ar.icmp .lss 3 8 = false) (by subst har; decide)
                case inr.inr.inr.inr.inl.refine_1.refine_2.refine_2.refine_2.refine_1 => exact ⟨by subst har; simp [std]; omega, by subst har; intro y hy; simp at hy; rcases hy with rfl | rfl | rfl | rfl <;> rfl⟩
                case inr.inr.inr.inr.inl.refine_1.refine_2.refine_2.refine_2.refine_2 => exact ⟨(ar.app es4 [[.int .u8 (ar.conv .u8 (ar.iop .shr .u32 e2 24))], [.int .u8 (ar.conv .u8 (ar.iop .shr .u32 e2 16))], [.int .u8 (ar.conv .u8 (ar.iop .shr .u32 e2 8))], [.int .u8 (ar.conv .u8 e2)]], ar.iop .add .i64 4 1, 5), by kernel_rfl, ⟨by show encB (u.bytes.take (4 * 5)) = _; rw [show u.bytes.take (4 * 5) = u.bytes.take (4 * 4) ++ w4 u.e from rfl, enc_app hes (w4_enc har u.e ue)]; subst har; rfl, by show (0 : Int) ≤ ar.iop .add .i64 4 1; subst har; decide +kernel, by show (ar.iop .add .i64 4 1).toNat = 5; subst har; decide +kernel, by dsimp only; omega⟩, by dsimp only; omega⟩
                case inr.inr.inr.inr.inl.refine_2 => exact absurd (by assumption : ar.icmp .lss 4 8 = false) (by subst har; decide)
                case inr.inr.inr.inr.inr.inl.refine_1.refine_2.refine_2.refine_2.refine_1 => exact ⟨by subst har; simp [std]; omega, by subst har; intro y hy; simp at hy; rcases hy with rfl | rfl | rfl | rfl <;> rfl⟩
                case inr.inr.inr.inr.inr.inl.refine_1.refine_2.refine_2.refine_2.refine_2 => exact ⟨(ar.app es4 [[.int .u8 (ar.conv .u8 (ar.iop .shr .u32 f2 24))], [.int .u8 (ar.conv .u8 (ar.iop .shr .u32 f2 16))], [.int .u8 (ar.conv .u8 (ar.iop .shr .u32 f2 8))], [.int .u8 (ar.conv .u8 f2)]], ar.iop .add .i64 5 1, 6), by kernel_rfl, ⟨by show encB (u.bytes.take (4 * 6)) = _; rw [show u.bytes.take (4 * 6) = u.bytes.take (4 * 5) ++ w4 u.f from rfl, enc_app hes (w4_enc har u.f uf)]; subst har; rfl, by show (0 : Int) ≤ ar.iop .add .i64 5 1; subst har; decide +kernel, by show (ar.iop .add .i64 5 1).toNat = 6; subst har; decide +kernel, by dsimp only; omega⟩, by dsimp only; omega⟩
                case inr.inr.inr.inr.inr.inl.refine_2 => exact absurd (by assumption : ar.icmp .lss 5 8 = false) (by subst har; decide)
                case inr.inr.inr.inr.inr.inr.inl.refine_1.refine_2.refine_2.refine_2.refine_1 => exact ⟨by subst har; simp [std]; omega, by subst har; intro y hy; simp at hy; rcases hy with rfl | rfl | rfl | rfl <;> rfl⟩
                case inr.inr.inr.inr.inr.inr.inl.refine_1.refine_2.refine_2.refine_2.refine_2 => exact ⟨(ar.app es4 [[.int .u8 (ar.conv .u8 (ar.iop .shr .u32 g2 24))], [.int .u8 (ar.conv .u8 (ar.iop .shr .u32 g2 16))], [.int .u8 (ar.conv .u8 (ar.iop .shr .u32 g2 8))], [.int .u8 (ar.conv .u8 g2)]], ar.iop .add .i64 6 1, 7), by kernel_rfl, ⟨by show encB (u.bytes.take (4 * 7)) = _; rw [show u.bytes.take (4 * 7) = u.bytes.take (4 * 6) ++ w4 u.g from rfl, enc_app hes (w4_enc har u.g ug)]; subst har; rfl, by show (0 : Int) ≤ ar.iop .add .i64 6 1; subst har; decide +kernel, by show (ar.iop .add .i64 6 1).toNat = 7; subst har; decide +kernel, by dsimp only; omega⟩, by dsimp only; omega⟩
                case inr.inr.inr.inr.inr.inr.inl.refine_2 => exact absurd (by assumption : ar.icmp .lss 6 8 = false) (by subst har; decide)
                case inr.inr.inr.inr.inr.inr.inr.inl.refine_1.refine_2.refine_2.refine_2.refine_1 => exact ⟨by subst har; simp [std]; omega, by subst har; intro y hy; simp at hy; rcases hy with rfl | rfl | rfl | rfl <;> rfl⟩
                case inr.inr.inr.inr.inr.inr.inr.inl.refine_1.refine_2.refine_2.refine_2.refine_2 => exact ⟨(ar.app es4 [[.int .u8 (ar.conv .u8 (ar.iop .shr .u32 h2 24))], [.int .u8 (ar.conv .u8 (ar.iop .shr .u32 h2 16))], [.int .u8 (ar.conv .u8 (ar.iop .shr .u32 h2 8))], [.int .u8 (ar.conv .u8 h2)]], ar.iop .add .i64 7 1, 8), by kernel_rfl, ⟨by show encB (u.bytes.take (4 * 8)) = _; rw [show u.bytes.take (4 * 8) = u.bytes.take (4 * 7) ++ w4 u.h from rfl, enc_app hes (w4_enc har u.h uh)]; subst har; rfl, by show (0 : Int) ≤ ar.iop .add .i64 7 1; subst har; decide +kernel, by show (ar.iop .add .i64 7 1).toNat = 8; subst har; decide +kernel, by dsimp only; omega⟩, by dsimp only; omega⟩
                case inr.inr.inr.inr.inr.inr.inr.inl.refine_2 => exact absurd (by assumption : ar.icmp .lss 7 8 = false) (by subst har; decide)
                case inr.inr.inr.inr.inr.inr.inr.inr.refine_2 =>
                  subst hKK
                  exact ⟨⟨rfl, by rw [← hfin, ← hes]; rfl⟩⟩
                all_goals exact absurd (by assumption : ar.icmp .lss 8 8 = true) (by subst har; decide)
end Go.TL.Tryz

/- TfOrdP -/
namespace Go.TL.Tryz
open Go Go.TL Go.Proofs
theorem less_irr (a : List UInt8) : Op.bytesLess a a = false := by
  have := bytesLess_total a a
  cases h : Op.bytesLess a a with
  | false => rfl
  | true => rw [h] at this; simp at this
theorem cmpB_zero {a b : List UInt8} : cmpB a b = 0 ↔ a = b := by
  have h := bytesLess_total a b
  have h2 := bytesLess_total b a
  unfold cmpB
  constructor
  · intro e
    split at e
    · cases e
    · rename_i h1
      split at e
      · cases e
      · rename_i h3
        simp only [Bool.not_eq_true] at h1 h3
        rw [h1, h3] at h
        simpa using h
  · rintro rfl
    rw [less_irr, if_neg (by simp), if_neg (by simp)]
theorem cmpB_anti (a b : List UInt8) : cmpB b a = - cmpB a b := by
  have h := bytesLess_total a b
  unfold cmpB
  cases h1 : Op.bytesLess a b <;> cases h2 : Op.bytesLess b a <;> simp [h1, h2] at h ⊢
theorem cmpGo_zero : ∀ {a b : List (List UInt8)}, cmpGo a b = 0 ↔ a = b
  | [], [] => by simp [cmpGo]
  | [], _ :: _ => by simp [cmpGo]
  | _ :: _, [] => by simp [cmpGo]
  | a :: r, b :: q => by
    unfold cmpGo
    by_cases h : cmpB a b = 0
    · rw [if_pos h, cmpGo_zero, cmpB_zero.1 h]; simp
    · rw [if_neg h]
      constructor
      · intro e; exact absurd e h
      · intro e; injection e with e1 e2; exact absurd (cmpB_zero.2 e1) h
theorem cmpGo_anti : ∀ (a b : List (List UInt8)), cmpGo b a = - cmpGo a b
  | [], [] => by simp [cmpGo]
  | [], _ :: _ => by simp [cmpGo]
  | _ :: _, [] => by simp [cmpGo]
  | a :: r, b :: q => by
    have h := cmpB_anti a b
    unfold cmpGo
    by_cases e : cmpB a b = 0
    · rw [if_pos e, if_pos (by omega), cmpGo_anti]
    · rw [if_neg e, if_neg (by omega), h]
theorem cmpN_zero {m n : List (List UInt8)} : cmpN m n = 0 ↔ m = n := by
  unfold cmpN
  rw [cmpGo_zero]
  constructor
  · intro h; have := congrArg List.reverse h; simpa using this
  · rintro rfl; rfl
theorem cmpN_anti (m n : List (List UInt8)) : cmpN n m = - cmpN m n := cmpGo_anti _ _
/-- A name is another one, or lies under it. -/
def underB (n z : List (List UInt8)) : Bool := decide (z.length ≤ n.length) && (n.drop (n.length - z.length) == z)
end Go.TL.Tryz

/- TfExtI -/
namespace Go.TL.Tryz
open Go Go.TL Go.Proofs
set_option maxRecDepth 20000
variable {P : Program}
theorem cmpB_lib : ∀ (a b : List UInt8), Lib.compareBytes a b = cmpB a b
  | [], [] => by simp [Lib.compareBytes, cmpB, Op.bytesLess]
  | [], _ :: _ => by simp [Lib.compareBytes, cmpB, Op.bytesLess]
  | _ :: _, [] => by simp [Lib.compareBytes, cmpB, Op.bytesLess]
  | a :: x, b :: y => by
    have ih := cmpB_lib x y
    unfold cmpB at ih ⊢
    simp only [Lib.compareBytes, Op.bytesLess]
    by_cases h1 : a < b
    · simp [h1]
    · by_cases h2 : b < a
      · have hne : a ≠ b := by rintro rfl; exact h1 h2
        simp [h1, h2, hne]
      · have e : a = b := UInt8.le_antisymm (UInt8.not_lt.1 h2) (UInt8.not_lt.1 h1)
        subst e
        simp [h1, ih]
theorem bytesOf_iB (l : List UInt8) : Lib.bytesOf (l.map iB) = l := by
  simp only [Lib.bytesOf, List.map_map]
  conv => rhs; rw [← List.map_id l]
  apply List.map_congr_left
  intro x _
  simp [iB]
theorem bytes_rep {w : World} {ok : Nat → Prop} {v : Value} {l : List UInt8} {es : List (List T)} (hes : encB l = es) (h : Rep w ok v (.sl es)) : (Extern.Bytes.bytesOf v).run P w = .ok ⟨l.toArray⟩ w := by
  cases h with
  | snil =>
    cases l with
    | nil => rfl
    | cons x l => cases hes
  | szero a =>
    cases l with
    | nil => rfl
    | cons x l => cases hes
  | sl b off cap sz es vs hm hcap hsz hok hc hr =>
    subst hes
    have hx := Lib.run_loadBytesX (P := P) w (l.map iB) ⟨b, off, none⟩ .empty (fun j x hj => by
      rw [List.getElem?_map] at hj
      obtain ⟨y, hy, rfl⟩ := Option.map_eq_some_iff.1 hj
      have hjl : j < l.length := (List.getElem?_eq_some_iff.1 hy).1
      have he : (encB l)[j]? = some [.int .u8 (iB y)] := by simp [encB, hy, iB]
      have h1 : sz = 1 := by have := hsz _ (List.mem_of_getElem? he); simpa using this.symm
      subst h1
      have hcell := hc j 0 (by simpa [encB] using hjl) (by omega)
      have hrep := hr j 0 _ _ he rfl
      have e : (⟨b, off, none⟩ : Addr).add j = ⟨b, off + j * 1 + 0, none⟩ := by
        unfold Addr.add; split
        · simp_all
        · simp
      rw [e, hcell]
      generalize vs j 0 = q at hrep
      cases hrep
      rfl)
    rw [bytesOf_iB, List.length_map] at hx
    have e2 : (encB l).length = l.length := by simp [encB]
    show (Extern.Bytes.loadBytes ⟨b, off, none⟩ (encB l).length .empty).run P w = _
    rw [e2, hx]
    congr 1
    apply ByteArray.ext
    show (#[] : Array UInt8) ++ l.toArray = l.toArray
    simp
set_option maxRecDepth 20000 in
theorem fn149 : Tryz.prog.funcs[149]? = some Tryz.f149 := rfl
set_option maxHeartbeats 40000000 in
set_option maxRecDepth 3000 in
theorem iBaCmp (hP : Prg P) {l m : List UInt8} {ls ms : List (List T)} (hl : encB l = ls) (hm : encB m = ms) : ACall P 149 [.one (.t (.sl ls)), .one (.t (.sl ms))] [] (fun r ob => r = .one (.t (.int .i64 (cmpB l m))) ∧ ob = []) := by
  refine acall_extern (e := Extern.BytealgCompare.compare) (fn_at hP fn149) rfl (by decide +kernel) (by kernel_rfl) (by kernel_rfl) ?_
  intro w ok hd vs R hlen ha
  match vs, hlen with
  | [v1, v2], _ =>
    have h1 : Rep w ok v1 (.sl ls) := (ha 0 _ _ rfl rfl).one_inv
    have h2 : Rep w ok v2 (.sl ms) := (ha 1 _ _ rfl rfl).one_inv
    refine ⟨.int .i64 (cmpB l m), .one (.t (.int .i64 (cmpB l m))), ?_, ⟨rfl, rfl⟩, .one _ _ (.int _ _ ?_)⟩
    · change Sem.run P (do pure (goInt (Extern.BytealgCompare.cmp (← Extern.Bytes.bytesOf v1) (← Extern.Bytes.bytesOf v2)))) w = _
      simp only [Sem.run_bind, Sem.run_pure, bytes_rep hl h1, bytes_rep hm h2, Result.andThen]
      rw [Lib.cmp_eq, cmpB_lib]
      rfl
    · unfold cmpB
      repeat' split
      all_goals simp [IntKind.has, IntKind.min, IntKind.max, IntKind.signed, IntKind.bits]
end Go.TL.Tryz

/- TfRrOkI -/
namespace Go.TL.Tryz
open Go Go.TL Go.Proofs
variable {P : Program}
set_option maxRecDepth 20000 in
theorem fn72 : Tryz.prog.funcs[72]? = some Tryz.f72 := rfl
set_option maxHeartbeats 40000000 in
set_option maxRecDepth 3000 in
theorem iRrOk (hP : Prg P) {n to : List (List UInt8)} {ns tos txs nus : List (List T)} {t ttl addr : Int} {tx : List UInt8} {nu : List Int} (hn : encN n = ns) (hto : encN to = tos) (htx : encB tx = txs) (hnu : encI nu = nus) :
    ACall P 72 [.agg [.t (.sl ns), .t (.int .i64 t), .t (.int .i64 ttl), .t (.int .i64 addr), .t (.sl tos), .t (.sl txs), .t (.sl nus)]] []
      (fun r ob => r = .one (.t (.bool (rrOk n t ttl addr to tx nu))) ∧ ob = []) := by
  refine acall_fn (md := md) [none] v72 hP.mixed hP.tab (fn_at hP fn72) 1 rfl (by decide +kernel) rfl ?_
  intro ar har
  cbv
  have hz : to.length = 0 → nameOk to = true := by intro h; rw [List.eq_nil_of_length_eq_zero h]; rfl
  repeat' (first | (intro; cbv) | (refine br_intro ?_ ?_ <;> intro <;> cbv) | (refine get_twoB har (by assumption) (by assumption) (by decide) ?_; intro x hx; cbv) | (refine call_intro (iNameOk hP (by assumption)) ?_; rintro r ob ⟨rfl, rfl⟩; generalize hno : nameOk _ = no; cbv) | (refine call_intro (iTypeOk hP) ?_; rintro r ob ⟨rfl, rfl⟩; generalize hty : typeB _ = ty; cbv) | (refine call_intro (iWithin hP) ?_; rintro r ob ⟨rfl, rfl⟩; generalize hwi : withinB _ _ _ = wi; cbv) | (refine call_intro (iIsWord hP) ?_; rintro r ob ⟨rfl, rfl⟩; generalize hiw : isWordB _ = iw; cbv) | (refine call_intro (iHasTo hP) ?_; rintro r ob ⟨rfl, rfl⟩; generalize hht : namedB _ = ht; cbv) | (refine call_intro (iHasText hP) ?_; rintro r ob ⟨rfl, rfl⟩; generalize hhx : textB _ = hx1; cbv))
  all_goals have hlen1 := encN_len hto
  all_goals have hlen2 := encB_len htx
  all_goals have hlen3 := encI_len hnu
  all_goals try (subst har; simp only [std, icmpS, decide_eq_true_eq, decide_eq_false_iff_not, Bool.not_eq_true', Bool.not_eq_false', bne_iff_ne, ne_eq, bne_eq_false_iff_eq, beq_iff_eq, beq_eq_false_iff_ne, Int.not_lt, Int.not_le, Bool.not_true, Bool.not_false, reduceCtorEq] at *)
  all_goals (refine ⟨⟨?_, rfl⟩⟩; simp_all [rrOk, dataOk, numsOk, isWordB, withinB, List.getD, -List.length_eq_zero_iff])
  all_goals first
    | (intros; omega)
    | (rw [Bool.eq_iff_iff]; simp [-List.length_eq_zero_iff]; omega)
    | grind
end Go.TL.Tryz

/- TfPutI -/
namespace Go.TL.Tryz
open Go Go.TL Go.Proofs
variable {P : Program}

theorem rrI_len {n to : List (List UInt8)} {t ttl addr : Int} {tx : List UInt8} {nu : List Int} (hnb : NmB n) (htob : NmB to) (htxl : tx.length ≤ 500) (hnul : nu.length ≤ 10) : (rrI n t ttl addr to tx nu).length ≤ 1000 := by
  have h1 := wireN_len hnb
  have h2 := dataI_len (t := t) (addr := addr) htob htxl hnul
  simp only [rrI, catB, List.flatMap_cons, List.flatMap_nil, List.length_append, id, List.length_nil, fourB_len]
  have h3 : ∀ n : Int, (twoB n).length = 2 := fun _ => rfl
  rw [h3, h3, h3]
  omega
end Go.TL.Tryz

/- TfOrdS -/
namespace Go.TL.Tryz
open Go Go.TL Go.Proofs
variable {P : Program}

def cmpR (m : List (List UInt8)) (t addr : Int) (to : List (List UInt8)) (tx : List UInt8) (nu : List Int) (n : List (List UInt8)) (t2 addr2 : Int) (qo : List (List UInt8)) (vx : List UInt8) (nv : List Int) : Int :=
  if cmpN m n = 0 then (if cmpI t t2 = 0 then cmpB (dataS t addr to tx nu) (dataS t2 addr2 qo vx nv) else cmpI t t2) else cmpN m n
theorem rrOk_facts {n to : List (List UInt8)} {t ttl addr : Int} {tx : List UInt8} {nu : List Int} (h : rrOk n t ttl addr to tx nu = true) : NmB n ∧ NmB to ∧ tx.length ≤ 40 ∧ (t = 6 → nu.length = 2) ∧ nu.length ≤ 2 := by
  simp only [rrOk, dataOk, numsOk, Bool.and_eq_true] at h
  obtain ⟨h1, _, _, _, h2, h3, h4⟩ := h
  refine ⟨nmB_ok h1, ?_, ?_, ?_, ?_⟩
  · split at h2
    · exact nmB_ok h2
    · have : to = [] := List.eq_nil_of_length_eq_zero (by simpa using h2)
      subst this; exact ⟨by simp, by simp⟩
  · split at h3
    · simpa using h3
    · have : tx.length = 0 := by simpa using h3
      omega
  · intro e
    rw [if_pos e] at h4
    simp only [Bool.and_eq_true, decide_eq_true_eq] at h4
    exact h4.1
  · split at h4
    · simp only [Bool.and_eq_true, decide_eq_true_eq] at h4
      omega
    · have : nu.length = 0 := by simpa using h4
      omega
set_option maxRecDepth 20000 in
theorem fn56 : Tryz.prog.funcs[56]? = some Tryz.f56 := rfl
set_option maxHeartbeats 40000000 in
set_option maxRecDepth 3000 in
theorem sl3cmp (hP : Prg P) {m n to qo : List (List UInt8)} {ms ns tos qos txs nus ux vs : List (List T)} {t ttl addr t2 ttl2 addr2 : Int} {tx vx : List UInt8} {nu nv : List Int} (hm : encN m = ms) (hn : encN n = ns) (hml : m.length ≤ 1000) (hnl : n.length ≤ 1000)
   (hto : encN to = tos) (htob : NmB to) (htx : encB tx = txs) (htxl : tx.length ≤ 500) (hnu : encI nu = nus) (hnu6 : t = 6 → nu.length = 2)
   (hqo : encN qo = qos) (hqob : NmB qo) (hvx : encB vx = ux) (hvxl : vx.length ≤ 500) (hnv : encI nv = vs) (hnv6 : t2 = 6 → nv.length = 2) :
   ACall P 56 [.agg [.t (.sl ms), .t (.int .i64 t), .t (.int .i64 ttl), .t (.int .i64 addr), .t (.sl tos), .t (.sl txs), .t (.sl nus)], .agg [.t (.sl ns), .t (.int .i64 t2), .t (.int .i64 ttl2), .t (.int .i64 addr2), .t (.sl qos), .t (.sl ux), .t (.sl vs)]] []
     (fun r ob => r = .one (.t (.int .i64 (cmpR m t addr to tx nu n t2 addr2 qo vx nv))) ∧ ob = []) := by
  refine acall_fn (md := md) [none] v56 hP.mixed hP.tab (fn_at hP fn56) 2 rfl (by decide +kernel) rfl ?_
  intro ar har
  cbv
  repeat' (first | (intro; cbv) | (with_reducible refine and_side ?_ ?_; rotate_left; try cbv) | (refine ChkP.mk (by decide +kernel) ?_; cbv) | (refine br_intro ?_ ?_ <;> intro <;> cbv) | (exact side_flat har (by assumption)) | (refine call_intro (sl2cmp hP (by assumption) (by assumption) (by omega) (by omega)) ?_; rintro r ob ⟨rfl, rfl⟩; generalize hcn : cmpN _ _ = cn; cbv) | (refine call_intro (sl3num hP) ?_; rintro r ob ⟨rfl, rfl⟩; generalize hcm : cmpI _ _ = cm; cbv) | (refine calld_intro (sl3put hP (by assumption) (by assumption) (by assumption) (by omega) (by assumption) (by first | assumption | omega)) ?_; generalize hld : encB (dataS _ _ _ _ _) = ld; cbv) | (refine calld_intro (sl2bytes hP (by assumption) (by assumption)) ?_; generalize hcm : cmpB _ _ = cm; cbv))
  all_goals subst har; simp only [std, icmpS, decide_eq_true_eq, decide_eq_false_iff_not, Bool.not_eq_true', Bool.not_eq_false', bne_iff_ne, ne_eq, bne_eq_false_iff_eq, beq_iff_eq, beq_eq_false_iff_ne, Int.not_lt, Int.not_le, Bool.not_true, Bool.not_false, reduceCtorEq] at *
  all_goals first
    | (exfalso; omega)
    | (refine ⟨⟨?_, rfl⟩⟩; simp_all [cmpR]; done)
end Go.TL.Tryz

/- TfZoU -/
namespace Go.TL.Tryz
open Go Go.TL Go.Proofs
set_option maxRecDepth 20000
variable {P : Program}
theorem encN_drop (l : List (List UInt8)) (j : Nat) : encN (l.drop j) = (encN l).drop j := by simp [encN, List.map_drop]
theorem sub_len {ar : Ar} (har : ar = std) {ms ns : List (List T)} {a b : Nat} (h1 : ms.length = a) (h2 : ns.length = b) (ha : a ≤ 2000000) (hb : b ≤ 2000000) : ar.iop .sub .i64 (ar.len ms) (ar.len ns) = (a : Int) - b := by
  subst har
  show iopS .sub .i64 (ms.length : Int) (ns.length : Int) = _
  rw [subI (by omega) (by omega)]; omega
theorem ge_sub {ar : Ar} (har : ar = std) {ms ns : List (List T)} {a b : Nat} (h1 : ms.length = a) (h2 : ns.length = b) (ha : a ≤ 2000000) (hb : b ≤ 2000000) {c : Bool} (h : ar.icmp .geq (ar.iop .sub .i64 (ar.len ms) (ar.len ns)) 0 = c) : decide (b ≤ a) = c := by
  rw [sub_len har h1 h2 ha hb] at h
  subst har
  rw [← h, Bool.eq_iff_iff]
  simp [std, icmpS]
theorem sub_tail {ar : Ar} (har : ar = std) {m : List (List UInt8)} {ms ns : List (List T)} {b : Nat} (hm : encN m = ms) (h2 : ns.length = b) (ha : m.length ≤ 2000000) (hb : b ≤ m.length) : encN (m.drop (m.length - b)) = ar.sub ms (ar.iop .sub .i64 (ar.len ms) (ar.len ns)) (ar.len ms) := by
  have hl := encN_len hm
  rw [sub_len har hl h2 ha (by omega)]
  subst har
  show _ = (ms.take (ms.length : Int).toNat).drop ((m.length : Int) - b).toNat
  rw [encN_drop, hm, Int.toNat_natCast, List.take_of_length_le (Nat.le_refl _)]
  congr 1
  omega
theorem side_tail {ar : Ar} (har : ar = std) {ms ns : List (List T)} {a b : Nat} (h1 : ms.length = a) (h2 : ns.length = b) (ha : a ≤ 2000000) (hb : b ≤ a) (hw : std.wid 1 ms) : Side (ar.insub (ar.iop .sub .i64 (ar.len ms) (ar.len ns)) (ar.len ms) ms ∧ ar.wid 1 ms) := by
  rw [sub_len har h1 h2 ha (by omega)]
  subst har
  exact ⟨⟨by show 0 ≤ (a : Int) - b; omega, by show (a : Int) - b ≤ (ms.length : Int); omega, by show (ms.length : Int) ≤ (ms.length : Int); omega⟩, hw⟩
set_option maxRecDepth 20000 in
theorem fn55 : Tryz.prog.funcs[55]? = some Tryz.f55 := rfl
set_option maxHeartbeats 40000000 in
set_option maxRecDepth 3000 in
theorem sUnder (hP : Prg P) {m n : List (List UInt8)} {ms ns : List (List T)} (hm : encN m = ms) (hn : encN n = ns) (hml : m.length ≤ 2000000) (hnl : n.length ≤ 2000000) : ACall P 55 [.agg [.t (.sl ms)], .agg [.t (.sl ns)]] []
    (fun r ob => r = .one (.t (.bool (underB m n))) ∧ ob = []) := by
  have hlm := encN_len hm
  have hln := encN_len hn
  refine acall_fn (md := md) [none] v55 hP.mixed hP.tab (fn_at hP fn55) 2 rfl (by decide +kernel) rfl ?_
  intro ar har
  cbv
  repeat' (first | (intro; cbv) | (with_reducible refine and_side ?_ ?_; rotate_left; try cbv) | (refine ChkP.mk (by decide +kernel) ?_; cbv) | (refine br_intro ?_ ?_ <;> intro <;> cbv))
  case refine_1.refine_2 =>
    have hge := ge_sub har hlm hln hml hnl (by assumption : _ = true)
    refine calld_intro (sl2cmp hP (sub_tail har hm hln hml (by simpa using hge)) hn (by simp; omega) hnl) ?_
    generalize hcn : cmpN _ _ = cn
    cbv
    repeat' (first | (intro; cbv) | (refine ChkP.mk (by decide +kernel) ?_; cbv))
    refine ret_bb ?_
    rw [underB, hge]
    subst har; subst hcn
    show (cmpN _ _ == 0) = _
    rw [Bool.eq_iff_iff]; simp [cmpN_zero]
  case refine_1.refine_1 =>
    have hge := ge_sub har hlm hln hml hnl (by assumption : _ = true)
    exact side_tail har hlm hln hml (by simpa using hge) (by rw [← hm]; exact wid_encN m)
  case refine_2 =>
    have hge := ge_sub har hlm hln hml hnl (by assumption : ar.icmp .geq _ _ = false)
    refine ret_bb ?_
    rw [underB, hge]; rfl
end Go.TL.Tryz

/- TfMoA -/
namespace Go.TL.Tryz
open Go Go.TL Go.Proofs
set_option maxRecDepth 20000
variable {P : Program}
theorem ret_b {a b : Bool} (h : a = b) : RetP (fun r ob => r = A.one (V.t (T.bool b)) ∧ ob = []) (A.one (V.t (T.bool a))) [] := by subst h; exact ⟨⟨rfl, rfl⟩⟩
end Go.TL.Tryz

/- TfZoS -/
namespace Go.TL.Tryz
open Go Go.TL Go.Proofs
set_option maxRecDepth 20000
variable {P : Program}
def cmpRR (a b : Rrv) : Int := cmpR a.n a.t a.addr a.to a.tx a.nu b.n b.t b.addr b.to b.tx b.nu
/-- No name is longer than anything. -/
def BigN (l : List Rrv) : Prop := ∀ (i : Nat) r, l[i]? = some r → r.n.length ≤ 2000000
def nameIs (l : List Rrv) (n : List (List UInt8)) (k : Nat) : Bool := match l[k]? with
  | some x => x.n == n
  | none => false
/-- No other record has the name. -/
def loneB (l : List Rrv) (n : List (List UInt8)) (i : Nat) (m : Nat) : Bool := (List.range m).all fun k => k == i || !nameIs l n k
def aloneB (l : List Rrv) (i : Nat) : Bool := match l[i]? with
  | some r => !decide (r.t = 5) || loneB l r.n i l.length
  | none => true
theorem lone_succ (l : List Rrv) (n : List (List UInt8)) (i m : Nat) : loneB l n i (m + 1) = (loneB l n i m && (m == i || !nameIs l n m)) := by
  simp [loneB, List.range_succ]
theorem lone_bad {l : List Rrv} {n : List (List UInt8)} {i m k : Nat} (hk : k < m) (h : (k == i || !nameIs l n k) = false) : loneB l n i m = false := by
  rw [loneB, List.all_eq_false]
  exact ⟨k, by simpa using hk, by rw [h]; simp⟩
set_option maxRecDepth 20000 in
theorem fn57 : Tryz.prog.funcs[57]? = some Tryz.f57 := rfl
set_option maxHeartbeats 40000000 in
set_option maxRecDepth 3000 in
theorem sAlone (hP : Prg P) {l : List Rrv} {es : List (List T)} (hl : encR l = es) (hb : BigN l) {i : Int} (hi : 0 ≤ i ∧ i.toNat < l.length) : ACall P 57 [.one (.t (.sl es)), .one (.t (.int .i64 i))] [] (fun r ob => r = .one (.t (.bool (aloneB l i.toNat))) ∧ ob = []) := by
  have hlen := encR_len hl
  have hi0 : 0 ≤ i := hi.1
  refine acall_fn (md := md) [none] v57 hP.mixed hP.tab (fn_at hP fn57) 2 rfl (by decide +kernel) rfl ?_
  intro ar har
  cbv
  repeat' (first | (intro; cbv) | (with_reducible refine and_side ?_ ?_; rotate_left; try cbv) | (refine ChkP.mk (by decide +kernel) ?_; cbv) | (refine br_intro ?_ ?_ <;> intro <;> cbv) | (refine get_at har (by assumption) (by assumption) (by assumption) (by assumption) ?_; cbv) | (refine get_lt har (by assumption) (by assumption) (by assumption) ?_; intro x xx hx hxx; cbv) | (refine get_atN har (by assumption) (by assumption) (by assumption) (by assumption) ?_; cbv) | (refine get_ltN har (by assumption) (by assumption) (by assumption) ?_; intro x xx hx hxx; cbv) | (refine get_atI har (by assumption) (by assumption) (by decide) ?_; cbv) | (refine get_twoA har (by assumption) (by assumption) (by decide) ?_; intro x hx; cbv) | (refine get_twoB har (by assumption) (by assumption) (by decide) ?_; intro x hx; cbv) | (refine bytes_intro (by assumption) ?_; cbv) | (exact side_lt har (by assumption) (by assumption)) | (exact side_inb har (by assumption) (by assumption) (by assumption)) | (exact side_sh har (by decide)) | (exact side_app har (by assumption) (by assumption) (by omega)) | (exact side_app0 har (by assumption) (by omega)) | (exact side_new har (by assumption) (by omega)) | (exact side_one har (by assumption) (by omega)) | (exact side_oneN har (by assumption) (by omega)) | (exact side_flat har (by assumption)) | (exact side_sbig har (by omega)) | (refine side_sbig har ?_; simp; done) | (exact side_oneI har (by assumption) (by omega)) | (refine side_ix har ?_; simp; done) | (refine side_ix har ?_; simp; omega))
  refine get_rec har hl hi fun r ns tos txs nus hr hn hto htx hnu => ?_
  have hrl := hb _ _ hr
  cbv
  repeat' (first | (refine br_intro ?_ ?_ <;> intro <;> cbv))
  case refine_1 =>
    refine ret_bb ?_
    have h := neq_t har (by assumption : ar.icmp .neq r.t 5 = true)
    rw [aloneB, hr]; simp [h]
  have h5 := neq_f har (by assumption : ar.icmp .neq r.t 5 = false)
  have hal : aloneB l i.toNat = loneB l r.n i.toNat l.length := by rw [aloneB, hr]; simp [h5]
  rw [hal]
  refine loop_start [11] [] ?_
  cbv
  refine LoopR.mk Int (fun k => ([(5, .one (.t (.int .i64 k)))], [])) (fun k => 0 ≤ k ∧ k.toNat ≤ l.length ∧ loneB l r.n i.toNat k.toNat = true) (fun k => l.length - k.toNat) 0 ?e ?f ?g
  case e => kernel_rfl
  case f => exact ⟨Int.le_refl _, Nat.zero_le _, rfl⟩
  case g =>
    intro k hk
    have hk0 : 0 ≤ k := hk.1
    have hkl : k.toNat ≤ l.length := hk.2.1
    have hkb : loneB l r.n i.toNat k.toNat = true := hk.2.2
    clear hk
    cbv
    repeat' (first | (intro; cbv) | (refine ChkP.mk (by decide +kernel) ?_; cbv) | (refine br_intro ?_ ?_ <;> intro <;> cbv) | (refine get_atR har (by assumption) (by assumption) (by assumption) (by assumption) (by assumption) (by assumption) (by assumption) ?_; cbv) | (refine get_ltR har (by assumption) (by assumption) (by assumption) ?_; intro x e1 e2 e3 e4 hx he1 he2 he3 he4; cbv))
    case refine_2 =>
      have hend := ge_len har (by assumption) hk0
      refine ret_bb ?_
      rw [show l.length = k.toNat by omega, hkb]
    case refine_1.refine_2 =>
      have hlt := lt_len har (by assumption : ar.icmp .lss k (ar.len es) = true) hk0
      have hbg := big_le har (by assumption : ar.big es)
      have hki := neq_f har (by assumption : ar.icmp .neq k i = false)
      have e1 : ar.iop .add .i64 k 1 = k + 1 := add_std har (by omega) (by omega)
      refine ⟨k + 1, by rw [← e1]; kernel_rfl, ⟨by omega, by omega, ?_⟩, by omega⟩
      rw [show (k + 1).toNat = k.toNat + 1 by omega, lone_succ, hkb, hki]; simp
    case refine_1.refine_1 =>
      have hxl := hb _ _ hx
      repeat' (first | (intro; cbv) | (refine ChkP.mk (by decide +kernel) ?_; cbv) | (refine br_intro ?_ ?_ <;> intro <;> cbv) | (refine calld_intro (sl2cmp hP (by assumption) (by assumption) (by omega) (by omega)) ?_; generalize hcn : cmpN _ _ = cn; cbv))
      case refine_1 =>
        have hki := neq_t har (by assumption : ar.icmp .neq k i = true)
        have h0 := eq_cmp har (by assumption : ar.icmp .eql cn 0 = true)
        refine ret_bb ?_
        have hkn : (k.toNat == i.toNat || !nameIs l r.n k.toNat) = false := by
          have hxn := cmpN_zero.1 (hcn.trans h0)
          simp [nameIs, hx, hxn]; omega
        exact (lone_bad (List.getElem?_eq_some_iff.1 hx).1 hkn).symm
      case refine_2 =>
        have hlt := (List.getElem?_eq_some_iff.1 hx).1
        have hbg := big_le har (by assumption : ar.big es)
        have h0 := ne_cmp har (by assumption : ar.icmp .eql cn 0 = false)
        have e1 : ar.iop .add .i64 k 1 = k + 1 := add_std har (by omega) (by omega)
        refine ⟨k + 1, by rw [← e1]; kernel_rfl, ⟨by omega, by omega, ?_⟩, by omega⟩
        have hne : x.n ≠ r.n := fun e => h0 (by rw [← hcn, cmpN_zero.2 e])
        rw [show (k + 1).toNat = k.toNat + 1 by omega, lone_succ, hkb, nameIs, hx]; simp [hne]
def prevB (l : List Rrv) (i : Nat) : Bool := match i with
  | 0 => true
  | j + 1 => match l[j]?, l[j + 1]? with
    | some p, some r => decide (cmpRR p r < 0)
    | _, _ => true
def isTop (r : Rrv) : Bool := decide (r.t = 6)
def recOk (z : Zon) (i : Nat) : Bool := match z.rs[i]? with
  | some r => rrOkR r && (underB r.n z.o && (prevB z.rs i && (aloneB z.rs i && (!isTop r || (r.n == z.o)))))
  | none => true
def recsOk (z : Zon) (n : Nat) : Bool := (List.range n).all (recOk z)
def topsN (l : List Rrv) (n : Nat) : Nat := (l.take n).countP isTop
/-- Which zones are right. -/
def zoneOk (z : Zon) : Bool := nameOk z.o && (decide (z.rs.length ≤ 60) && (recsOk z z.rs.length && decide (topsN z.rs z.rs.length = 1)))
theorem recs_succ (z : Zon) (n : Nat) : recsOk z (n + 1) = (recsOk z n && recOk z n) := by simp [recsOk, List.range_succ]
theorem recs_bad {z : Zon} {k : Nat} (hk : k < z.rs.length) (h : recOk z k = false) : zoneOk z = false := by
  have : recsOk z z.rs.length = false := by rw [recsOk, List.all_eq_false]; exact ⟨k, by simpa using hk, by rw [h]; simp⟩
  simp [zoneOk, this]
theorem tops_succ {l : List Rrv} {n : Nat} {r : Rrv} (h : l[n]? = some r) : topsN l (n + 1) = topsN l n + (if isTop r then 1 else 0) := by
  rw [topsN, List.take_add_one, h]; simp [topsN, List.countP_cons]
theorem recs_rr {z : Zon} {n k : Nat} {r : Rrv} (h : recsOk z n = true) (hk : k < n) (hr : z.rs[k]? = some r) : rrOkR r = true := by
  have := List.all_eq_true.1 h k (by simpa using hk)
  rw [recOk, hr] at this
  simp at this
  exact this.1
set_option maxRecDepth 20000 in
theorem fn18 : Tryz.prog.funcs[18]? = some Tryz.f18 := rfl
set_option maxHeartbeats 40000000 in
set_option maxRecDepth 3000 in
theorem sZoneOk (hP : Prg P) {z : Zon} {os rs : List (List T)} (ho : encN z.o = os) (hrs : encR z.rs = rs) (hb : BigN z.rs) : ACall P 18 [.agg [.t (.sl os), .t (.sl rs)]] [] (fun r ob => r = .one (.t (.bool (zoneOk z))) ∧ ob = []) := by
  have hlen := encR_len hrs
  refine acall_fn (md := md) [none] v18 hP.mixed hP.tab (fn_at hP fn18) 1 rfl (by decide +kernel) rfl ?_
  intro ar har
  cbv
  repeat' (first | (intro; cbv) | (refine br_intro ?_ ?_ <;> intro <;> cbv) | (refine call_intro (sNameOk hP (by assumption)) ?_; rintro r ob ⟨rfl, rfl⟩; generalize hv : nameOk _ = v; cbv))
  case refine_1 =>
    have h := bnot_t har (by assumption)
    refine ret_bb ?_
    rw [zoneOk, hv, h]; rfl
  case refine_2.refine_1 =>
    have h := gt_cmp har (by assumption)
    refine ret_bb ?_
    have h : ¬ z.rs.length ≤ 60 := by subst har; have h : (60 : Int) < (rs.length : Int) := h; omega
    simp [zoneOk, h]
  have hno := bnot_f har (by assumption)
  have h60 : z.rs.length ≤ 60 := by
    have h := le_cmp har (by assumption : ar.icmp .gtr (ar.len rs) 60 = false)
    subst har; have h : (rs.length : Int) ≤ 60 := h; omega
  have hol : z.o.length ≤ 2000000 := by have := (nmB_ok (hv.trans hno)).1; omega
  refine loop_start [15] [] ?_
  cbv
  refine LoopR.mk (Int × Int) (fun x => ([(3, .one (.t (.int .i64 x.1))), (4, .one (.t (.int .i64 x.2)))], [])) (fun x => 0 ≤ x.2 ∧ x.2.toNat ≤ z.rs.length ∧ recsOk z x.2.toNat = true ∧ 0 ≤ x.1 ∧ x.1.toNat = topsN z.rs x.2.toNat ∧ x.1 ≤ x.2) (fun x => z.rs.length - x.2.toNat) (0, 0) ?e ?f ?g
  case e => kernel_rfl
  case f => exact ⟨Int.le_refl _, Nat.zero_le _, rfl, Int.le_refl _, rfl, Int.le_refl _⟩
  case g =>
    intro x hx
    obtain ⟨c, i⟩ := x
    have hi0 : 0 ≤ i := hx.1
    have hil : i.toNat ≤ z.rs.length := hx.2.1
    have hrk : recsOk z i.toNat = true := hx.2.2.1
    have hc0 : 0 ≤ c := hx.2.2.2.1
    have hct : c.toNat = topsN z.rs i.toNat := hx.2.2.2.2.1
    have hci : c ≤ i := hx.2.2.2.2.2
    clear hx
    cbv
    repeat' (first | (intro; cbv) | (refine ChkP.mk (by decide +kernel) ?_; cbv) | (refine br_intro ?_ ?_ <;> intro <;> cbv) | (refine get_ltR har (by assumption) (by assumption) (by assumption) ?_; intro x e1 e2 e3 e4 hx he1 he2 he3 he4; cbv) | (refine calld_intro (sRrOk hP (by assumption) (by assumption) (by assumption) (by assumption)) ?_; generalize hro : rrOk _ _ _ _ _ _ _ = ro; cbv))
    case refine_1.refine_1 =>
      have h := bnot_t har (by assumption)
      have hlt := (List.getElem?_eq_some_iff.1 hx).1
      refine ret_bb ?_
      exact (recs_bad hlt (by rw [recOk, hx]; simp [rrOkR, hro, h])).symm
    case refine_2 =>
      have hend := ge_len har (by assumption) hi0
      refine ret_bb ?_
      have e : i.toNat = z.rs.length := by omega
      rw [e] at hrk hct
      rw [zoneOk, hv, hno, hrk, decide_eq_true h60, ← hct]
      subst har
      show (c == 1) = _
      rw [Bool.eq_iff_iff]; simp; omega
    case refine_1.refine_2 =>
      have hxl := hb _ _ hx
      have hrx := hro.trans (bnot_f har (by assumption))
      repeat' (first | (intro; cbv) | (refine ChkP.mk (by decide +kernel) ?_; cbv) | (refine br_intro ?_ ?_ <;> intro <;> cbv) | (refine calld_intro (sUnder hP (by assumption) (by assumption) (by omega) (by omega)) ?_; generalize hun : underB _ _ = un; cbv))
      case refine_1 =>
        have h := bnot_t har (by assumption : ar.bnot un = true)
        have hlt := (List.getElem?_eq_some_iff.1 hx).1
        exact ret_bb (recs_bad hlt (by rw [recOk, hx]; simp [hun, h])).symm
      case refine_2.refine_2 =>
        have hu := bnot_f har (by assumption : ar.bnot un = false)
        have hlt := (List.getElem?_eq_some_iff.1 hx).1
        have h0 := le_cmp har (by assumption : ar.icmp .gtr i 0 = false)
        have hpv : prevB z.rs i.toNat = true := by rw [show i.toNat = 0 by omega]; rfl
        repeat' (first | (intro; cbv) | (refine ChkP.mk (by decide +kernel) ?_; cbv) | (refine br_intro ?_ ?_ <;> intro <;> cbv) | (refine calld_intro (sAlone hP (by assumption) (by assumption) ⟨by assumption, by assumption⟩) ?_; generalize hal : aloneB _ _ = al; cbv) | (refine call_intro (sl2cmp hP (by assumption) (by assumption) (by omega) (by omega)) ?_; rintro r ob ⟨rfl, rfl⟩; generalize hcn : cmpN _ _ = cn; cbv))
        all_goals have hbg := big_le har (by assumption : ar.big rs)
        all_goals have e1 : ar.iop .add .i64 i 1 = i + 1 := add_std har (by omega) (by omega)
        all_goals have e2 : ar.iop .add .i64 c 1 = c + 1 := add_std har (by omega) (by omega)
        all_goals have ei : (i + 1).toNat = i.toNat + 1 := by omega
        all_goals first
          | (have h := bnot_t har (by assumption : ar.bnot al = true)
             exact ret_bb (recs_bad hlt (by rw [recOk, hx]; simp [hal, h])).symm)
          | (have h := neq_t har (by assumption : ar.icmp .neq cn 0 = true)
             have h6 := eq_cmp har (by assumption : ar.icmp .eql x.t 6 = true)
             have hne : ¬ x.n = z.o := fun e => h (by rw [← hcn, cmpN_zero.2 e])
             exact ret_bb (recs_bad hlt (by rw [recOk, hx]; simp [isTop, h6, hne])).symm)
          | (have h := neq_f har (by assumption : ar.icmp .neq cn 0 = false)
             have h6 := eq_cmp har (by assumption : ar.icmp .eql x.t 6 = true)
             have ha := bnot_f har (by assumption : ar.bnot al = false)
             have hen : x.n = z.o := cmpN_zero.1 (hcn.trans h)
             refine ⟨(c + 1, i + 1), by rw [← e1, ← e2]; kernel_rfl, ⟨by dsimp only; omega, by dsimp only; omega, ?_, by dsimp only; omega, ?_, by dsimp only; omega⟩, by dsimp only; omega⟩
             · show recsOk z (i + 1).toNat = true
               rw [ei, recs_succ, hrk, recOk, hx]; simp only [show rrOkR x = true from hrx, hun, hu, hpv, hal, ha, beq_iff_eq.2 hen, Bool.or_true, Bool.and_true]
             · show (c + 1).toNat = topsN z.rs (i + 1).toNat
               rw [ei, tops_succ hx, ← hct]; simp [isTop, h6]; omega)
          | (have h6 := ne_cmp har (by assumption : ar.icmp .eql x.t 6 = false)
             have ha := bnot_f har (by assumption : ar.bnot al = false)
             refine ⟨(c, i + 1), by rw [← e1]; kernel_rfl, ⟨by dsimp only; omega, by dsimp only; omega, ?_, by dsimp only; omega, ?_, by dsimp only; omega⟩, by dsimp only; omega⟩
             · show recsOk z (i + 1).toNat = true
               rw [ei, recs_succ, hrk, recOk, hx]; simp [rrOkR, hrx, hun, hu, hpv, hal, ha, isTop, h6]
             · show c.toNat = topsN z.rs (i + 1).toNat
               rw [ei, tops_succ hx, ← hct]; simp [isTop, h6])
      case refine_2.refine_1 =>
        have hu := bnot_f har (by assumption : ar.bnot un = false)
        have hlt := (List.getElem?_eq_some_iff.1 hx).1
        have h0 := gt_cmp har (by assumption : ar.icmp .gtr i 0 = true)
        have es1 : ar.iop .sub .i64 i 1 = i - 1 := sub_std har (by omega) (by omega)
        have ej : (ar.iop .sub .i64 i 1).toNat = i.toNat - 1 := by rw [es1]; omega
        refine get_rec har hrs ⟨by show 0 ≤ ar.iop .sub .i64 i 1; rw [es1]; omega, by show (ar.iop .sub .i64 i 1).toNat < _; rw [ej]; omega⟩ fun y f1 f2 f3 f4 hy hf1 hf2 hf3 hf4 => ?_
        have hy : z.rs[(ar.iop .sub .i64 i 1).toNat]? = some y := hy
        rw [ej] at hy
        have hry : rrOkR y = true := recs_rr hrk (by omega) hy
        have hpe : prevB z.rs i.toNat = decide (cmpRR y x < 0) := by
          rw [show i.toNat = (i.toNat - 1) + 1 by omega, prevB, hy, show i.toNat - 1 + 1 = i.toNat by omega, hx]
        obtain ⟨p1, p2, p3, p4, p5⟩ := rrOk_facts hry
        obtain ⟨q1, q2, q3, q4, q5⟩ := rrOk_facts hrx
        have p6 := p1.1
        have q6 := q1.1
        cbv
        repeat' (first | (intro; cbv) | (with_reducible refine and_side ?_ ?_; rotate_left; try cbv) | (refine ChkP.mk (by decide +kernel) ?_; cbv) | (refine br_intro ?_ ?_ <;> intro <;> cbv) | (refine get_at har (by assumption) (by assumption) (by assumption) (by assumption) ?_; cbv) | (refine get_lt har (by assumption) (by assumption) (by assumption) ?_; intro x xx hx hxx; cbv) | (refine get_atN har (by assumption) (by assumption) (by assumption) (by assumption) ?_; cbv) | (refine get_ltN har (by assumption) (by assumption) (by assumption) ?_; intro x xx hx hxx; cbv) | (refine get_atI har (by assumption) (by assumption) (by decide) ?_; cbv) | (refine get_twoA har (by assumption) (by assumption) (by decide) ?_; intro x hx; cbv) | (refine get_twoB har (by assumption) (by assumption) (by decide) ?_; intro x hx; cbv) | (refine bytes_intro (by assumption) ?_; cbv) | (exact side_lt har (by assumption) (by assumption)) | (exact side_inb har (by assumption) (by assumption) (by assumption)) | (exact side_sh har (by decide)) | (exact side_app har (by assumption) (by assumption) (by omega)) | (exact side_app0 har (by assumption) (by omega)) | (exact side_new har (by assumption) (by omega)) | (exact side_one har (by assumption) (by omega)) | (exact side_oneN har (by assumption) (by omega)) | (exact side_flat har (by assumption)) | (exact side_sbig har (by omega)) | (refine side_sbig har ?_; simp; done) | (exact side_oneI har (by assumption) (by omega)) | (refine side_ix har ?_; simp; done) | (refine side_ix har ?_; simp; omega))
        refine calld_intro (sl3cmp hP hf1 he1 (by omega) (by omega) hf2 p2 hf3 (by omega) hf4 p4 he2 q2 he3 (by omega) he4 q4) ?_
        generalize hcr : cmpR y.n y.t y.addr y.to y.tx y.nu x.n x.t x.addr x.to x.tx x.nu = cr
        cbv
        repeat' (first | (intro; cbv) | (refine ChkP.mk (by decide +kernel) ?_; cbv) | (refine br_intro ?_ ?_ <;> intro <;> cbv))
        case refine_1 =>
          have h := geq_t har (by assumption : ar.icmp .geq cr 0 = true)
          exact ret_bb (recs_bad hlt (by rw [recOk, hx]; simp only [hpe, cmpRR, hcr, decide_eq_false (show ¬ cr < 0 by omega), Bool.false_and, Bool.and_false])).symm
        have hpv : prevB z.rs i.toNat = true := by
          have h := geq_f har (by assumption : ar.icmp .geq cr 0 = false)
          rw [hpe, cmpRR, hcr]; simpa using h
        repeat' (first | (intro; cbv) | (refine ChkP.mk (by decide +kernel) ?_; cbv) | (refine br_intro ?_ ?_ <;> intro <;> cbv) | (refine calld_intro (sAlone hP (by assumption) (by assumption) ⟨by assumption, by assumption⟩) ?_; generalize hal : aloneB _ _ = al; cbv) | (refine call_intro (sl2cmp hP (by assumption) (by assumption) (by omega) (by omega)) ?_; rintro r ob ⟨rfl, rfl⟩; generalize hcn : cmpN _ _ = cn; cbv))
        all_goals have hbg := big_le har (by assumption : ar.big rs)
        all_goals have e1 : ar.iop .add .i64 i 1 = i + 1 := add_std har (by omega) (by omega)
        all_goals have e2 : ar.iop .add .i64 c 1 = c + 1 := add_std har (by omega) (by omega)
        all_goals have ei : (i + 1).toNat = i.toNat + 1 := by omega
        all_goals first
          | (have h := bnot_t har (by assumption : ar.bnot al = true)
             exact ret_bb (recs_bad hlt (by rw [recOk, hx]; simp [hal, h])).symm)
          | (have h := neq_t har (by assumption : ar.icmp .neq cn 0 = true)
             have h6 := eq_cmp har (by assumption : ar.icmp .eql x.t 6 = true)
             have hne : ¬ x.n = z.o := fun e => h (by rw [← hcn, cmpN_zero.2 e])
             exact ret_bb (recs_bad hlt (by rw [recOk, hx]; simp [isTop, h6, hne])).symm)
          | (have h := neq_f har (by assumption : ar.icmp .neq cn 0 = false)
             have h6 := eq_cmp har (by assumption : ar.icmp .eql x.t 6 = true)
             have ha := bnot_f har (by assumption : ar.bnot al = false)
             have hen : x.n = z.o := cmpN_zero.1 (hcn.trans h)
             refine ⟨(c + 1, i + 1), by rw [← e1, ← e2]; kernel_rfl, ⟨by dsimp only; omega, by dsimp only; omega, ?_, by dsimp only; omega, ?_, by dsimp only; omega⟩, by dsimp only; omega⟩
             · show recsOk z (i + 1).toNat = true
               rw [ei, recs_succ, hrk, recOk, hx]; simp only [show rrOkR x = true from hrx, hun, hu, hpv, hal, ha, beq_iff_eq.2 hen, Bool.or_true, Bool.and_true]
             · show (c + 1).toNat = topsN z.rs (i + 1).toNat
               rw [ei, tops_succ hx, ← hct]; simp [isTop, h6]; omega)
          | (have h6 := ne_cmp har (by assumption : ar.icmp .eql x.t 6 = false)
             have ha := bnot_f har (by assumption : ar.bnot al = false)
             refine ⟨(c, i + 1), by rw [← e1]; kernel_rfl, ⟨by dsimp only; omega, by dsimp only; omega, ?_, by dsimp only; omega, ?_, by dsimp only; omega⟩, by dsimp only; omega⟩
             · show recsOk z (i + 1).toNat = true
               rw [ei, recs_succ, hrk, recOk, hx]; simp [rrOkR, hrx, hun, hu, hpv, hal, ha, isTop, h6]
             · show c.toNat = topsN z.rs (i + 1).toNat
               rw [ei, tops_succ hx, ← hct]; simp [isTop, h6])
end Go.TL.Tryz
