/- Proved: the card of laws.FnRecords: for every argument (bytes of any number) the call returns true, and the argument reads behind the call as it read before. Conditions: the five package variables that the row lists hold at the start what the program lays (the card ties this to the text of the program); machine and world as the row says. -/
/- Texts of a proof, joined by a program (merge.py): TfHdI TfRgI TfTrP TfSpS TfFrI TfRecE. -/
import Derived.Test.YthgiojaenbgdgaaGreatDoorT09
set_option linter.all false
/- TfHdI -/
namespace Go.TL.Tryz
open Go Go.TL Go.Proofs
variable {P : Program}

structure Hed where
  name : List (List UInt8)
  kind : Int
  cls : Int
  ttl : Int
  n : Int
/-- What has been read behind so many steps, and the place behind it. -/
def hdAt (m : List UInt8) (i : Int) : Nat → Hed × Int
  | 0 => (⟨[], 0, 0, 0, 0⟩, i)
  | 1 => (⟨(nameGet m i).1, 0, 0, 0, 0⟩, (nameGet m i).2)
  | 2 => match hdAt m i 1 with | (h, p) => ({ h with kind := (getS m p 2).1 }, (getS m p 2).2)
  | 3 => match hdAt m i 2 with | (h, p) => ({ h with cls := (getS m p 2).1 }, (getS m p 2).2)
  | 4 => match hdAt m i 3 with | (h, p) => ({ h with ttl := (getS m p 4).1 }, (getS m p 4).2)
  | 5 => match hdAt m i 4 with | (h, p) => ({ h with n := (getS m p 2).1 }, (getS m p 2).2)
  | _ => (⟨[], 0, 0, 0, 0⟩, i)
def hdAll (m : List UInt8) (i : Int) : Bool :=
  decide (0 ≤ (hdAt m i 1).2) && (decide (0 ≤ (hdAt m i 2).2) && (decide (0 ≤ (hdAt m i 3).2) && (decide (0 ≤ (hdAt m i 4).2) && decide (0 ≤ (hdAt m i 5).2))))
def headGet (m : List UInt8) (i : Int) : Hed × Int := if hdAll m i then hdAt m i 5 else (⟨[], 0, 0, 0, 0⟩, -1)
set_option maxRecDepth 20000 in
theorem fn90 : Tryz.prog.funcs[90]? = some Tryz.f90 := rfl
set_option maxHeartbeats 40000000 in
set_option maxRecDepth 3000 in
theorem iHead1 (hP : Prg P) {b : List UInt8} {es : List (List T)} {p k c ttl n : Int} (hl : encB b = es) (hb : b.length ≤ 1000000) : ACall P 90 [.one (.ptr 0 0), .one (.ptr 1 0), .one (.ptr 2 0)] [(0, .box [.t (.sl es)] false), (1, .box [.t (.int .i64 p)] false), (2, .box [.nil, .t (.int .i64 k), .t (.int .i64 c), .t (.int .i64 ttl), .t (.int .i64 n)] false)]
   (fun r ob => r = .tup [] ∧ ob = [(0, .box [.t (.sl es)] false), (1, .box [.t (.int .i64 (nameGet b p).2)] false), (2, .box [.t (.sl (encN (nameGet b p).1)), .t (.int .i64 k), .t (.int .i64 c), .t (.int .i64 ttl), .t (.int .i64 n)] false)]) := by
  refine acall_fn (md := md) [] v90 hP.mixed hP.tab (fn_at hP fn90) 3 rfl (by decide +kernel) rfl ?_
  intro ar har
  cbv
  repeat' (first | (intro; cbv) | (with_reducible refine and_side ?_ ?_; rotate_left; try cbv) | (refine ChkP.mk (by rfl) ?_; cbv) | (refine br_intro ?_ ?_ <;> intro <;> cbv) | (refine get_at har (by assumption) (by assumption) (by assumption) (by assumption) ?_; cbv) | (refine get_lt har (by assumption) (by assumption) (by assumption) ?_; intro x xx hx hxx; cbv) | (refine get_atN har (by assumption) (by assumption) (by assumption) (by assumption) ?_; cbv) | (refine get_ltN har (by assumption) (by assumption) (by assumption) ?_; intro x xx hx hxx; cbv) | (refine get_atI har (by assumption) (by assumption) (by decide) ?_; cbv) | (refine get_twoA har (by assumption) (by assumption) (by decide) ?_; intro x hx; cbv) | (refine get_twoB har (by assumption) (by assumption) (by decide) ?_; intro x hx; cbv) | (refine bytes_intro (by assumption) ?_; cbv) | (exact side_lt har (by assumption) (by assumption)) | (exact side_inb har (by assumption) (by assumption) (by assumption)) | (exact side_sh har (by decide)) | (exact side_app har (by assumption) (by assumption) (by omega)) | (exact side_app0 har (by assumption) (by omega)) | (exact side_new har (by assumption) (by omega)) | (exact side_one har (by assumption) (by omega)) | (exact side_oneN har (by assumption) (by omega)) | (exact side_flat har (by assumption)) | (exact side_sbig har (by omega)) | (refine side_sbig har ?_; simp; done) | (exact side_oneI har (by assumption) (by omega)) | (refine side_ix har ?_; simp; done) | (refine side_ix har ?_; simp; omega) | (refine call_intro (iNameGet hP (by assumption) (by omega)) ?_; rintro r ob ⟨rfl, rfl⟩; generalize hng : nameGet _ _ = ng; obtain ⟨ngn, nge⟩ := ng; dsimp only; generalize hngn : encN ngn = ngs; cbv) | (refine calld_intro (iNameGet hP (by assumption) (by omega)) ?_; generalize hng : nameGet _ _ = ng; obtain ⟨ngn, nge⟩ := ng; dsimp only; generalize hngn : encN ngn = ngs; cbv))
  exact ⟨⟨rfl, rfl⟩⟩
set_option maxRecDepth 20000 in
theorem fn91 : Tryz.prog.funcs[91]? = some Tryz.f91 := rfl
set_option maxHeartbeats 40000000 in
set_option maxRecDepth 3000 in
theorem iHead2 (hP : Prg P) {b : List UInt8} {es ns : List (List T)} {p k c ttl n : Int} (hl : encB b = es) (hb : b.length ≤ 1000000) : ACall P 91 [.one (.ptr 0 0), .one (.ptr 1 0), .one (.ptr 2 0)] [(0, .box [.t (.sl es)] false), (1, .box [.t (.int .i64 p)] false), (2, .box [.t (.sl ns), .t (.int .i64 k), .t (.int .i64 c), .t (.int .i64 ttl), .t (.int .i64 n)] false)]
   (fun r ob => r = .tup [] ∧ ob = [(0, .box [.t (.sl es)] false), (1, .box [.t (.int .i64 (getS b p 2).2)] false), (2, .box [.t (.sl ns), .t (.int .i64 (getS b p 2).1), .t (.int .i64 c), .t (.int .i64 ttl), .t (.int .i64 n)] false)]) := by
  refine acall_fn (md := md) [] v91 hP.mixed hP.tab (fn_at hP fn91) 3 rfl (by decide +kernel) rfl ?_
  intro ar har
  cbv
  repeat' (first | (intro; cbv) | (with_reducible refine and_side ?_ ?_; rotate_left; try cbv) | (refine ChkP.mk (by rfl) ?_; cbv) | (refine br_intro ?_ ?_ <;> intro <;> cbv) | (refine get_at har (by assumption) (by assumption) (by assumption) (by assumption) ?_; cbv) | (refine get_lt har (by assumption) (by assumption) (by assumption) ?_; intro x xx hx hxx; cbv) | (refine get_atN har (by assumption) (by assumption) (by assumption) (by assumption) ?_; cbv) | (refine get_ltN har (by assumption) (by assumption) (by assumption) ?_; intro x xx hx hxx; cbv) | (refine get_atI har (by assumption) (by assumption) (by decide) ?_; cbv) | (refine get_twoA har (by assumption) (by assumption) (by decide) ?_; intro x hx; cbv) | (refine get_twoB har (by assumption) (by assumption) (by decide) ?_; intro x hx; cbv) | (refine bytes_intro (by assumption) ?_; cbv) | (exact side_lt har (by assumption) (by assumption)) | (exact side_inb har (by assumption) (by assumption) (by assumption)) | (exact side_sh har (by decide)) | (exact side_app har (by assumption) (by assumption) (by omega)) | (exact side_app0 har (by assumption) (by omega)) | (exact side_new har (by assumption) (by omega)) | (exact side_one har (by assumption) (by omega)) | (exact side_oneN har (by assumption) (by omega)) | (exact side_flat har (by assumption)) | (exact side_sbig har (by omega)) | (refine side_sbig har ?_; simp; done) | (exact side_oneI har (by assumption) (by omega)) | (refine side_ix har ?_; simp; done) | (refine side_ix har ?_; simp; omega) | (refine call_intro (iGet hP (by assumption) (by omega) (by omega)) ?_; rintro r ob ⟨rfl, rfl⟩; generalize hgs : getS _ _ _ = gs; obtain ⟨gv, ga⟩ := gs; dsimp only; cbv) | (refine calld_intro (iGet hP (by assumption) (by omega) (by omega)) ?_; generalize hgs : getS _ _ _ = gs; obtain ⟨gv, ga⟩ := gs; dsimp only; cbv))
  exact ⟨⟨rfl, rfl⟩⟩
set_option maxRecDepth 20000 in
theorem fn92 : Tryz.prog.funcs[92]? = some Tryz.f92 := rfl
set_option maxHeartbeats 40000000 in
set_option maxRecDepth 3000 in
theorem iHead3 (hP : Prg P) {b : List UInt8} {es ns : List (List T)} {p k c ttl n : Int} (hl : encB b = es) (hb : b.length ≤ 1000000) : ACall P 92 [.one (.ptr 0 0), .one (.ptr 1 0), .one (.ptr 2 0)] [(0, .box [.t (.sl es)] false), (1, .box [.t (.int .i64 p)] false), (2, .box [.t (.sl ns), .t (.int .i64 k), .t (.int .i64 c), .t (.int .i64 ttl), .t (.int .i64 n)] false)]
   (fun r ob => r = .tup [] ∧ ob = [(0, .box [.t (.sl es)] false), (1, .box [.t (.int .i64 (getS b p 2).2)] false), (2, .box [.t (.sl ns), .t (.int .i64 k), .t (.int .i64 (getS b p 2).1), .t (.int .i64 ttl), .t (.int .i64 n)] false)]) := by
  refine acall_fn (md := md) [] v92 hP.mixed hP.tab (fn_at hP fn92) 3 rfl (by decide +kernel) rfl ?_
  intro ar har
  cbv
  repeat' (first | (intro; cbv) | (with_reducible refine and_side ?_ ?_; rotate_left; try cbv) | (refine ChkP.mk (by rfl) ?_; cbv) | (refine br_intro ?_ ?_ <;> intro <;> cbv) | (refine get_at har (by assumption) (by assumption) (by assumption) (by assumption) ?_; cbv) | (refine get_lt har (by assumption) (by assumption) (by assumption) ?_; intro x xx hx hxx; cbv) | (refine get_atN har (by assumption) (by assumption) (by assumption) (by assumption) ?_; cbv) | (refine get_ltN har (by assumption) (by assumption) (by assumption) ?_; intro x xx hx hxx; cbv) | (refine get_atI har (by assumption) (by assumption) (by decide) ?_; cbv) | (refine get_twoA har (by assumption) (by assumption) (by decide) ?_; intro x hx; cbv) | (refine get_twoB har (by assumption) (by assumption) (by decide) ?_; intro x hx; cbv) | (refine bytes_intro (by assumption) ?_; cbv) | (exact side_lt har (by assumption) (by assumption)) | (exact side_inb har (by assumption) (by assumption) (by assumption)) | (exact side_sh har (by decide)) | (exact side_app har (by assumption) (by assumption) (by omega)) | (exact side_app0 har (by assumption) (by omega)) | (exact side_new har (by assumption) (by omega)) | (exact side_one har (by assumption) (by omega)) | (exact side_oneN har (by assumption) (by omega)) | (exact side_flat har (by assumption)) | (exact side_sbig har (by omega)) | (refine side_sbig har ?_; simp; done) | (exact side_oneI har (by assumption) (by omega)) | (refine side_ix har ?_; simp; done) | (refine side_ix har ?_; simp; omega) | (refine call_intro (iGet hP (by assumption) (by omega) (by omega)) ?_; rintro r ob ⟨rfl, rfl⟩; generalize hgs : getS _ _ _ = gs; obtain ⟨gv, ga⟩ := gs; dsimp only; cbv) | (refine calld_intro (iGet hP (by assumption) (by omega) (by omega)) ?_; generalize hgs : getS _ _ _ = gs; obtain ⟨gv, ga⟩ := gs; dsimp only; cbv))
  exact ⟨⟨rfl, rfl⟩⟩
set_option maxRecDepth 20000 in
theorem fn93 : Tryz.prog.funcs[93]? = some Tryz.f93 := rfl
set_option maxHeartbeats 40000000 in
set_option maxRecDepth 3000 in
theorem iHead4 (hP : Prg P) {b : List UInt8} {es ns : List (List T)} {p k c ttl n : Int} (hl : encB b = es) (hb : b.length ≤ 1000000) : ACall P 93 [.one (.ptr 0 0), .one (.ptr 1 0), .one (.ptr 2 0)] [(0, .box [.t (.sl es)] false), (1, .box [.t (.int .i64 p)] false), (2, .box [.t (.sl ns), .t (.int .i64 k), .t (.int .i64 c), .t (.int .i64 ttl), .t (.int .i64 n)] false)]
   (fun r ob => r = .tup [] ∧ ob = [(0, .box [.t (.sl es)] false), (1, .box [.t (.int .i64 (getS b p 4).2)] false), (2, .box [.t (.sl ns), .t (.int .i64 k), .t (.int .i64 c), .t (.int .i64 (getS b p 4).1), .t (.int .i64 n)] false)]) := by
  refine acall_fn (md := md) [] v93 hP.mixed hP.tab (fn_at hP fn93) 3 rfl (by decide +kernel) rfl ?_
  intro ar har
  cbv
  repeat' (first | (intro; cbv) | (with_reducible refine and_side ?_ ?_; rotate_left; try cbv) | (refine ChkP.mk (by rfl) ?_; cbv) | (refine br_intro ?_ ?_ <;> intro <;> cbv) | (refine get_at har (by assumption) (by assumption) (by assumption) (by assumption) ?_; cbv) | (refine get_lt har (by assumption) (by assumption) (by assumption) ?_; intro x xx hx hxx; cbv) | (refine get_atN har (by assumption) (by assumption) (by assumption) (by assumption) ?_; cbv) | (refine get_ltN har (by assumption) (by assumption) (by assumption) ?_; intro x xx hx hxx; cbv) | (refine get_atI har (by assumption) (by assumption) (by decide) ?_; cbv) | (refine get_twoA har (by assumption) (by assumption) (by decide) ?_; intro x hx; cbv) | (refine get_twoB har (by assumption) (by assumption) (by decide) ?_; intro x hx; cbv) | (refine bytes_intro (by assumption) ?_; cbv) | (exact side_lt har (by assumption) (by assumption)) | (exact side_inb har (by assumption) (by assumption) (by assumption)) | (exact side_sh har (by decide)) | (exact side_app har (by assumption) (by assumption) (by omega)) | (exact side_app0 har (by assumption) (by omega)) | (exact side_new har (by assumption) (by omega)) | (exact side_one har (by assumption) (by omega)) | (exact side_oneN har (by assumption) (by omega)) | (exact side_flat har (by assumption)) | (exact side_sbig har (by omega)) | (refine side_sbig har ?_; simp; done) | (exact side_oneI har (by assumption) (by omega)) | (refine side_ix har ?_; simp; done) | (refine side_ix har ?_; simp; omega) | (refine call_intro (iGet hP (by assumption) (by omega) (by omega)) ?_; rintro r ob ⟨rfl, rfl⟩; generalize hgs : getS _ _ _ = gs; obtain ⟨gv, ga⟩ := gs; dsimp only; cbv) | (refine calld_intro (iGet hP (by assumption) (by omega) (by omega)) ?_; generalize hgs : getS _ _ _ = gs; obtain ⟨gv, ga⟩ := gs; dsimp only; cbv))
  exact ⟨⟨rfl, rfl⟩⟩
set_option maxRecDepth 20000 in
theorem fn94 : Tryz.prog.funcs[94]? = some Tryz.f94 := rfl
set_option maxHeartbeats 40000000 in
set_option maxRecDepth 3000 in
theorem iHead5 (hP : Prg P) {b : List UInt8} {es ns : List (List T)} {p k c ttl n : Int} (hl : encB b = es) (hb : b.length ≤ 1000000) : ACall P 94 [.one (.ptr 0 0), .one (.ptr 1 0), .one (.ptr 2 0)] [(0, .box [.t (.sl es)] false), (1, .box [.t (.int .i64 p)] false), (2, .box [.t (.sl ns), .t (.int .i64 k), .t (.int .i64 c), .t (.int .i64 ttl), .t (.int .i64 n)] false)]
   (fun r ob => r = .tup [] ∧ ob = [(0, .box [.t (.sl es)] false), (1, .box [.t (.int .i64 (getS b p 2).2)] false), (2, .box [.t (.sl ns), .t (.int .i64 k), .t (.int .i64 c), .t (.int .i64 ttl), .t (.int .i64 (getS b p 2).1)] false)]) := by
  refine acall_fn (md := md) [] v94 hP.mixed hP.tab (fn_at hP fn94) 3 rfl (by decide +kernel) rfl ?_
  intro ar har
  cbv
  repeat' (first | (intro; cbv) | (with_reducible refine and_side ?_ ?_; rotate_left; try cbv) | (refine ChkP.mk (by rfl) ?_; cbv) | (refine br_intro ?_ ?_ <;> intro <;> cbv) | (refine get_at har (by assumption) (by assumption) (by assumption) (by assumption) ?_; cbv) | (refine get_lt har (by assumption) (by assumption) (by assumption) ?_; intro x xx hx hxx; cbv) | (refine get_atN har (by assumption) (by assumption) (by assumption) (by assumption) ?_; cbv) | (refine get_ltN har (by assumption) (by assumption) (by assumption) ?_; intro x xx hx hxx; cbv) | (refine get_atI har (by assumption) (by assumption) (by decide) ?_; cbv) | (refine get_twoA har (by assumption) (by assumption) (by decide) ?_; intro x hx; cbv) | (refine get_twoB har (by assumption) (by assumption) (by decide) ?_; intro x hx; cbv) | (refine bytes_intro (by assumption) ?_; cbv) | (exact side_lt har (by assumption) (by assumption)) | (exact side_inb har (by assumption) (by assumption) (by assumption)) | (exact side_sh har (by decide)) | (exact side_app har (by assumption) (by assumption) (by omega)) | (exact side_app0 har (by assumption) (by omega)) | (exact side_new har (by assumption) (by omega)) | (exact side_one har (by assumption) (by omega)) | (exact side_oneN har (by assumption) (by omega)) | (exact side_flat har (by assumption)) | (exact side_sbig har (by omega)) | (refine side_sbig har ?_; simp; done) | (exact side_oneI har (by assumption) (by omega)) | (refine side_ix har ?_; simp; done) | (refine side_ix har ?_; simp; omega) | (refine call_intro (iGet hP (by assumption) (by omega) (by omega)) ?_; rintro r ob ⟨rfl, rfl⟩; generalize hgs : getS _ _ _ = gs; obtain ⟨gv, ga⟩ := gs; dsimp only; cbv) | (refine calld_intro (iGet hP (by assumption) (by omega) (by omega)) ?_; generalize hgs : getS _ _ _ = gs; obtain ⟨gv, ga⟩ := gs; dsimp only; cbv))
  exact ⟨⟨rfl, rfl⟩⟩
def mdH (n : Nat) : Md := bif eqB n 0 then ⟨[some [(15, 0)]], true⟩ else md n
def hdPos (m : List UInt8) (i : Int) : Nat → Prop
  | 0 => True
  | k + 1 => hdPos m i k ∧ 0 ≤ (hdAt m i (k + 1)).2
def hdR (h : Hed) (e : Int) : A := .tup [.agg [.t (.sl (encN h.name)), .t (.int .i64 h.kind), .t (.int .i64 h.cls), .t (.int .i64 h.ttl), .t (.int .i64 h.n)], .one (.t (.int .i64 e))]
theorem hd_all {m : List UInt8} {i : Int} (h : hdPos m i 5) : headGet m i = hdAt m i 5 := by
  obtain ⟨⟨⟨⟨⟨_, h1⟩, h2⟩, h3⟩, h4⟩, h5⟩ := h
  rw [headGet, hdAll, decide_eq_true h1, decide_eq_true h2, decide_eq_true h3, decide_eq_true h4, decide_eq_true h5]; rfl
theorem hd_none {m : List UInt8} {i : Int} {k : Nat} (h : (hdAt m i k).2 < 0) (hk : 1 ≤ k ∧ k ≤ 5) : headGet m i = (⟨[], 0, 0, 0, 0⟩, -1) := by
  have : hdAll m i = false := by
    match k, hk, h with
    | 1, _, h => rw [hdAll, decide_eq_false (p := 0 ≤ (hdAt m i 1).2) (by omega)]; simp
    | 2, _, h => rw [hdAll, decide_eq_false (p := 0 ≤ (hdAt m i 2).2) (by omega)]; simp
    | 3, _, h => rw [hdAll, decide_eq_false (p := 0 ≤ (hdAt m i 3).2) (by omega)]; simp
    | 4, _, h => rw [hdAll, decide_eq_false (p := 0 ≤ (hdAt m i 4).2) (by omega)]; simp
    | 5, _, h => rw [hdAll, decide_eq_false (p := 0 ≤ (hdAt m i 5).2) (by omega)]; simp
  rw [headGet, this]; rfl
/-- Where the loop stands. -/
def HJ (b : List UInt8) (i : Int) (x : Int × V × Int × Int × Int × Int × Int) : Prop :=
  x = (0, .nil, 0, 0, 0, 0, i) ∨ ∃ (k : Nat) (nm : List (List UInt8)) (ns : List (List T)) (kd c t n p : Int), 1 ≤ k ∧ k ≤ 5 ∧ hdAt b i k = (⟨nm, kd, c, t, n⟩, p) ∧ encN nm = ns ∧ hdPos b i k ∧ x = ((k : Int), V.t (.sl ns), kd, c, t, n, p)
theorem hj_next {b : List UInt8} {i : Int} {k : Nat} {nm : List (List UInt8)} {ns : List (List T)} {kd c t n p : Int} (hk : 1 ≤ k + 1 ∧ k + 1 ≤ 5) (h1 : hdAt b i (k + 1) = (⟨nm, kd, c, t, n⟩, p)) (h2 : encN nm = ns) (h3 : hdPos b i k) (h4 : 0 ≤ p) {j : Int} (hj : j = ((k + 1 : Nat) : Int)) :
    HJ b i (j, .t (.sl ns), kd, c, t, n, p) := .inr ⟨k + 1, nm, ns, kd, c, t, n, p, hk.1, hk.2, h1, h2, ⟨h3, by rw [h1]; exact h4⟩, by rw [hj]⟩
set_option maxRecDepth 20000 in
theorem fn38 : Tryz.prog.funcs[38]? = some Tryz.f38 := rfl
set_option maxHeartbeats 40000000 in
set_option maxRecDepth 3000 in
theorem iHead (hP : Prg P) {b : List UInt8} {es : List (List T)} {i : Int} (hl : encB b = es) (hb : b.length ≤ 1000000) : ACall P 38 [.one (.t (.sl es)), .one (.t (.int .i64 i))] []
    (fun r ob => r = hdR (headGet b i).1 (headGet b i).2 ∧ ob = []) := by
  refine acall_fn (md := mdH) [none, none] v38 hP.mixed hP.tab (fn_at hP fn38) 2 rfl (by decide +kernel) rfl ?_
  intro ar har
  cbv
  repeat' (first | (intro; cbv) | (with_reducible refine and_side ?_ ?_; rotate_left; try cbv) | (refine ChkP.mk (by rfl) ?_; cbv) | (refine br_intro ?_ ?_ <;> intro <;> cbv) | (refine get_at har (by assumption) (by assumption) (by assumption) (by assumption) ?_; cbv) | (refine get_lt har (by assumption) (by assumption) (by assumption) ?_; intro x xx hx hxx; cbv) | (refine get_atN har (by assumption) (by assumption) (by assumption) (by assumption) ?_; cbv) | (refine get_ltN har (by assumption) (by assumption) (by assumption) ?_; intro x xx hx hxx; cbv) | (refine get_atI har (by assumption) (by assumption) (by decide) ?_; cbv) | (refine get_twoA har (by assumption) (by assumption) (by decide) ?_; intro x hx; cbv) | (refine get_twoB har (by assumption) (by assumption) (by decide) ?_; intro x hx; cbv) | (refine bytes_intro (by assumption) ?_; cbv) | (exact side_lt har (by assumption) (by assumption)) | (exact side_inb har (by assumption) (by assumption) (by assumption)) | (exact side_sh har (by decide)) | (exact side_app har (by assumption) (by assumption) (by omega)) | (exact side_app0 har (by assumption) (by omega)) | (exact side_new har (by assumption) (by omega)) | (exact side_one har (by assumption) (by omega)) | (exact side_oneN har (by assumption) (by omega)) | (exact side_flat har (by assumption)) | (exact side_sbig har (by omega)) | (refine side_sbig har ?_; simp; done) | (exact side_oneI har (by assumption) (by omega)) | (refine side_ix har ?_; simp; done) | (refine side_ix har ?_; simp; omega))
  refine LoopP.mk (Int × V × Int × Int × Int × Int × Int) [3, 4, 5, 6, 15, 16, 17] []
    (fun x => ⟨[(3, .one (.ptr 16 0)), (4, .one (.ptr 17 0)), (5, .one (.t (.int .i64 0))), (6, .one (.ptr 18 0)), (15, .one (.bsl 19 5 1)), (16, .one (.t (.int .i64 (Int.ofNat 5)))), (17, .one (.t (.int .i64 x.1)))],
      [(16, .box [.t (.int .i64 x.2.2.2.2.2.2)] false), (17, .box [.nil, .t (.int .i64 0), .t (.int .i64 0), .t (.int .i64 0), .t (.int .i64 0)] false), (18, .box [x.2.1, .t (.int .i64 x.2.2.1), .t (.int .i64 x.2.2.2.1), .t (.int .i64 x.2.2.2.2.1), .t (.int .i64 x.2.2.2.2.2.1)] false),
        (19, .box [.fn (.func 90) [] [.ptr 20 0, .ptr 16 0, .ptr 18 0], .fn (.func 91) [] [.ptr 20 0, .ptr 16 0, .ptr 18 0], .fn (.func 92) [] [.ptr 20 0, .ptr 16 0, .ptr 18 0], .fn (.func 93) [] [.ptr 20 0, .ptr 16 0, .ptr 18 0], .fn (.func 94) [] [.ptr 20 0, .ptr 16 0, .ptr 18 0]] false),
        (20, .box [.t (.sl es)] false)]⟩)
    (HJ b i) (fun x => 5 - x.1.toNat) (0, .nil, 0, 0, 0, 0, i) ?e ?f ?g
  case e => kernel_rfl
  case f => exact .inl rfl
  case g =>
    intro x hx
    rcases hx with rfl | ⟨k, nm, ns, kd, c, t, n, p, hk1, hk5, hh, hns, hps, rfl⟩
    · cbv
      repeat' (first | (intro; cbv) | (with_reducible refine and_side ?_ ?_; rotate_left; try cbv) | (refine ChkP.mk (by rfl) ?_; cbv) | (refine br_intro ?_ ?_ <;> intro <;> cbv) | (refine get_at har (by assumption) (by assumption) (by assumption) (by assumption) ?_; cbv) | (refine get_lt har (by assumption) (by assumption) (by assumption) ?_; intro x xx hx hxx; cbv) | (refine get_atN har (by assumption) (by assumption) (by assumption) (by assumption) ?_; cbv) | (refine get_ltN har (by assumption) (by assumption) (by assumption) ?_; intro x xx hx hxx; cbv) | (refine get_atI har (by assumption) (by assumption) (by decide) ?_; cbv) | (refine get_twoA har (by assumption) (by assumption) (by decide) ?_; intro x hx; cbv) | (refine get_twoB har (by assumption) (by assumption) (by decide) ?_; intro x hx; cbv) | (refine bytes_intro (by assumption) ?_; cbv) | (exact side_lt har (by assumption) (by assumption)) | (exact side_inb har (by assumption) (by assumption) (by assumption)) | (exact side_sh har (by decide)) | (exact side_app har (by assumption) (by assumption) (by omega)) | (exact side_app0 har (by assumption) (by omega)) | (exact side_new har (by assumption) (by omega)) | (exact side_one har (by assumption) (by omega)) | (exact side_oneN har (by assumption) (by omega)) | (exact side_flat har (by assumption)) | (exact side_sbig har (by omega)) | (refine side_sbig har ?_; simp; done) | (exact side_oneI har (by assumption) (by omega)) | (refine side_ix har ?_; simp; done) | (refine side_ix har ?_; simp; omega) | (refine call_intro (iHead1 hP (by assumption) (by omega)) ?_; rintro r ob ⟨rfl, rfl⟩; generalize hng : nameGet _ _ = ng; obtain ⟨ngn, nge⟩ := ng; dsimp only; generalize hngn : encN ngn = ngs; cbv) | (refine calld_intro (iHead1 hP (by assumption) (by omega)) ?_; generalize hng : nameGet _ _ = ng; obtain ⟨ngn, nge⟩ := ng; dsimp only; generalize hngn : encN ngn = ngs; cbv))
      all_goals subst har
      · have h1 : hdAt b i 1 = (⟨ngn, 0, 0, 0, 0⟩, nge) := by rw [hdAt, hng]
        rename_i a
        refine ⟨⟨?_, rfl⟩⟩
        rw [hd_none (k := 1) (by rw [h1]; simpa [std, icmpS] using a) ⟨by decide, by decide⟩]; rfl
      · have h1 : hdAt b i 1 = (⟨ngn, 0, 0, 0, 0⟩, nge) := by rw [hdAt, hng]
        rename_i a _
        exact ⟨(1, .t (.sl ngs), 0, 0, 0, 0, nge), by kernel_rfl, hj_next (k := 0) ⟨by decide, by decide⟩ h1 hngn trivial (by simpa [std, icmpS] using a) rfl, by dsimp only; decide⟩
      · exact absurd (show std.icmp .lss 0 (Int.ofNat 5) = false by assumption) (by decide)
    · match k, hk1, hk5 with
      | 1, _, _ =>
        cbv
        repeat' (first | (intro; cbv) | (with_reducible refine and_side ?_ ?_; rotate_left; try cbv) | (refine ChkP.mk (by rfl) ?_; cbv) | (refine br_intro ?_ ?_ <;> intro <;> cbv) | (refine get_at har (by assumption) (by assumption) (by assumption) (by assumption) ?_; cbv) | (refine get_lt har (by assumption) (by assumption) (by assumption) ?_; intro x xx hx hxx; cbv) | (refine get_atN har (by assumption) (by assumption) (by assumption) (by assumption) ?_; cbv) | (refine get_ltN har (by assumption) (by assumption) (by assumption) ?_; intro x xx hx hxx; cbv) | (refine get_atI har (by assumption) (by assumption) (by decide) ?_; cbv) | (refine get_twoA har (by assumption) (by assumption) (by decide) ?_; intro x hx; cbv) | (refine get_twoB har (by assumption) (by assumption) (by decide) ?_; intro x hx; cbv) | (refine bytes_intro (by assumption) ?_; cbv) | (exact side_lt har (by assumption) (by assumption)) | (exact side_inb har (by assumption) (by assumption) (by assumption)) | (exact side_sh har (by decide)) | (exact side_app har (by assumption) (by assumption) (by omega)) | (exact side_app0 har (by assumption) (by omega)) | (exact side_new har (by assumption) (by omega)) | (exact side_one har (by assumption) (by omega)) | (exact side_oneN har (by assumption) (by omega)) | (exact side_flat har (by assumption)) | (exact side_sbig har (by omega)) | (refine side_sbig har ?_; simp; done) | (exact side_oneI har (by assumption) (by omega)) | (refine side_ix har ?_; simp; done) | (refine side_ix har ?_; simp; omega) | (refine call_intro (iHead2 hP (by assumption) (by omega)) ?_; rintro r ob ⟨rfl, rfl⟩; generalize hgs : getS _ _ _ = gs; obtain ⟨gv, ga⟩ := gs; dsimp only; cbv) | (refine calld_intro (iHead2 hP (by assumption) (by omega)) ?_; generalize hgs : getS _ _ _ = gs; obtain ⟨gv, ga⟩ := gs; dsimp only; cbv))
        all_goals subst har
        · have h1 : hdAt b i 2 = (⟨nm, gv, c, t, n⟩, ga) := by rw [hdAt, hh]; dsimp only; rw [hgs]
          rename_i a
          refine ⟨⟨?_, rfl⟩⟩
          rw [hd_none (k := 2) (by rw [h1]; simpa [std, icmpS] using a) ⟨by decide, by decide⟩]; rfl
        · have h1 : hdAt b i 2 = (⟨nm, gv, c, t, n⟩, ga) := by rw [hdAt, hh]; dsimp only; rw [hgs]
          rename_i a _
          exact ⟨(2, .t (.sl ns), gv, c, t, n, ga), by kernel_rfl, hj_next (k := 1) ⟨by decide, by decide⟩ h1 hns hps (by simpa [std, icmpS] using a) rfl, by dsimp only; decide⟩
        · exact absurd (show std.icmp .lss (Int.ofNat 1) (Int.ofNat 5) = false by assumption) (by decide)
      | 2, _, _ =>
        cbv
        repeat' (first | (intro; cbv) | (with_reducible refine and_side ?_ ?_; rotate_left; try cbv) | (refine ChkP.mk (by rfl) ?_; cbv) | (refine br_intro ?_ ?_ <;> intro <;> cbv) | (refine get_at har (by assumption) (by assumption) (by assumption) (by assumption) ?_; cbv) | (refine get_lt har (by assumption) (by assumption) (by assumption) ?_; intro x xx hx hxx; cbv) | (refine get_atN har (by assumption) (by assumption) (by assumption) (by assumption) ?_; cbv) | (refine get_ltN har (by assumption) (by assumption) (by assumption) ?_; intro x xx hx hxx; cbv) | (refine get_atI har (by assumption) (by assumption) (by decide) ?_; cbv) | (refine get_twoA har (by assumption) (by assumption) (by decide) ?_; intro x hx; cbv) | (refine get_twoB har (by assumption) (by assumption) (by decide) ?_; intro x hx; cbv) | (refine bytes_intro (by assumption) ?_; cbv) | (exact side_lt har (by assumption) (by assumption)) | (exact side_inb har (by assumption) (by assumption) (by assumption)) | (exact side_sh har (by decide)) | (exact side_app har (by assumption) (by assumption) (by omega)) | (exact side_app0 har (by assumption) (by omega)) | (exact side_new har (by assumption) (by omega)) | (exact side_one har (by assumption) (by omega)) | (exact side_oneN har (by assumption) (by omega)) | (exact side_flat har (by assumption)) | (exact side_sbig har (by omega)) | (refine side_sbig har ?_; simp; done) | (exact side_oneI har (by assumption) (by omega)) | (refine side_ix har ?_; simp; done) | (refine side_ix har ?_; simp; omega) | (refine call_intro (iHead3 hP (by assumption) (by omega)) ?_; rintro r ob ⟨rfl, rfl⟩; generalize hgs : getS _ _ _ = gs; obtain ⟨gv, ga⟩ := gs; dsimp only; cbv) | (refine calld_intro (iHead3 hP (by assumption) (by omega)) ?_; generalize hgs : getS _ _ _ = gs; obtain ⟨gv, ga⟩ := gs; dsimp only; cbv))
        all_goals subst har
        · have h1 : hdAt b i 3 = (⟨nm, kd, gv, t, n⟩, ga) := by rw [hdAt, hh]; dsimp only; rw [hgs]
          rename_i a
          refine ⟨⟨?_, rfl⟩⟩
          rw [hd_none (k := 3) (by rw [h1]; simpa [std, icmpS] using a) ⟨by decide, by decide⟩]; rfl
        · have h1 : hdAt b i 3 = (⟨nm, kd, gv, t, n⟩, ga) := by rw [hdAt, hh]; dsimp only; rw [hgs]
          rename_i a _
          exact ⟨(3, .t (.sl ns), kd, gv, t, n, ga), by kernel_rfl, hj_next (k := 2) ⟨by decide, by decide⟩ h1 hns hps (by simpa [std, icmpS] using a) rfl, by dsimp only; decide⟩
        · exact absurd (show std.icmp .lss (Int.ofNat 2) (Int.ofNat 5) = false by assumption) (by decide)
      | 3, _, _ =>
        cbv
        repeat' (first | (intro; cbv) | (with_reducible refine and_side ?_ ?_; rotate_left; try cbv) | (refine ChkP.mk (by rfl) ?_; cbv) | (refine br_intro ?_ ?_ <;> intro <;> cbv) | (refine get_at har (by assumption) (by assumption) (by assumption) (by assumption) ?_; cbv) | (refine get_lt har (by assumption) (by assumption) (by assumption) ?_; intro x xx hx hxx; cbv) | (refine get_atN har (by assumption) (by assumption) (by assumption) (by assumption) ?_; cbv) | (refine get_ltN har (by assumption) (by assumption) (by assumption) ?_; intro x xx hx hxx; cbv) | (refine get_atI har (by assumption) (by assumption) (by decide) ?_; cbv) | (refine get_twoA har (by assumption) (by assumption) (by decide) ?_; intro x hx; cbv) | (refine get_twoB har (by assumption) (by assumption) (by decide) ?_; intro x hx; cbv) | (refine bytes_intro (by assumption) ?_; cbv) | (exact side_lt har (by assumption) (by assumption)) | (exact side_inb har (by assumption) (by assumption) (by assumption)) | (exact side_sh har (by decide)) | (exact side_app har (by assumption) (by assumption) (by omega)) | (exact side_app0 har (by assumption) (by omega)) | (exact side_new har (by assumption) (by omega)) | (exact side_one har (by assumption) (by omega)) | (exact side_oneN har (by assumption) (by omega)) | (exact side_flat har (by assumption)) | (exact side_sbig har (by omega)) | (refine side_sbig har ?_; simp; done) | (exact side_oneI har (by assumption) (by omega)) | (refine side_ix har ?_; simp; done) | (refine side_ix har ?_; simp; omega) | (refine call_intro (iHead4 hP (by assumption) (by omega)) ?_; rintro r ob ⟨rfl, rfl⟩; generalize hgs : getS _ _ _ = gs; obtain ⟨gv, ga⟩ := gs; dsimp only; cbv) | (refine calld_intro (iHead4 hP (by assumption) (by omega)) ?_; generalize hgs : getS _ _ _ = gs; obtain ⟨gv, ga⟩ := gs; dsimp only; cbv))
        all_goals subst har
        · have h1 : hdAt b i 4 = (⟨nm, kd, c, gv, n⟩, ga) := by rw [hdAt, hh]; dsimp only; rw [hgs]
          rename_i a
          refine ⟨⟨?_, rfl⟩⟩
          rw [hd_none (k := 4) (by rw [h1]; simpa [std, icmpS] using a) ⟨by decide, by decide⟩]; rfl
        · have h1 : hdAt b i 4 = (⟨nm, kd, c, gv, n⟩, ga) := by rw [hdAt, hh]; dsimp only; rw [hgs]
          rename_i a _
          exact ⟨(4, .t (.sl ns), kd, c, gv, n, ga), by kernel_rfl, hj_next (k := 3) ⟨by decide, by decide⟩ h1 hns hps (by simpa [std, icmpS] using a) rfl, by dsimp only; decide⟩
        · exact absurd (show std.icmp .lss (Int.ofNat 3) (Int.ofNat 5) = false by assumption) (by decide)
      | 4, _, _ =>
        cbv
        repeat' (first | (intro; cbv) | (with_reducible refine and_side ?_ ?_; rotate_left; try cbv) | (refine ChkP.mk (by rfl) ?_; cbv) | (refine br_intro ?_ ?_ <;> intro <;> cbv) | (refine get_at har (by assumption) (by assumption) (by assumption) (by assumption) ?_; cbv) | (refine get_lt har (by assumption) (by assumption) (by assumption) ?_; intro x xx hx hxx; cbv) | (refine get_atN har (by assumption) (by assumption) (by assumption) (by assumption) ?_; cbv) | (refine get_ltN har (by assumption) (by assumption) (by assumption) ?_; intro x xx hx hxx; cbv) | (refine get_atI har (by assumption) (by assumption) (by decide) ?_; cbv) | (refine get_twoA har (by assumption) (by assumption) (by decide) ?_; intro x hx; cbv) | (refine get_twoB har (by assumption) (by assumption) (by decide) ?_; intro x hx; cbv) | (refine bytes_intro (by assumption) ?_; cbv) | (exact side_lt har (by assumption) (by assumption)) | (exact side_inb har (by assumption) (by assumption) (by assumption)) | (exact side_sh har (by decide)) | (exact side_app har (by assumption) (by assumption) (by omega)) | (exact side_app0 har (by assumption) (by omega)) | (exact side_new har (by assumption) (by omega)) | (exact side_one har (by assumption) (by omega)) | (exact side_oneN har (by assumption) (by omega)) | (exact side_flat har (by assumption)) | (exact side_sbig har (by omega)) | (refine side_sbig har ?_; simp; done) | (exact side_oneI har (by assumption) (by omega)) | (refine side_ix har ?_; simp; done) | (refine side_ix har ?_; simp; omega) | (refine call_intro (iHead5 hP (by assumption) (by omega)) ?_; rintro r ob ⟨rfl, rfl⟩; generalize hgs : getS _ _ _ = gs; obtain ⟨gv, ga⟩ := gs; dsimp only; cbv) | (refine calld_intro (iHead5 hP (by assumption) (by omega)) ?_; generalize hgs : getS _ _ _ = gs; obtain ⟨gv, ga⟩ := gs; dsimp only; cbv))
        all_goals subst har
        · have h1 : hdAt b i 5 = (⟨nm, kd, c, t, gv⟩, ga) := by rw [hdAt, hh]; dsimp only; rw [hgs]
          rename_i a
          refine ⟨⟨?_, rfl⟩⟩
          rw [hd_none (k := 5) (by rw [h1]; simpa [std, icmpS] using a) ⟨by decide, by decide⟩]; rfl
        · have h1 : hdAt b i 5 = (⟨nm, kd, c, t, gv⟩, ga) := by rw [hdAt, hh]; dsimp only; rw [hgs]
          rename_i a _
          exact ⟨(5, .t (.sl ns), kd, c, t, gv, ga), by kernel_rfl, hj_next (k := 4) ⟨by decide, by decide⟩ h1 hns hps (by simpa [std, icmpS] using a) rfl, by dsimp only; decide⟩
        · exact absurd (show std.icmp .lss (Int.ofNat 4) (Int.ofNat 5) = false by assumption) (by decide)
      | 5, _, _ =>
        cbv
        repeat' (first | (intro; cbv) | (with_reducible refine and_side ?_ ?_; rotate_left; try cbv) | (refine ChkP.mk (by rfl) ?_; cbv) | (refine br_intro ?_ ?_ <;> intro <;> cbv) | (refine get_at har (by assumption) (by assumption) (by assumption) (by assumption) ?_; cbv) | (refine get_lt har (by assumption) (by assumption) (by assumption) ?_; intro x xx hx hxx; cbv) | (refine get_atN har (by assumption) (by assumption) (by assumption) (by assumption) ?_; cbv) | (refine get_ltN har (by assumption) (by assumption) (by assumption) ?_; intro x xx hx hxx; cbv) | (refine get_atI har (by assumption) (by assumption) (by decide) ?_; cbv) | (refine get_twoA har (by assumption) (by assumption) (by decide) ?_; intro x hx; cbv) | (refine get_twoB har (by assumption) (by assumption) (by decide) ?_; intro x hx; cbv) | (refine bytes_intro (by assumption) ?_; cbv) | (exact side_lt har (by assumption) (by assumption)) | (exact side_inb har (by assumption) (by assumption) (by assumption)) | (exact side_sh har (by decide)) | (exact side_app har (by assumption) (by assumption) (by omega)) | (exact side_app0 har (by assumption) (by omega)) | (exact side_new har (by assumption) (by omega)) | (exact side_one har (by assumption) (by omega)) | (exact side_oneN har (by assumption) (by omega)) | (exact side_flat har (by assumption)) | (exact side_sbig har (by omega)) | (refine side_sbig har ?_; simp; done) | (exact side_oneI har (by assumption) (by omega)) | (refine side_ix har ?_; simp; done) | (refine side_ix har ?_; simp; omega))
        all_goals subst har
        · exact absurd (show std.icmp .lss (Int.ofNat 5) (Int.ofNat 5) = true by assumption) (by decide)
        · refine ⟨⟨?_, rfl⟩⟩
          rw [hd_all hps, hh]; dsimp only [hdR]; rw [hns]
end Go.TL.Tryz

/- TfRgI -/
namespace Go.TL.Tryz
open Go Go.TL Go.Proofs
variable {P : Program}

def rgOk (m : List UInt8) (h : Hed) (e : Int) : Bool :=
  decide (0 ≤ e) && (decide (h.cls = 1) && (dgOk h.kind m e h.n && rrOk h.name h.kind h.ttl (dataGet h.kind m e h.n).addr (dataGet h.kind m e h.n).to (dataGet h.kind m e h.n).tx (dataGet h.kind m e h.n).nu))
def rrR (ok : Bool) (h : Hed) (d : Dat) (e : Int) : A :=
  if ok then .tup [.agg [.t (.sl (encN h.name)), .t (.int .i64 h.kind), .t (.int .i64 h.ttl), .t (.int .i64 d.addr), .t (.sl (encN d.to)), .t (.sl (encB d.tx)), .t (.sl (encI d.nu))], .one (.t (.int .i64 e))]
  else .tup [.agg [.t (.sl []), .t (.int .i64 0), .t (.int .i64 0), .t (.int .i64 0), .t (.sl []), .t (.sl []), .t (.sl [])], .one (.t (.int .i64 (-1)))]
theorem getV_two_rng {l : List UInt8} (h : l.length = 2) : 0 ≤ getV l ∧ getV l ≤ 65535 := by
  match l, h with
  | [a, b], _ =>
    have ha := iB_lo a; have ha' := iB_hi a; have hb := iB_lo b; have hb' := iB_hi b
    rw [getV_two]; omega
/-- What has been read as the data's length is small, and the place lies in the bytes. -/
theorem headGet_rng {m : List UInt8} {i : Int} (h : 0 ≤ (headGet m i).2) : 0 ≤ (headGet m i).1.n ∧ (headGet m i).1.n ≤ 65535 ∧ (headGet m i).2.toNat ≤ m.length := by
  unfold headGet at *
  split at h
  · rename_i ha
    rw [if_pos ha]
    have h5 : 0 ≤ (hdAt m i 5).2 := h
    have e1 : (hdAt m i 5).1.n = (getS m (hdAt m i 4).2 2).1 := by conv => lhs; rw [hdAt]
    have e2 : (hdAt m i 5).2 = (getS m (hdAt m i 4).2 2).2 := by conv => lhs; rw [hdAt]
    rw [e2] at h5
    obtain ⟨g1, g2, g3, g4⟩ := getS_rng (k := 2) (by decide) (show ¬ (getS m (hdAt m i 4).2 2).2 < 0 by omega)
    have hl := subB_len g1 (by decide) g3
    have := getV_two_rng hl
    rw [e1, e2, g4]
    omega
  · exact absurd h (by decide)
theorem rg_no {ok : Bool} {h : Hed} {d : Dat} {e : Int} (hk : ok = false) : A.tup [.agg [.t (.sl []), .t (.int .i64 0), .t (.int .i64 0), .t (.int .i64 0), .t (.sl []), .t (.sl []), .t (.sl [])], .one (.t (.int .i64 (-1)))] = rrR ok h d e := by
  rw [hk]; rfl
set_option maxRecDepth 20000 in
theorem fn10 : Tryz.prog.funcs[10]? = some Tryz.f10 := rfl
set_option maxHeartbeats 40000000 in
set_option maxRecDepth 3000 in
theorem iRrGet (hP : Prg P) {b : List UInt8} {es : List (List T)} {i : Int} (hl : encB b = es) (hb : b.length ≤ 1000000) : ACall P 10 [.one (.t (.sl es)), .one (.t (.int .i64 i))] []
    (fun r ob => r = rrR (rgOk b (headGet b i).1 (headGet b i).2) (headGet b i).1 (dataGet (headGet b i).1.kind b (headGet b i).2 (headGet b i).1.n) ((headGet b i).2 + (headGet b i).1.n) ∧ ob = []) := by
  have hrng := headGet_rng (m := b) (i := i)
  refine acall_fn (md := md) [none, none] v10 hP.mixed hP.tab (fn_at hP fn10) 2 rfl (by decide +kernel) rfl ?_
  intro ar har
  cbv
  repeat' (first | (intro; cbv) | (with_reducible refine and_side ?_ ?_; rotate_left; try cbv) | (refine ChkP.mk (by rfl) ?_; cbv) | (refine br_intro ?_ ?_ <;> intro <;> cbv) | (refine get_at har (by assumption) (by assumption) (by assumption) (by assumption) ?_; cbv) | (refine get_lt har (by assumption) (by assumption) (by assumption) ?_; intro x xx hx hxx; cbv) | (refine get_atN har (by assumption) (by assumption) (by assumption) (by assumption) ?_; cbv) | (refine get_ltN har (by assumption) (by assumption) (by assumption) ?_; intro x xx hx hxx; cbv) | (refine get_atI har (by assumption) (by assumption) (by decide) ?_; cbv) | (refine get_twoA har (by assumption) (by assumption) (by decide) ?_; intro x hx; cbv) | (refine get_twoB har (by assumption) (by assumption) (by decide) ?_; intro x hx; cbv) | (refine bytes_intro (by assumption) ?_; cbv) | (exact side_lt har (by assumption) (by assumption)) | (exact side_inb har (by assumption) (by assumption) (by assumption)) | (exact side_sh har (by decide)) | (exact side_app har (by assumption) (by assumption) (by omega)) | (exact side_app0 har (by assumption) (by omega)) | (exact side_new har (by assumption) (by omega)) | (exact side_one har (by assumption) (by omega)) | (exact side_oneN har (by assumption) (by omega)) | (exact side_flat har (by assumption)) | (exact side_sbig har (by omega)) | (refine side_sbig har ?_; simp; done) | (exact side_oneI har (by assumption) (by omega)) | (refine side_ix har ?_; simp; done) | (refine side_ix har ?_; simp; omega))
  refine call_intro (iHead hP hl hb) ?_
  rintro r ob ⟨rfl, rfl⟩
  generalize headGet b i = hd at hrng ⊢
  obtain ⟨⟨n, k, c, t, z⟩, e⟩ := hd
  dsimp only [hdR] at hrng ⊢
  generalize hn : encN n = ns
  cbv
  repeat' (first | (intro; cbv) | (with_reducible refine and_side ?_ ?_; rotate_left; try cbv) | (refine ChkP.mk (by rfl) ?_; cbv) | (refine br_intro ?_ ?_ <;> intro <;> cbv) | (refine get_at har (by assumption) (by assumption) (by assumption) (by assumption) ?_; cbv) | (refine get_lt har (by assumption) (by assumption) (by assumption) ?_; intro x xx hx hxx; cbv) | (refine get_atN har (by assumption) (by assumption) (by assumption) (by assumption) ?_; cbv) | (refine get_ltN har (by assumption) (by assumption) (by assumption) ?_; intro x xx hx hxx; cbv) | (refine get_atI har (by assumption) (by assumption) (by decide) ?_; cbv) | (refine get_twoA har (by assumption) (by assumption) (by decide) ?_; intro x hx; cbv) | (refine get_twoB har (by assumption) (by assumption) (by decide) ?_; intro x hx; cbv) | (refine bytes_intro (by assumption) ?_; cbv) | (exact side_lt har (by assumption) (by assumption)) | (exact side_inb har (by assumption) (by assumption) (by assumption)) | (exact side_sh har (by decide)) | (exact side_app har (by assumption) (by assumption) (by omega)) | (exact side_app0 har (by assumption) (by omega)) | (exact side_new har (by assumption) (by omega)) | (exact side_one har (by assumption) (by omega)) | (exact side_oneN har (by assumption) (by omega)) | (exact side_flat har (by assumption)) | (exact side_sbig har (by omega)) | (refine side_sbig har ?_; simp; done) | (exact side_oneI har (by assumption) (by omega)) | (refine side_ix har ?_; simp; done) | (refine side_ix har ?_; simp; omega))
  · refine ⟨⟨rg_no ?_, rfl⟩⟩
    subst har; simp only [std, icmpS, decide_eq_true_eq, decide_eq_false_iff_not, Bool.not_eq_true', Bool.not_eq_false', bne_iff_ne, ne_eq, bne_eq_false_iff_eq, beq_iff_eq, beq_eq_false_iff_ne, Int.not_lt, Int.not_le, Bool.not_true, Bool.not_false, reduceCtorEq] at *
    rw [rgOk, decide_eq_false (p := 0 ≤ e) (by omega)]; rfl
  · refine ⟨⟨rg_no ?_, rfl⟩⟩
    subst har; simp only [std, icmpS, decide_eq_true_eq, decide_eq_false_iff_not, Bool.not_eq_true', Bool.not_eq_false', bne_iff_ne, ne_eq, bne_eq_false_iff_eq, beq_iff_eq, beq_eq_false_iff_ne, Int.not_lt, Int.not_le, Bool.not_true, Bool.not_false, reduceCtorEq] at *
    rw [rgOk, decide_eq_false (p := c = 1) (by assumption)]; simp
  refine call_intro (iDataGet hP hl hb) ?_
  rintro r ob ⟨rfl, rfl⟩
  have hrg : rgOk b ⟨n, k, c, t, z⟩ e = (decide (0 ≤ e) && (decide (c = 1) && (dgOk k b e z && rrOk n k t (dataGet k b e z).addr (dataGet k b e z).to (dataGet k b e z).tx (dataGet k b e z).nu))) := rfl
  rw [hrg]
  clear hrg
  generalize hok : dgOk k b e z = ok
  generalize hdd : dataGet k b e z = dd
  obtain ⟨da, dto, dtx, dnu⟩ := dd
  dsimp only [datR]
  generalize hty2 : (if ok = true then k else 0) = ty2
  generalize hto : encN dto = tos
  generalize htx : encB dtx = txs
  generalize hnu : encI dnu = nus
  cbv
  repeat' (first | (intro; cbv) | (with_reducible refine and_side ?_ ?_; rotate_left; try cbv) | (refine ChkP.mk (by rfl) ?_; cbv) | (refine br_intro ?_ ?_ <;> intro <;> cbv) | (refine get_at har (by assumption) (by assumption) (by assumption) (by assumption) ?_; cbv) | (refine get_lt har (by assumption) (by assumption) (by assumption) ?_; intro x xx hx hxx; cbv) | (refine get_atN har (by assumption) (by assumption) (by assumption) (by assumption) ?_; cbv) | (refine get_ltN har (by assumption) (by assumption) (by assumption) ?_; intro x xx hx hxx; cbv) | (refine get_atI har (by assumption) (by assumption) (by decide) ?_; cbv) | (refine get_twoA har (by assumption) (by assumption) (by decide) ?_; intro x hx; cbv) | (refine get_twoB har (by assumption) (by assumption) (by decide) ?_; intro x hx; cbv) | (refine bytes_intro (by assumption) ?_; cbv) | (exact side_lt har (by assumption) (by assumption)) | (exact side_inb har (by assumption) (by assumption) (by assumption)) | (exact side_sh har (by decide)) | (exact side_app har (by assumption) (by assumption) (by omega)) | (exact side_app0 har (by assumption) (by omega)) | (exact side_new har (by assumption) (by omega)) | (exact side_one har (by assumption) (by omega)) | (exact side_oneN har (by assumption) (by omega)) | (exact side_flat har (by assumption)) | (exact side_sbig har (by omega)) | (refine side_sbig har ?_; simp; done) | (exact side_oneI har (by assumption) (by omega)) | (refine side_ix har ?_; simp; done) | (refine side_ix har ?_; simp; omega) | (refine call_intro (iRrOk hP (by assumption) (by assumption) (by assumption) (by assumption)) ?_; rintro r ob ⟨rfl, rfl⟩; generalize hro : rrOk _ _ _ _ _ _ _ = ro; cbv) | (refine calld_intro (iRrOk hP (by assumption) (by assumption) (by assumption) (by assumption)) ?_; generalize hro : rrOk _ _ _ _ _ _ _ = ro; cbv))
  · refine ⟨⟨rg_no ?_, rfl⟩⟩
    subst har; simp only [std, icmpS, decide_eq_true_eq, decide_eq_false_iff_not, Bool.not_eq_true', Bool.not_eq_false', bne_iff_ne, ne_eq, bne_eq_false_iff_eq, beq_iff_eq, beq_eq_false_iff_ne, Int.not_lt, Int.not_le, Bool.not_true, Bool.not_false, reduceCtorEq] at *
    simp_all
  · refine ⟨⟨rg_no ?_, rfl⟩⟩
    subst har; simp only [std, icmpS, decide_eq_true_eq, decide_eq_false_iff_not, Bool.not_eq_true', Bool.not_eq_false', bne_iff_ne, ne_eq, bne_eq_false_iff_eq, beq_iff_eq, beq_eq_false_iff_ne, Int.not_lt, Int.not_le, Bool.not_true, Bool.not_false, reduceCtorEq] at *
    have ho : ok = true := by assumption
    subst ho
    have hty2 : k = ty2 := hty2
    subst hty2
    have hr : ro = false := by assumption
    rw [hro, hr]; simp
  · refine ⟨⟨?_, rfl⟩⟩
    subst har; simp only [std, icmpS, decide_eq_true_eq, decide_eq_false_iff_not, Bool.not_eq_true', Bool.not_eq_false', bne_iff_ne, ne_eq, bne_eq_false_iff_eq, beq_iff_eq, beq_eq_false_iff_ne, Int.not_lt, Int.not_le, Bool.not_true, Bool.not_false, reduceCtorEq] at *
    have ho : ok = true := by assumption
    subst ho
    have hty2 : k = ty2 := hty2
    subst hty2
    have hr : ro = true := by assumption
    have h0 : 0 ≤ e := by omega
    have h1 : c = 1 := by assumption
    have hz := hrng h0
    rw [hro, hr, decide_eq_true h0, decide_eq_true h1, addI (by omega) (by omega)]
    dsimp only [rrR]
    rw [hn, hto, htx, hnu]; rfl
end Go.TL.Tryz

/- TfTrP -/
namespace Go.TL.Tryz
open Go Go.TL Go.Proofs

theorem getS_at {m pre x r : List UInt8} {p k v : Int} (hm : m = pre ++ x ++ r) (hp : p = pre.length) (hk : k = x.length) (hv : getV x = v) : getS m p k = (v, p + k) := by
  subst hm; subst hp; subst hk; subst hv
  exact getS_mid pre x r
theorem takeS_at {m pre x r : List UInt8} {p k : Int} (hm : m = pre ++ x ++ r) (hp : p = pre.length) (hk : k = x.length) : takeS m p k = (x, p + k) := by
  subst hm; subst hp; subst hk
  exact takeS_mid pre x r
theorem nameGet_at {m l r : List UInt8} {n : List (List UInt8)} {p : Int} (hok : nameOk n = true) (hm : m = l ++ wireN n ++ r) (hp : p = l.length) (h : m.length ≤ 512) : nameGet m p = (n, p + (wireN n).length) := by
  subst hm; subst hp
  exact nameGet_wire hok h
theorem twoB_len (n : Int) : (twoB n).length = 2 := rfl
theorem flat4_len (nu : List Int) : (nu.flatMap fourB).length = 4 * nu.length := by
  induction nu with
  | nil => rfl
  | cons x r ih => simp only [List.flatMap_cons, List.length_append, fourB_len, List.length_cons, ih]; omega
/-- What stands as data is read as what it was. -/
theorem dgRaw_put {m pre : List UInt8} {n to : List (List UInt8)} {t ttl addr : Int} {tx : List UInt8} {nu : List Int} (h : rrOk n t ttl addr to tx nu = true) (hm : m = pre ++ dataI t addr to tx nu) (hl : m.length ≤ 512) :
    dgRaw t m pre.length (dataI t addr to tx nu).length = (⟨addr, to, tx, nu⟩, (pre.length : Int) + (dataI t addr to tx nu).length) := by
  obtain ⟨h1, h2, h3, h4, h5, h6, h7⟩ := rrOk_all h
  unfold dgRaw
  by_cases ht : t = 1
  · subst ht
    rw [if_pos rfl] at h4
    have e5 : to = [] := by simpa [namedB] using h5
    have e6 : tx = [] := by simpa [textB] using h6
    have e7 : nu = [] := by simpa using h7
    subst e5; subst e6; subst e7
    have ed : dataI 1 addr [] [] [] = fourB addr := by rw [dataI, if_pos rfl]
    rw [if_pos rfl, ed]
    rw [ed] at hm
    rw [getS_at (r := []) (by rw [hm, List.append_nil]) rfl (by rw [fourB_len]; rfl) (getV_fourB h4), fourB_len]
    rfl
  · rw [if_neg ht] at h4 ⊢
    subst h4
    by_cases hn : namedB t = true
    · rw [if_pos hn] at h5
      rw [if_pos hn]
      have e6 : tx = [] := by
        have : ¬ textB t = true := by simp only [namedB, textB, decide_eq_true_eq] at *; omega
        rw [if_neg this] at h6; exact h6
      subst e6
      have ed : dataI t 0 to [] nu = wireN to ++ nu.flatMap fourB := by rw [dataI, if_neg ht, if_pos hn]
      rw [ed] at hm ⊢
      have hg := nameGet_at (p := (pre.length : Int)) h5 (by rw [hm, List.append_assoc]) rfl hl
      rw [hg]
      by_cases h66 : t = 6
      · rw [if_pos h66] at h7
        obtain ⟨x, y, rfl, hx, hy⟩ := h7
        have s1 : dgStep m t ([], (pre.length : Int) + (wireN to).length) = ([x], (pre.length : Int) + (wireN to).length + 4) := by
          rw [dgStep, if_pos ⟨h66, by dsimp only; omega⟩]
          rw [getS_at (m := m) (pre := pre ++ wireN to) (x := fourB x) (r := fourB y) (p := (pre.length : Int) + (wireN to).length) (by rw [hm]; simp) (by simp) (by rw [fourB_len]; rfl) (getV_fourB hx)]
          rfl
        have s2 : dgStep m t ([x], (pre.length : Int) + (wireN to).length + 4) = ([x, y], (pre.length : Int) + (wireN to).length + 4 + 4) := by
          rw [dgStep, if_pos ⟨h66, by dsimp only; omega⟩]
          rw [getS_at (m := m) (pre := pre ++ wireN to ++ fourB x) (x := fourB y) (r := []) (p := (pre.length : Int) + (wireN to).length + 4) (by rw [hm]; simp) (by simp [fourB_len]; omega) (by rw [fourB_len]; rfl) (getV_fourB (by omega))]
          rfl
        rw [dgTo]
        dsimp only
        rw [s1, s2]
        simp [fourB_len]; omega
      · rw [if_neg h66] at h7
        subst h7
        have s1 : ∀ e, dgStep m t ([], e) = ([], e) := fun e => by rw [dgStep, if_neg (fun hh => h66 hh.1)]
        rw [dgTo]
        dsimp only
        rw [s1, s1]
        simp
    · rw [if_neg hn] at h5
      subst h5
      have h77 : nu = [] := by
        have : ¬ t = 6 := by intro e; subst e; exact hn rfl
        rw [if_neg this] at h7; exact h7
      subst h77
      have htx : textB t = true := by simp only [namedB, typeB, textB, decide_eq_true_eq] at *; omega
      rw [if_pos htx] at h6
      have ed : dataI t 0 [] tx [] = wireL tx := by rw [dataI, if_neg ht, if_neg hn]
      rw [ed] at hm ⊢
      have hwl : (wireL tx).length = tx.length + 1 := by simp [wireL]
      rw [if_neg hn, if_pos (by omega)]
      have hg : m.getD (pre.length : Int).toNat 0 = byteOf tx.length := by
        rw [hm, Int.toNat_natCast, List.getD, List.getElem?_append_right (Nat.le_refl _), Nat.sub_self, wireL]; rfl
      have hb : iB (byteOf (tx.length : Nat)) = tx.length := by rw [iB_byteOf_mod]; omega
      rw [hg, hb]
      rw [takeS_at (m := m) (pre := pre ++ [byteOf tx.length]) (x := tx) (r := []) (by rw [hm, wireL]; simp) (by simp) rfl, hwl]
      dsimp only
      congr 1
      omega
theorem dataGet_put {m pre : List UInt8} {n to : List (List UInt8)} {t ttl addr : Int} {tx : List UInt8} {nu : List Int} (h : rrOk n t ttl addr to tx nu = true) (hm : m = pre ++ dataI t addr to tx nu) (hl : m.length ≤ 512) :
    dgOk t m pre.length (dataI t addr to tx nu).length = true ∧ dataGet t m pre.length (dataI t addr to tx nu).length = ⟨addr, to, tx, nu⟩ := by
  have hr := dgRaw_put h hm hl
  have hd : dgOk t m pre.length (dataI t addr to tx nu).length = true := by
    have hml : m.length = pre.length + (dataI t addr to tx nu).length := by rw [hm, List.length_append]
    have h2 := (rrOk_all h).2.1
    have ho : rrOk [] t 0 addr to tx nu = true := by
      unfold rrOk at h ⊢
      simp only [Bool.and_eq_true] at h ⊢
      exact ⟨rfl, h.2.1, rfl, h.2.2.2⟩
    rw [dgOk, hr, h2, decide_eq_true hl, ho]
    simp only [Bool.and_eq_true, decide_eq_true_eq, withinB]
    exact ⟨trivial, trivial, by omega, by omega, by omega, trivial, trivial⟩
  exact ⟨hd, by rw [dataGet, if_pos hd, hr]⟩
theorem headGet_put {m l d : List UInt8} {n : List (List UInt8)} {t ttl : Int} (hn : nameOk n = true) (ht : 0 ≤ t ∧ t ≤ 65535) (httl : 0 ≤ ttl ∧ ttl ≤ 4294967295)
    (hm : m = l ++ wireN n ++ (twoB t ++ (twoB 1 ++ (fourB ttl ++ (twoB d.length ++ d))))) (hl : m.length ≤ 512) :
    headGet m l.length = (⟨n, t, 1, ttl, d.length⟩, (l.length : Int) + (wireN n).length + 10) := by
  have hd : (d.length : Int) ≤ 65535 := by
    have := congrArg List.length hm
    simp only [List.length_append] at this
    omega
  have a1 : hdAt m l.length 1 = (⟨n, 0, 0, 0, 0⟩, (l.length : Int) + (wireN n).length) := by
    rw [hdAt, nameGet_at hn hm rfl hl]
  have a2 : hdAt m l.length 2 = (⟨n, t, 0, 0, 0⟩, (l.length : Int) + (wireN n).length + 2) := by
    rw [hdAt, a1]
    dsimp only
    rw [getS_at (m := m) (p := (l.length : Int) + (wireN n).length) (k := 2) (pre := l ++ wireN n) (x := twoB t) (r := twoB 1 ++ (fourB ttl ++ (twoB d.length ++ d))) (by rw [hm]; simp only [List.append_assoc]) (by simp only [List.length_append]; omega) rfl (getV_twoB ht)]
  have a3 : hdAt m l.length 3 = (⟨n, t, 1, 0, 0⟩, (l.length : Int) + (wireN n).length + 4) := by
    rw [hdAt, a2]
    dsimp only
    rw [getS_at (m := m) (p := (l.length : Int) + (wireN n).length + 2) (k := 2) (pre := l ++ wireN n ++ twoB t) (x := twoB 1) (r := fourB ttl ++ (twoB d.length ++ d)) (by rw [hm]; simp only [List.append_assoc]) (by simp only [List.length_append, twoB_len]; omega) rfl (getV_twoB (by decide))]
    congr 1
  have a4 : hdAt m l.length 4 = (⟨n, t, 1, ttl, 0⟩, (l.length : Int) + (wireN n).length + 8) := by
    rw [hdAt, a3]
    dsimp only
    rw [getS_at (m := m) (p := (l.length : Int) + (wireN n).length + 4) (k := 4) (pre := l ++ wireN n ++ twoB t ++ twoB 1) (x := fourB ttl) (r := twoB d.length ++ d) (by rw [hm]; simp only [List.append_assoc]) (by simp only [List.length_append, twoB_len]; omega) rfl (getV_fourB httl)]
    congr 1
  have a5 : hdAt m l.length 5 = (⟨n, t, 1, ttl, d.length⟩, (l.length : Int) + (wireN n).length + 10) := by
    rw [hdAt, a4]
    dsimp only
    rw [getS_at (m := m) (p := (l.length : Int) + (wireN n).length + 8) (k := 2) (pre := l ++ wireN n ++ twoB t ++ twoB 1 ++ fourB ttl) (x := twoB d.length) (r := d) (by rw [hm]; simp only [List.append_assoc]) (by simp only [List.length_append, twoB_len, fourB_len]; omega) rfl (getV_twoB (by omega))]
    congr 1
  have ha : hdAll m l.length = true := by
    rw [hdAll, a1, a2, a3, a4, a5]
    simp only [Bool.and_eq_true, decide_eq_true_eq]
    refine ⟨?_, ?_, ?_, ?_, ?_⟩ <;> omega
  rw [headGet, if_pos ha, a5]
theorem typeB_rng {t : Int} (h : typeB t = true) : 0 ≤ t ∧ t ≤ 65535 := by
  simp only [typeB, decide_eq_true_eq] at h; omega
theorem rrI_eq (n : List (List UInt8)) (t ttl addr : Int) (to : List (List UInt8)) (tx : List UInt8) (nu : List Int) (l : List UInt8) :
    catB [l, rrI n t ttl addr to tx nu] = l ++ wireN n ++ (twoB t ++ (twoB 1 ++ (fourB ttl ++ (twoB (dataI t addr to tx nu).length ++ dataI t addr to tx nu)))) := by
  simp [catB, rrI]
/-- A record comes back from its bytes. -/
theorem rrGet_put {m l : List UInt8} {n to : List (List UInt8)} {t ttl addr : Int} {tx : List UInt8} {nu : List Int} (h : rrOk n t ttl addr to tx nu = true) (hm : m = catB [l, rrI n t ttl addr to tx nu]) (hll : l.length ≤ 3) :
    m.length ≤ 512 ∧ rrR (rgOk m (headGet m l.length).1 (headGet m l.length).2) (headGet m l.length).1 (dataGet (headGet m l.length).1.kind m (headGet m l.length).2 (headGet m l.length).1.n) ((headGet m l.length).2 + (headGet m l.length).1.n) =
      .tup [.agg [.t (.sl (encN n)), .t (.int .i64 t), .t (.int .i64 ttl), .t (.int .i64 addr), .t (.sl (encN to)), .t (.sl (encB tx)), .t (.sl (encI nu))], .one (.t (.int .i64 m.length))] := by
  obtain ⟨h1, h2, h3, h4, h5, h6, h7⟩ := rrOk_all h
  obtain ⟨f1, f2, f3, f4, f5⟩ := rrOk_facts h
  have hw := wireN_len f1
  have hw2 := wireN_len f2
  rw [rrI_eq] at hm
  have hdl : (dataI t addr to tx nu).length ≤ 208 := by
    unfold dataI
    split
    · rw [fourB_len]; omega
    · split
      · rw [List.length_append, flat4_len]; omega
      · simp [wireL]; omega
  have hlen : m.length = l.length + (wireN n).length + 10 + (dataI t addr to tx nu).length := by
    rw [hm]; simp only [List.length_append, twoB_len, fourB_len]; omega
  have hm5 : m.length ≤ 512 := by omega
  refine ⟨hm5, ?_⟩
  have hh := headGet_put h1 (typeB_rng h2) (by omega) hm hm5
  have hpre : m = (l ++ wireN n ++ (twoB t ++ (twoB 1 ++ (fourB ttl ++ twoB (dataI t addr to tx nu).length)))) ++ dataI t addr to tx nu := by
    rw [hm]; simp only [List.append_assoc]
  have hd := dataGet_put h hpre hm5
  have hpl : ((l ++ wireN n ++ (twoB t ++ (twoB 1 ++ (fourB ttl ++ twoB (dataI t addr to tx nu).length)))).length : Int) = (l.length : Int) + (wireN n).length + 10 := by
    simp only [List.length_append, twoB_len, fourB_len]; omega
  rw [hpl] at hd
  rw [hh]
  dsimp only
  rw [hd.2]
  have ho : rgOk m ⟨n, t, 1, ttl, (dataI t addr to tx nu).length⟩ ((l.length : Int) + (wireN n).length + 10) = true := by
    rw [rgOk]
    dsimp only
    rw [hd.1, hd.2, h]
    simp only [Bool.and_eq_true, decide_eq_true_eq]
    exact ⟨by omega, trivial, trivial, trivial⟩
  rw [ho, rrR, if_pos rfl]
  dsimp only
  rw [show (l.length : Int) + (wireN n).length + 10 + (dataI t addr to tx nu).length = (m.length : Nat) by omega]
/-- What is read is right, and lies in the bytes. -/
theorem rgOk_out {m : List UInt8} {h : Hed} {e : Int} (k : rgOk m h e = true) : rrOk h.name h.kind h.ttl (dataGet h.kind m e h.n).addr (dataGet h.kind m e h.n).to (dataGet h.kind m e h.n).tx (dataGet h.kind m e h.n).nu = true ∧ e + h.n ≤ m.length := by
  simp only [rgOk, dgOk, Bool.and_eq_true, decide_eq_true_eq] at k
  refine ⟨k.2.2.2, ?_⟩
  have := k.2.2.1
  omega
theorem cmpI_self (a : Int) : cmpI a a = 0 := by rw [cmpI, if_neg (by omega), if_neg (by omega)]
theorem cmpB_self (x : List UInt8) : cmpB x x = 0 := by
  have h : Op.bytesLess x x = false := by have := bytesLess_total x x; cases hh : Op.bytesLess x x <;> simp_all
  rw [cmpB, h]; rfl
theorem cmpN_self (n : List (List UInt8)) : cmpN n n = 0 := by
  rw [cmpN]
  generalize n.reverse = a
  induction a with
  | nil => rfl
  | cons x r ih => rw [cmpGo, if_pos (cmpB_self x), ih]
theorem sameR_self {n to : List (List UInt8)} {t ttl addr : Int} {tx : List UInt8} {nu : List Int} (h : rrOk n t ttl addr to tx nu = true) : (sameR n t ttl addr to tx nu n t ttl addr to tx nu && ttl == ttl) = true := by
  rw [sameR, h, cmpR, if_pos (cmpN_self n), if_pos (cmpI_self t), cmpB_self]
  simp
end Go.TL.Tryz

/- TfSpS -/
namespace Go.TL.Tryz
open Go Go.TL Go.Proofs
variable {P : Program}

/-- Bytes, so many at most. -/
def IsB (es : List (List T)) (n : Nat) : Prop := ∃ l, encB l = es ∧ l.length ≤ n
theorem isB_of {l : List UInt8} {es : List (List T)} (h : encB l = es) : IsB es l.length := ⟨l, h, Nat.le_refl _⟩
theorem IsB.mono {es : List (List T)} {m n : Nat} (h : IsB es m) (k : m ≤ n) : IsB es n := let ⟨l, a, b⟩ := h; ⟨l, a, by omega⟩
theorem IsB.app {es fs : List (List T)} {m n : Nat} (h : IsB es m) (k : IsB fs n) : IsB (es ++ fs) (m + n) := by
  obtain ⟨l, rfl, h2⟩ := h
  obtain ⟨r, rfl, k2⟩ := k
  exact ⟨l ++ r, by simp [encB], by simp; omega⟩
theorem IsB.sub {es : List (List T)} {n : Nat} (h : IsB es n) (a b : Nat) : IsB ((es.take a).drop b) n := by
  obtain ⟨l, rfl, h2⟩ := h
  exact ⟨(l.take a).drop b, by simp [encB], by simp; omega⟩
theorem isB_one (v : Int) : IsB [[.int .u8 (IntKind.u8.wrap v)]] 1 := ⟨[byteOf v], enc_byteOf v, by simp⟩
theorem IsB.set {es : List (List T)} {n : Nat} (h : IsB es n) (i : Nat) (v : Int) : IsB (es.modify i fun e => setAt e 0 [.int .u8 (IntKind.u8.wrap v)]) n := by
  obtain ⟨l, rfl, h2⟩ := h
  exact ⟨l.set i (byteOf v), (enc_set rfl (byteOf_wrap v)).symm, by simp; omega⟩
theorem IsB.wid {es : List (List T)} {n : Nat} (h : IsB es n) : ∀ x, x ∈ es → x.length = 1 := by
  obtain ⟨l, rfl, _⟩ := h
  exact wid_byte l
theorem IsB.room {es : List (List T)} {n : Nat} (h : IsB es n) (k : n ≤ 1000000000) : es.length * (1 + 1) ≤ 2 ^ 46 := by
  obtain ⟨l, rfl, _⟩ := h
  simp [encB]; omega
theorem isB_cut {l : List UInt8} {ls : List (List T)} (h : encB l = ls) {a c : Nat} (hac : a ≤ c) : IsB ((ls.take a).drop (Int.toNat 0) ++ (ls.take (ls.length : Int).toNat).drop c) l.length := by
  subst h
  refine ⟨l.take a ++ l.drop c, ?_, by simp; omega⟩
  rw [Int.toNat_natCast, List.take_length]
  simp [encB]
theorem sp_ret {es ls : List (List T)} {n : Nat} {ii h : Int} (hb : IsB ls n) (hi : 0 ≤ ii) : ∃ (l : List UInt8) (ls' : List (List T)) (ii' h' : Int), encB l = ls' ∧ l.length ≤ n ∧ 0 ≤ ii' ∧ A.one (.row 32 0) = A.one (.row 32 0) ∧
    [(0, Ob.box [.t (.sl es), .t (.int .i64 ii), .t (.int .i64 h)] false), (32, .row 1 ls 0 [0] false)] = [(0, Ob.box [.t (.sl es), .t (.int .i64 ii'), .t (.int .i64 h')] false), (32, .row 1 ls' 0 [0] false)] := by
  obtain ⟨l, hl, hn⟩ := hb
  exact ⟨l, ls, ii, h, hl, hn, hi, rfl, rfl⟩
def mdS (n : Nat) : Md := bif eqB n 0 then ⟨[some [(42, 0), (46, 0)]], true⟩ else md n
set_option maxRecDepth 20000 in
theorem fn50 : Tryz.prog.funcs[50]? = some Tryz.f50 := rfl
set_option maxHeartbeats 40000000 in
set_option maxRecDepth 3000 in
theorem spoil_w (hP : Prg P) {b l : List UInt8} {h ii : Int} {es ls : List (List T)} (hes : encB b = es) (hii : 0 ≤ ii) (hl : encB l = ls) (hll : l.length ≤ 100000) :
    ACall P 50 [.one (.ptr 0 0), .one (.t (.sl ls))] [(0, .box [.t (.sl es), .t (.int .i64 ii), .t (.int .i64 h)] false)] (fun r ob => ∃ (l' : List UInt8) (ls' : List (List T)) (ii' h' : Int), encB l' = ls' ∧ l'.length ≤ l.length + 1 ∧ 0 ≤ ii' ∧ r = .one (.row 32 0) ∧
      ob = [(0, .box [.t (.sl es), .t (.int .i64 ii'), .t (.int .i64 h')] false), (32, .row 1 ls' 0 [0] false)]) := by
  refine acall_fn (md := mdS) [some [(0, 1)]] v50 hP.mixed hP.tab (fn_at hP fn50) 2 rfl (by decide +kernel) rfl ?_
  intro ar har
  cbv
  have hB := isB_of hl
  repeat' (first | (intro; cbv) | (with_reducible refine and_side ?_ ?_; rotate_left; try cbv) | (refine ChkP.mk (by rfl) ?_; cbv) | (refine br_intro ?_ ?_ <;> intro <;> cbv) | (refine get_at har (by assumption) (by assumption) (by assumption) (by assumption) ?_; cbv) | (refine get_lt har (by assumption) (by assumption) (by assumption) ?_; intro x xx hx hxx; cbv) | (refine get_atN har (by assumption) (by assumption) (by assumption) (by assumption) ?_; cbv) | (refine get_ltN har (by assumption) (by assumption) (by assumption) ?_; intro x xx hx hxx; cbv) | (refine get_atI har (by assumption) (by assumption) (by decide) ?_; cbv) | (refine get_twoA har (by assumption) (by assumption) (by decide) ?_; intro x hx; cbv) | (refine get_twoB har (by assumption) (by assumption) (by decide) ?_; intro x hx; cbv) | (refine bytes_intro (by assumption) ?_; cbv) | (exact side_lt har (by assumption) (by assumption)) | (exact side_inb har (by assumption) (by assumption) (by assumption)) | (exact side_sh har (by decide)) | (exact side_app har (by assumption) (by assumption) (by omega)) | (exact side_app0 har (by assumption) (by omega)) | (exact side_new har (by assumption) (by omega)) | (exact side_one har (by assumption) (by omega)) | (exact side_oneN har (by assumption) (by omega)) | (exact side_flat har (by assumption)) | (exact side_sbig har (by omega)) | (refine side_sbig har ?_; simp; done) | (exact side_oneI har (by assumption) (by omega)) | (refine side_ix har ?_; simp; done) | (refine side_ix har ?_; simp; omega) | (refine call_intro (below_w hP (by assumption) (by omega)) ?_; rintro r ob ⟨v, ii, h, hv0, hv1, hii, rfl, rfl⟩; cbv) | (refine call_intro (byte_w hP (by assumption) (by omega)) ?_; rintro r ob ⟨v, ii, h, hv0, hv1, hii, rfl, rfl⟩; cbv))
  case refine_2.refine_2.refine_2.refine_2.refine_2.refine_2 =>
    refine get_byte (b := l) har (by subst har; exact hl) ?_ ?_
    · have hlen := encB_len hl
      subst har; simp only [std, icmpS, decide_eq_true_eq, decide_eq_false_iff_not, Bool.not_eq_true', Bool.not_eq_false', bne_iff_ne, ne_eq, bne_eq_false_iff_eq, beq_iff_eq, beq_eq_false_iff_ne, Int.not_lt, Int.not_le, Bool.not_true, Bool.not_false, reduceCtorEq] at *
      simp only [List.nil_append] at *
      omega
    intro x xx hx hxx
    cbv
    repeat' (first | (intro; cbv) | (with_reducible refine and_side ?_ ?_; rotate_left; try cbv) | (refine ChkP.mk (by rfl) ?_; cbv) | (refine br_intro ?_ ?_ <;> intro <;> cbv) | (refine get_at har (by assumption) (by assumption) (by assumption) (by assumption) ?_; cbv) | (refine get_lt har (by assumption) (by assumption) (by assumption) ?_; intro x xx hx hxx; cbv) | (refine get_atN har (by assumption) (by assumption) (by assumption) (by assumption) ?_; cbv) | (refine get_ltN har (by assumption) (by assumption) (by assumption) ?_; intro x xx hx hxx; cbv) | (refine get_atI har (by assumption) (by assumption) (by decide) ?_; cbv) | (refine get_twoA har (by assumption) (by assumption) (by decide) ?_; intro x hx; cbv) | (refine get_twoB har (by assumption) (by assumption) (by decide) ?_; intro x hx; cbv) | (refine bytes_intro (by assumption) ?_; cbv) | (exact side_lt har (by assumption) (by assumption)) | (exact side_inb har (by assumption) (by assumption) (by assumption)) | (exact side_sh har (by decide)) | (exact side_app har (by assumption) (by assumption) (by omega)) | (exact side_app0 har (by assumption) (by omega)) | (exact side_new har (by assumption) (by omega)) | (exact side_one har (by assumption) (by omega)) | (exact side_oneN har (by assumption) (by omega)) | (exact side_flat har (by assumption)) | (exact side_sbig har (by omega)) | (refine side_sbig har ?_; simp; done) | (exact side_oneI har (by assumption) (by omega)) | (refine side_ix har ?_; simp; done) | (refine side_ix har ?_; simp; omega))
    · subst har
      exact ⟨sp_ret ((hB.set _ _).mono (by omega)) (by assumption)⟩
    all_goals have hlen := encB_len hl
    all_goals subst har; simp only [std, icmpS, decide_eq_true_eq, decide_eq_false_iff_not, Bool.not_eq_true', Bool.not_eq_false', bne_iff_ne, ne_eq, bne_eq_false_iff_eq, beq_iff_eq, beq_eq_false_iff_ne, Int.not_lt, Int.not_le, Bool.not_true, Bool.not_false, reduceCtorEq] at *
    all_goals simp only [List.nil_append] at *
    all_goals exact ⟨⟨by omega, by omega⟩⟩
  all_goals have hlen := encB_len hl
  all_goals subst har; simp only [std, icmpS, decide_eq_true_eq, decide_eq_false_iff_not, Bool.not_eq_true', Bool.not_eq_false', bne_iff_ne, ne_eq, bne_eq_false_iff_eq, beq_iff_eq, beq_eq_false_iff_ne, Int.not_lt, Int.not_le, Bool.not_true, Bool.not_false, reduceCtorEq] at *
  all_goals simp only [List.nil_append] at *
  all_goals first
    | exact ⟨⟨by omega, by omega⟩⟩
    | exact ⟨⟨Int.le_refl _, by omega, by omega⟩⟩
    | (rw [addI (by omega) (by omega)]; exact ⟨⟨by omega, by omega, Int.le_refl _⟩⟩)
    | exact ⟨sp_ret ((isB_one _).mono (by omega)) (by assumption)⟩
    | exact ⟨sp_ret ((hB.set _ _).mono (by omega)) (by assumption)⟩
    | exact ⟨sp_ret (hB.app (isB_one _)) (by assumption)⟩
    | exact ⟨⟨(hB.app (isB_one _)).room (by omega), wid_one _⟩⟩
    | exact ⟨sp_ret ((isB_cut hl (by rw [addI (by omega) (by omega)]; omega)).mono (by omega)) (by assumption)⟩
    | exact ⟨⟨(isB_cut hl (by rw [addI (by omega) (by omega)]; omega)).room (by omega), (hB.sub _ _).wid⟩⟩
theorem rrS_len {n to : List (List UInt8)} {t ttl addr cls : Int} {tx : List UInt8} {nu : List Int} (hnb : NmB n) (htob : NmB to) (htxl : tx.length ≤ 1000) : (rrS n t ttl cls (dataS t addr to tx nu)).length ≤ 1300 := by
  have hw := wireN_len hnb
  have hd := dataS_len (t := t) (addr := addr) (nu := nu) htob htxl
  have p1 := put16_len t
  have p2 := put16_len cls
  have p3 := put32_len ttl
  have p4 := put16_len (dataS t addr to tx nu).length
  simp only [rrS, List.length_append]; omega
theorem sl3rr2 (hP : Prg P) {l : List UInt8} {n to : List (List UInt8)} {ls ns tos txs nus : List (List T)} {t ttl addr cls : Int} {tx : List UInt8} {nu : List Int} (hl : encB l = ls) (hll : l.length ≤ 10000) (hn : encN n = ns) (hnb : NmB n) (hto : encN to = tos) (htob : NmB to) (htx : encB tx = txs) (htxl : tx.length ≤ 1000) (hnu : encI nu = nus) (hnu6 : t = 6 → nu.length = 2) :
    ACall P 46 [.one (.row 0 0), .agg [.t (.sl ns), .t (.int .i64 t), .t (.int .i64 ttl), .t (.int .i64 addr), .t (.sl tos), .t (.sl txs), .t (.sl nus)], .one (.t (.int .i64 cls))] [(0, .row 1 ls 0 [0] false)]
      (fun r ob => ∃ (l1 lr : List UInt8) (ls1 ls' : List (List T)), encB l1 = ls1 ∧ encB lr = ls' ∧ lr.length ≤ l.length + 1300 ∧ r = .one (.row 32 0) ∧ ob = [(0, .row 1 ls1 0 [0] false), (32, .row 1 ls' 0 [0] false)]) := by
  have hrr := rrS_len (t := t) (ttl := ttl) (addr := addr) (cls := cls) (nu := nu) hnb htob htxl
  refine acall_fn (md := md) [some [(0, 1)]] v46 hP.mixed hP.tab (fn_at hP fn46) 3 rfl (by decide +kernel) rfl ?_
  intro ar har
  cbv
  have hw := wireN_len hnb
  have hd := dataS_len (t := t) (addr := addr) (nu := nu) htob htxl
  have p1 := put16_len t
  have p2 := put16_len cls
  have p3 := put32_len ttl
  repeat' (first | (intro; cbv) | (with_reducible refine and_side ?_ ?_; rotate_left; try cbv) | (refine ChkP.mk (by rfl) ?_; cbv) | (refine br_intro ?_ ?_ <;> intro <;> cbv) | (refine get_at har (by assumption) (by assumption) (by assumption) (by assumption) ?_; cbv) | (refine get_lt har (by assumption) (by assumption) (by assumption) ?_; intro x xx hx hxx; cbv) | (refine get_atN har (by assumption) (by assumption) (by assumption) (by assumption) ?_; cbv) | (refine get_ltN har (by assumption) (by assumption) (by assumption) ?_; intro x xx hx hxx; cbv) | (refine get_atI har (by assumption) (by assumption) (by decide) ?_; cbv) | (refine get_twoA har (by assumption) (by assumption) (by decide) ?_; intro x hx; cbv) | (refine get_twoB har (by assumption) (by assumption) (by decide) ?_; intro x hx; cbv) | (refine bytes_intro (by assumption) ?_; cbv) | (exact side_lt har (by assumption) (by assumption)) | (exact side_inb har (by assumption) (by assumption) (by assumption)) | (exact side_sh har (by decide)) | (exact side_app har (by assumption) (by assumption) (by omega)) | (exact side_app0 har (by assumption) (by omega)) | (exact side_new har (by assumption) (by omega)) | (exact side_one har (by assumption) (by omega)) | (exact side_oneN har (by assumption) (by omega)) | (exact side_flat har (by assumption)) | (exact side_sbig har (by omega)) | (refine side_sbig har ?_; simp; done) | (exact side_oneI har (by assumption) (by omega)) | (refine side_ix har ?_; simp; done) | (refine side_ix har ?_; simp; omega) | (refine call_intro (sl3put hP (by assumption) (by assumption) (by assumption) (by omega) (by assumption) (by first | assumption | omega)) ?_; rintro r ob ⟨rfl, rfl⟩; generalize hld : encB (dataS _ _ _ _ _) = ld; cbv) | (refine calld_intro (sl3put hP (by assumption) (by assumption) (by assumption) (by omega) (by assumption) (by first | assumption | omega)) ?_; generalize hld : encB (dataS _ _ _ _ _) = ld; cbv) | (refine call_intro (sl2put hP (by assumption) (by assumption) (by first | omega | decide | (simp only [List.length_append, List.length_nil]; omega)) (by assumption)) ?_; rintro r ob ⟨rfl, rfl⟩; generalize hls : encB (_ ++ wireN _) = ls; cbv) | (refine calld_intro (sl2put hP (by assumption) (by assumption) (by first | omega | decide | (simp only [List.length_append, List.length_nil]; omega)) (by assumption)) ?_; generalize hls : encB (_ ++ wireN _) = ls; cbv) | (refine call_intro (sPut16 hP (by assumption) (by first | omega | decide | (simp only [List.length_append, List.length_nil]; omega))) ?_; rintro r ob ⟨rfl, rfl⟩; generalize hls : encB (_ ++ put16 _) = ls; cbv) | (refine calld_intro (sPut16 hP (by assumption) (by first | omega | decide | (simp only [List.length_append, List.length_nil]; omega))) ?_; generalize hls : encB (_ ++ put16 _) = ls; cbv) | (refine call_intro (sPut32 hP (by assumption) (by first | omega | decide | (simp only [List.length_append, List.length_nil]; omega))) ?_; rintro r ob ⟨rfl, rfl⟩; generalize hls : encB (_ ++ put32 _) = ls; cbv) | (refine calld_intro (sPut32 hP (by assumption) (by first | omega | decide | (simp only [List.length_append, List.length_nil]; omega))) ?_; generalize hls : encB (_ ++ put32 _) = ls; cbv))
  · have hlen := encB_len hld
    subst har
    refine ⟨⟨_, l ++ rrS n t ttl cls (dataS t addr to tx nu), _, _, by assumption, ?_, by simp; omega, rfl, rfl⟩⟩
    rw [← hls, ← hld]
    simp [rrS, encB, std, List.append_assoc]
  · have q := put16_len (ar.len ld)
    refine side_byL har hls (by subst har; rfl) hld ?_
    simp only [List.length_append]; omega
theorem len_le3 {ar : Ar} (har : ar = std) {l : List UInt8} {ls : List (List T)} (h : encB l = ls) (k : l.length ≤ 3) : 0 ≤ ar.len ls ∧ ar.len ls ≤ 3 := by
  have := encB_len h
  subst har
  exact ⟨Int.natCast_nonneg _, by show (ls.length : Int) ≤ 3; omega⟩
set_option maxRecDepth 20000 in
theorem fn17 : Tryz.prog.funcs[17]? = some Tryz.f17 := rfl
set_option maxHeartbeats 40000000 in
set_option maxRecDepth 3000 in
theorem drawRrGet_w (hP : Prg P) {code : List UInt8} {es : List (List T)} (hes : encB code = es) : ACall P 17 [.one (.t (.sl es))] []
    (fun r ob => ∃ (l : List UInt8) (ls : List (List T)) (i : Int), encB l = ls ∧ l.length ≤ 2000 ∧ 0 ≤ i ∧ i ≤ 3 ∧ r = .tup [.one (.t (.sl ls)), .one (.t (.int .i64 i))] ∧ ob = []) := by
  refine acall_fn (md := md) [none, none] v17 hP.mixed hP.tab (fn_at hP fn17) 1 rfl (by decide +kernel) rfl ?_
  intro ar har
  cbv
  repeat' (first | (intro; cbv) | (with_reducible refine and_side ?_ ?_; rotate_left; try cbv) | (refine ChkP.mk (by rfl) ?_; cbv) | (refine br_intro ?_ ?_ <;> intro <;> cbv) | (refine get_at har (by assumption) (by assumption) (by assumption) (by assumption) ?_; cbv) | (refine get_lt har (by assumption) (by assumption) (by assumption) ?_; intro x xx hx hxx; cbv) | (refine get_atN har (by assumption) (by assumption) (by assumption) (by assumption) ?_; cbv) | (refine get_ltN har (by assumption) (by assumption) (by assumption) ?_; intro x xx hx hxx; cbv) | (refine get_atI har (by assumption) (by assumption) (by decide) ?_; cbv) | (refine get_twoA har (by assumption) (by assumption) (by decide) ?_; intro x hx; cbv) | (refine get_twoB har (by assumption) (by assumption) (by decide) ?_; intro x hx; cbv) | (refine bytes_intro (by assumption) ?_; cbv) | (exact side_lt har (by assumption) (by assumption)) | (exact side_inb har (by assumption) (by assumption) (by assumption)) | (exact side_sh har (by decide)) | (exact side_app har (by assumption) (by assumption) (by omega)) | (exact side_app0 har (by assumption) (by omega)) | (exact side_new har (by assumption) (by omega)) | (exact side_one har (by assumption) (by omega)) | (exact side_oneN har (by assumption) (by omega)) | (exact side_flat har (by assumption)) | (exact side_sbig har (by omega)) | (refine side_sbig har ?_; simp; done) | (exact side_oneI har (by assumption) (by omega)) | (refine side_ix har ?_; simp; done) | (refine side_ix har ?_; simp; omega) | (refine call_intro (new_w hP (by assumption)) ?_; rintro r ob ⟨h, rfl, rfl⟩; cbv) | (refine call_intro (some_w hP (by assumption) (by omega) (by omega)) ?_; rintro r ob ⟨l, ls, ii, h, hl, hn, hii, rfl, rfl⟩; cbv) | (refine call_intro (draw3_w hP (by assumption) (by omega)) ?_; rintro r ob ⟨n, ns, t, ttl, addr, to, tos, tx, txs, nu, nus, ii, h, hn, hnb, hto, htob, htx, htxl, hnu, hnul, hnu6, hii, rfl, rfl⟩; cbv) | (refine call_intro (pick_w hP (by assumption) (by omega) (by simp) (by simp)) ?_; rintro r ob ⟨v, ii, h, hv, hii, rfl, rfl⟩; cbv) | (refine call_intro (sl3rr2 hP (by assumption) (by first | omega | decide) (by assumption) (by assumption) (by assumption) (by assumption) (by assumption) (by omega) (by assumption) (by first | assumption | omega)) ?_; rintro r ob ⟨l1, lr, ls1, ls, hl1, hlr, hlrl, rfl, rfl⟩; cbv) | (refine call_intro (once_w hP (by assumption) (by omega)) ?_; rintro r ob ⟨v, ii, h, hii, rfl, rfl⟩; cbv) | (refine call_intro (spoil_w hP (by assumption) (by omega) (by assumption) (by omega)) ?_; rintro r ob ⟨l, ls, ii, h, hl, hll, hii, rfl, rfl⟩; cbv))
  · exact ⟨⟨_, _, _, hl, by omega, (len_le3 har (by assumption) (by omega)).1, (len_le3 har (by assumption) (by omega)).2, rfl, rfl⟩⟩
  · exact ⟨⟨_, _, _, hlr, by omega, (len_le3 har (by assumption) (by omega)).1, (len_le3 har (by assumption) (by omega)).2, rfl, rfl⟩⟩
end Go.TL.Tryz

/- TfFrI -/
namespace Go.TL.Tryz
open Go Go.TL Go.Proofs Go.RowKit
set_option maxRecDepth 20000
variable {P : Program}
set_option maxRecDepth 20000 in
set_option maxRecDepth 20000 in
theorem fn3 : Tryz.prog.funcs[3]? = some Tryz.f3 := rfl
set_option maxHeartbeats 40000000 in
set_option maxRecDepth 3000 in
theorem call_val {f : Nat} {args : List A} {ob ob2 : Obs} {v v' : A} (h : ACall P f args ob (fun r o => r = v ∧ o = ob2)) (e : v = v') : ACall P f args ob (fun r o => r = v' ∧ o = ob2) := e ▸ h
theorem data_len {n to : List (List UInt8)} {t ttl addr : Int} {tx : List UInt8} {nu : List Int} (h : rrOk n t ttl addr to tx nu = true) : (dataI t addr to tx nu).length ≤ 208 := by
  obtain ⟨f1, f2, f3, f4, f5⟩ := rrOk_facts h
  have hw2 := wireN_len f2
  unfold dataI
  split
  · rw [fourB_len]; omega
  · split
    · rw [List.length_append, flat4_len]; omega
    · simp [wireL]; omega
theorem dataGet_read {n to : List (List UInt8)} {t ttl addr : Int} {tx : List UInt8} {nu : List Int} {db : List UInt8} {dbs : List (List T)} {ar : Ar} (h : rrOk n t ttl addr to tx nu = true) (hd : (if true = true then dataI t addr to tx nu else []) = db) (hds : encB db = dbs) (har : ar = std) :
    datR (if dgOk t db 0 (ar.len dbs) then t else 0) (dataGet t db 0 (ar.len dbs)) (dgOk t db 0 (ar.len dbs)) = .tup [.agg [.t (.sl []), .t (.int .i64 t), .t (.int .i64 0), .t (.int .i64 addr), .t (.sl (encN to)), .t (.sl (encB tx)), .t (.sl (encI nu))], .one (.t (.bool true))] := by
  have hl := data_len h
  rw [if_pos rfl] at hd
  subst hd
  have h2 := dataGet_put (pre := []) h (m := dataI t addr to tx nu) rfl (by omega)
  have hel := encB_len hds
  have e : ar.len dbs = ((dataI t addr to tx nu).length : Int) := by subst har; show ((dbs.length : Nat) : Int) = _; rw [hel]
  rw [e]
  have h3 : dgOk t (dataI t addr to tx nu) 0 (dataI t addr to tx nu).length = true := h2.1
  have h4 : dataGet t (dataI t addr to tx nu) 0 (dataI t addr to tx nu).length = ⟨addr, to, tx, nu⟩ := h2.2
  rw [h3, h4, if_pos rfl, datR]
theorem rrGet_any (m : List UInt8) (i : Int) : ∃ (n : List (List UInt8)) (ns : List (List T)) (t ttl addr : Int) (to : List (List UInt8)) (tos : List (List T)) (tx : List UInt8) (txs : List (List T)) (nu : List Int) (nus : List (List T)) (e : Int),
    encN n = ns ∧ encN to = tos ∧ encB tx = txs ∧ encI nu = nus ∧
    rrR (rgOk m (headGet m i).1 (headGet m i).2) (headGet m i).1 (dataGet (headGet m i).1.kind m (headGet m i).2 (headGet m i).1.n) ((headGet m i).2 + (headGet m i).1.n) =
      .tup [.agg [.t (.sl ns), .t (.int .i64 t), .t (.int .i64 ttl), .t (.int .i64 addr), .t (.sl tos), .t (.sl txs), .t (.sl nus)], .one (.t (.int .i64 e))] ∧
    (e < 0 ∨ rrOk n t ttl addr to tx nu = true ∧ e ≤ m.length) := by
  cases h : rgOk m (headGet m i).1 (headGet m i).2 with
  | false => exact ⟨[], _, 0, 0, 0, [], _, [], _, [], _, -1, rfl, rfl, rfl, rfl, rfl, .inl (by decide)⟩
  | true => exact ⟨_, _, _, _, _, _, _, _, _, _, _, _, rfl, rfl, rfl, rfl, rfl, .inr (rgOk_out h)⟩
theorem fin_le {ar : Ar} (har : ar = std) {l : List UInt8} {ls : List (List T)} {e : Int} {p : Prop} (hl : encB l = ls) (h : ar.icmp .lss e 0 = false) (k : e < 0 ∨ p ∧ e ≤ l.length) : ar.icmp .leq e (ar.len ls) = true := by
  have hel := encB_len hl
  subst har
  simp [std, icmpS] at h ⊢
  rcases k with k | ⟨_, k⟩ <;> omega
theorem fin_no {ar : Ar} (har : ar = std) {e : Int} {b : Bool} {q : Prop} (h : ar.icmp .lss e 0 = false) (k : e < 0 ∨ b = true ∧ q) (hb : b = false) : False := by
  subst har
  simp [std, icmpS] at h
  rcases k with k | ⟨k, _⟩
  · omega
  · rw [hb] at k; cases k
def mdF (n : Nat) : Md := bif eqB n 17 then ⟨[], false⟩ else md n
theorem lRecords (hP : Prg P) {code : List UInt8} {es : List (List T)} (hes : encB code = es) : ACall P 3 [.one (.t (.sl es))] [] (fun r ob => r = .one (.t (.bool true)) ∧ ob = []) := by
  generalize hK : (fun (r : A) (ob : Obs) => r = .one (.t (.bool true)) ∧ ob = []) = K
  have hk : RetP K (.one (.t (.bool true))) [] := by subst hK; exact ⟨⟨rfl, rfl⟩⟩
  have hk2 : ∀ b, b = true → RetP K (.one (.t (.bool b))) [] := fun b hb => hb ▸ hk
  refine acall_fn (md := mdF) [none] v3 hP.mixed hP.tab (fn_at hP fn3) 1 rfl (by decide +kernel) rfl ?_
  intro ar har
  cbv
  repeat' (first | (intro; cbv) | (with_reducible refine and_side ?_ ?_; rotate_left; try cbv) | (refine ChkP.mk (by rfl) ?_; cbv) | (refine br_intro ?_ ?_ <;> intro <;> cbv) | (refine get_at har (by assumption) (by assumption) (by assumption) (by assumption) ?_; cbv) | (refine get_lt har (by assumption) (by assumption) (by assumption) ?_; intro x xx hx hxx; cbv) | (refine get_atN har (by assumption) (by assumption) (by assumption) (by assumption) ?_; cbv) | (refine get_ltN har (by assumption) (by assumption) (by assumption) ?_; intro x xx hx hxx; cbv) | (refine get_atI har (by assumption) (by assumption) (by decide) ?_; cbv) | (refine get_twoA har (by assumption) (by assumption) (by decide) ?_; intro x hx; cbv) | (refine get_twoB har (by assumption) (by assumption) (by decide) ?_; intro x hx; cbv) | (refine bytes_intro (by assumption) ?_; cbv) | (exact side_lt har (by assumption) (by assumption)) | (exact side_inb har (by assumption) (by assumption) (by assumption)) | (exact side_sh har (by decide)) | (exact side_app har (by assumption) (by assumption) (by omega)) | (exact side_app0 har (by assumption) (by omega)) | (exact side_new har (by assumption) (by omega)) | (exact side_one har (by assumption) (by omega)) | (exact side_oneN har (by assumption) (by omega)) | (exact side_flat har (by assumption)) | (exact side_sbig har (by omega)) | (refine side_sbig har ?_; simp; done) | (exact side_oneI har (by assumption) (by omega)) | (refine side_ix har ?_; simp; done) | (refine side_ix har ?_; simp; omega) | (refine call_intro (drawRrPut_w hP (by assumption)) ?_; rintro r ob ⟨l, ls, n, ns, t, ttl, addr, to, tos, tx, txs, nu, nus, hl, hll, hn, hnb, hto, htob, htx, htxl, hnu, hnul, rfl, rfl⟩; cbv) | (refine call_intro (iRrPut hP (by assumption) (by omega) (by assumption) (by assumption) (by assumption) (by assumption) (by assumption) (by omega) (by assumption) (by omega)) ?_; rintro r ob ⟨rfl, rfl⟩; generalize hro : rrOk _ _ _ _ _ _ _ = ro; generalize hxb : (ite (ro = true) _ _ : List UInt8) = xb; generalize hxs : encB xb = xs; cbv) | (refine calld_intro (iRrPut hP (by assumption) (by omega) (by assumption) (by assumption) (by assumption) (by assumption) (by assumption) (by omega) (by assumption) (by omega)) ?_; generalize hro : rrOk _ _ _ _ _ _ _ = ro; generalize hxb : (ite (ro = true) _ _ : List UInt8) = xb; generalize hxs : encB xb = xs; cbv) | (refine call_intro (sRrOk hP (by assumption) (by assumption) (by assumption) (by assumption)) ?_; rintro r ob ⟨rfl, rfl⟩; rw [hro]; cbv) | (refine calld_intro (sRrOk hP (by assumption) (by assumption) (by assumption) (by assumption)) ?_; rw [hro]; cbv) | (refine call_intro (iRrOk hP (by assumption) (by assumption) (by assumption) (by assumption)) ?_; rintro r ob ⟨rfl, rfl⟩; rw [hro]; cbv) | (refine calld_intro (iRrOk hP (by assumption) (by assumption) (by assumption) (by assumption)) ?_; rw [hro]; cbv) | (refine call_intro (iRrText hP (by assumption) (by assumption) (by assumption) (by assumption)) ?_; rintro r ob ⟨rfl, rfl⟩; generalize hrt : rrTextB _ _ _ _ _ _ _ = rt; generalize hrts : encB rt = rts; cbv) | (refine calld_intro (iRrText hP (by assumption) (by assumption) (by assumption) (by assumption)) ?_; generalize hrt : rrTextB _ _ _ _ _ _ _ = rt; generalize hrts : encB rt = rts; cbv))
  case refine_2.refine_1 => exact absurd (show std.bnot (std.beq ro ro) = true by subst har; assumption) (by cases ro <;> decide)
  case refine_2.refine_2.refine_1 => exact absurd (show std.bnot (std.beq ro ro) = true by subst har; assumption) (by cases ro <;> decide)
  case refine_2.refine_2.refine_2.refine_2.refine_1 =>
    have hpos : decide (0 < rt.length) = ro := by rw [← hrt, ← hro]; exact rrTextB_pos
    have hrl := encB_len hrts
    have h2 : std.bnot (std.beq ro (std.icmp .gtr (std.len rts) 0)) = true := by subst har; assumption
    have h3 : std.icmp .gtr (std.len rts) 0 = ro := by
      show decide ((0 : Int) < (rts.length : Int)) = ro
      rw [← hpos, hrl]
      exact decide_eq_decide.2 (by omega)
    rw [h3] at h2
    exact absurd h2 (by cases ro <;> decide)
  case refine_2.refine_2.refine_2.refine_2.refine_2.refine_1 =>
    have hr1 : ro = true := by assumption
    subst hr1
    obtain ⟨hx5, hget⟩ := rrGet_put hro hxb.symm hll
    have hll2 : ar.len ls = (l.length : Int) := by subst har; rw [← hl]; simp [std, encB]
    rw [hn, hto, htx, hnu] at hget
    generalize hxl : ((xb.length : Nat) : Int) = xl at hget
    rw [← hll2] at hget
    refine call_intro (call_val (iRrGet hP hxs (i := ar.len ls) (by omega)) hget) ?_
    rintro r ob ⟨rfl, rfl⟩
    cbv
    repeat' (first | (intro; cbv) | (with_reducible refine and_side ?_ ?_; rotate_left; try cbv) | (refine ChkP.mk (by rfl) ?_; cbv) | (refine br_intro ?_ ?_ <;> intro <;> cbv) | (refine get_at har (by assumption) (by assumption) (by assumption) (by assumption) ?_; cbv) | (refine get_lt har (by assumption) (by assumption) (by assumption) ?_; intro x xx hx hxx; cbv) | (refine get_atN har (by assumption) (by assumption) (by assumption) (by assumption) ?_; cbv) | (refine get_ltN har (by assumption) (by assumption) (by assumption) ?_; intro x xx hx hxx; cbv) | (refine get_atI har (by assumption) (by assumption) (by decide) ?_; cbv) | (refine get_twoA har (by assumption) (by assumption) (by decide) ?_; intro x hx; cbv) | (refine get_twoB har (by assumption) (by assumption) (by decide) ?_; intro x hx; cbv) | (refine bytes_intro (by assumption) ?_; cbv) | (exact side_lt har (by assumption) (by assumption)) | (exact side_inb har (by assumption) (by assumption) (by assumption)) | (exact side_sh har (by decide)) | (exact side_app har (by assumption) (by assumption) (by omega)) | (exact side_app0 har (by assumption) (by omega)) | (exact side_new har (by assumption) (by omega)) | (exact side_one har (by assumption) (by omega)) | (exact side_oneN har (by assumption) (by omega)) | (exact side_flat har (by assumption)) | (exact side_sbig har (by omega)) | (refine side_sbig har ?_; simp; done) | (exact side_oneI har (by assumption) (by omega)) | (refine side_ix har ?_; simp; done) | (refine side_ix har ?_; simp; omega) | (refine call_intro (iDataPut hP (by assumption) (by assumption) (by assumption) (by assumption) (by omega) (by assumption) (by omega)) ?_; rintro r ob ⟨rfl, rfl⟩; rw [hro]; generalize hdb : (ite (true = true) _ _ : List UInt8) = db; generalize hdbs : encB db = dbs; cbv) | (refine calld_intro (iDataPut hP (by assumption) (by assumption) (by assumption) (by assumption) (by omega) (by assumption) (by omega)) ?_; rw [hro]; generalize hdb : (ite (true = true) _ _ : List UInt8) = db; generalize hdbs : encB db = dbs; cbv))
    have hdg := dataGet_read hro hdb hdbs har
    rw [hto, htx, hnu] at hdg
    refine call_intro (call_val (iDataGet hP hdbs (i := 0) (n := ar.len dbs) (by have := data_len hro; rw [← hdb, if_pos rfl]; omega)) hdg) ?_
    rintro r ob ⟨rfl, rfl⟩
    cbv
    repeat' (first | (intro; cbv) | (with_reducible refine and_side ?_ ?_; rotate_left; try cbv) | (refine ChkP.mk (by rfl) ?_; cbv) | (refine br_intro ?_ ?_ <;> intro <;> cbv) | (refine get_at har (by assumption) (by assumption) (by assumption) (by assumption) ?_; cbv) | (refine get_lt har (by assumption) (by assumption) (by assumption) ?_; intro x xx hx hxx; cbv) | (refine get_atN har (by assumption) (by assumption) (by assumption) (by assumption) ?_; cbv) | (refine get_ltN har (by assumption) (by assumption) (by assumption) ?_; intro x xx hx hxx; cbv) | (refine get_atI har (by assumption) (by assumption) (by decide) ?_; cbv) | (refine get_twoA har (by assumption) (by assumption) (by decide) ?_; intro x hx; cbv) | (refine get_twoB har (by assumption) (by assumption) (by decide) ?_; intro x hx; cbv) | (refine bytes_intro (by assumption) ?_; cbv) | (exact side_lt har (by assumption) (by assumption)) | (exact side_inb har (by assumption) (by assumption) (by assumption)) | (exact side_sh har (by decide)) | (exact side_app har (by assumption) (by assumption) (by omega)) | (exact side_app0 har (by assumption) (by omega)) | (exact side_new har (by assumption) (by omega)) | (exact side_one har (by assumption) (by omega)) | (exact side_oneN har (by assumption) (by omega)) | (exact side_flat har (by assumption)) | (exact side_sbig har (by omega)) | (refine side_sbig har ?_; simp; done) | (exact side_oneI har (by assumption) (by omega)) | (refine side_ix har ?_; simp; done) | (refine side_ix har ?_; simp; omega) | (refine call_intro (lSameRrs hP (by assumption) (by assumption) (by assumption) (by assumption) (by assumption) (by assumption) (by assumption) (by assumption)) ?_; rintro r ob ⟨rfl, rfl⟩; rw [sameR_self hro]; cbv) | (refine calld_intro (lSameRrs hP (by assumption) (by assumption) (by assumption) (by assumption) (by assumption) (by assumption) (by assumption) (by assumption)) ?_; rw [sameR_self hro]; cbv) | (refine call_intro (lSameName hP (by assumption) (by assumption)) ?_; rintro r ob ⟨rfl, rfl⟩; rw [beq_self_eq_true]; cbv) | (refine calld_intro (lSameName hP (by assumption) (by assumption)) ?_; rw [beq_self_eq_true]; cbv) | (refine call_intro (lSame hP (by assumption) (by assumption)) ?_; rintro r ob ⟨rfl, rfl⟩; rw [beq_self_eq_true]; cbv) | (refine calld_intro (lSame hP (by assumption) (by assumption)) ?_; rw [beq_self_eq_true]; cbv) | (refine call_intro (iTypeOk hP) ?_; rintro r ob ⟨rfl, rfl⟩; generalize hty : typeB _ = ty; cbv) | (refine calld_intro (iTypeOk hP) ?_; generalize hty : typeB _ = ty; cbv))
    case refine_2.refine_1 => exact absurd (show std.icmp .neq xl (std.len xs) = true by subst har; assumption) (by have := encB_len hxs; replace hxl : ((xb.length : Nat) : Int) = xl := hxl; simp [std, icmpS]; omega)
    case refine_2.refine_2.refine_2.refine_2.refine_2.refine_1 => exact absurd (show std.icmp .neq addr addr = true by subst har; assumption) (by simp [std, icmpS])
    case refine_2.refine_2.refine_2.refine_2.refine_2.refine_2.refine_2.refine_2.refine_1 => exact absurd (show std.bnot ty = true by subst har; assumption) (by rw [← hty, (rrOk_all hro).2.1]; decide)
    case refine_2.refine_2.refine_1 => exact absurd (show std.bnot true = true by subst har; assumption) (by decide)
    case refine_2.refine_2.refine_2.refine_1 => exact absurd (show std.bnot true = true by subst har; assumption) (by decide)
    case refine_2.refine_2.refine_2.refine_2.refine_1 => exact absurd (show std.bnot true = true by subst har; assumption) (by decide)
    case refine_2.refine_2.refine_2.refine_2.refine_2.refine_2.refine_1 => exact absurd (show std.bnot true = true by subst har; assumption) (by decide)
    case refine_2.refine_2.refine_2.refine_2.refine_2.refine_2.refine_2.refine_1 => exact absurd (show std.bnot true = true by subst har; assumption) (by decide)
    clear hget hdg
    repeat' (first | (intro; cbv) | (with_reducible refine and_side ?_ ?_; rotate_left; try cbv) | (refine ChkP.mk (by rfl) ?_; cbv) | (refine br_intro ?_ ?_ <;> intro <;> cbv) | (refine get_at har (by assumption) (by assumption) (by assumption) (by assumption) ?_; cbv) | (refine get_lt har (by assumption) (by assumption) (by assumption) ?_; intro x xx hx hxx; cbv) | (refine get_atN har (by assumption) (by assumption) (by assumption) (by assumption) ?_; cbv) | (refine get_ltN har (by assumption) (by assumption) (by assumption) ?_; intro x xx hx hxx; cbv) | (refine get_atI har (by assumption) (by assumption) (by decide) ?_; cbv) | (refine get_twoA har (by assumption) (by assumption) (by decide) ?_; intro x hx; cbv) | (refine get_twoB har (by assumption) (by assumption) (by decide) ?_; intro x hx; cbv) | (refine bytes_intro (by assumption) ?_; cbv) | (exact side_lt har (by assumption) (by assumption)) | (exact side_inb har (by assumption) (by assumption) (by assumption)) | (exact side_sh har (by decide)) | (exact side_app har (by assumption) (by assumption) (by omega)) | (exact side_app0 har (by assumption) (by omega)) | (exact side_new har (by assumption) (by omega)) | (exact side_one har (by assumption) (by omega)) | (exact side_oneN har (by assumption) (by omega)) | (exact side_flat har (by assumption)) | (exact side_sbig har (by omega)) | (refine side_sbig har ?_; simp; done) | (exact side_oneI har (by assumption) (by omega)) | (refine side_ix har ?_; simp; done) | (refine side_ix har ?_; simp; omega) | (refine call_intro (drawRrGet_w hP (by assumption)) ?_; rintro r ob ⟨l2, ls2, i2, hl2, hll2, hi02, hi32, rfl, rfl⟩; cbv))
    have hga := rrGet_any l2 i2
    obtain ⟨wn, wns, wt, wttl, waddr, wto, wtos, wtx, wtxs, wnu, wnus, we, hwn, hwto, hwtx, hwnu, hwr, hwok⟩ := hga
    refine call_intro (call_val (iRrGet hP (by assumption) (by omega)) hwr) ?_
    rintro r ob ⟨rfl, rfl⟩
    cbv
    repeat' (first | (intro; cbv) | (with_reducible refine and_side ?_ ?_; rotate_left; try cbv) | (refine ChkP.mk (by rfl) ?_; cbv) | (refine br_intro ?_ ?_ <;> intro <;> cbv) | (refine get_at har (by assumption) (by assumption) (by assumption) (by assumption) ?_; cbv) | (refine get_lt har (by assumption) (by assumption) (by assumption) ?_; intro x xx hx hxx; cbv) | (refine get_atN har (by assumption) (by assumption) (by assumption) (by assumption) ?_; cbv) | (refine get_ltN har (by assumption) (by assumption) (by assumption) ?_; intro x xx hx hxx; cbv) | (refine get_atI har (by assumption) (by assumption) (by decide) ?_; cbv) | (refine get_twoA har (by assumption) (by assumption) (by decide) ?_; intro x hx; cbv) | (refine get_twoB har (by assumption) (by assumption) (by decide) ?_; intro x hx; cbv) | (refine bytes_intro (by assumption) ?_; cbv) | (exact side_lt har (by assumption) (by assumption)) | (exact side_inb har (by assumption) (by assumption) (by assumption)) | (exact side_sh har (by decide)) | (exact side_app har (by assumption) (by assumption) (by omega)) | (exact side_app0 har (by assumption) (by omega)) | (exact side_new har (by assumption) (by omega)) | (exact side_one har (by assumption) (by omega)) | (exact side_oneN har (by assumption) (by omega)) | (exact side_flat har (by assumption)) | (exact side_sbig har (by omega)) | (refine side_sbig har ?_; simp; done) | (exact side_oneI har (by assumption) (by omega)) | (refine side_ix har ?_; simp; done) | (refine side_ix har ?_; simp; omega) | (refine call_intro (lNames hP) ?_; rintro r ob ⟨rfl, rfl⟩; cbv) | (refine calld_intro (lNames hP) ?_; cbv) | (refine call_intro (iRrOk hP (by assumption) (by assumption) (by assumption) (by assumption)) ?_; rintro r ob ⟨rfl, rfl⟩; generalize hwo : rrOk _ _ _ _ _ _ _ = wo; cbv) | (refine calld_intro (iRrOk hP (by assumption) (by assumption) (by assumption) (by assumption)) ?_; generalize hwo : rrOk _ _ _ _ _ _ _ = wo; cbv))
    all_goals first
      | exact hk
      | exact hk2 _ (fin_le har (by assumption) (by assumption) hwok)
      | exact (fin_no har (by assumption) hwok (hwo.trans (by assumption))).elim
  case refine_2.refine_2.refine_2.refine_2.refine_2.refine_2 =>
    repeat' (first | (intro; cbv) | (with_reducible refine and_side ?_ ?_; rotate_left; try cbv) | (refine ChkP.mk (by rfl) ?_; cbv) | (refine br_intro ?_ ?_ <;> intro <;> cbv) | (refine get_at har (by assumption) (by assumption) (by assumption) (by assumption) ?_; cbv) | (refine get_lt har (by assumption) (by assumption) (by assumption) ?_; intro x xx hx hxx; cbv) | (refine get_atN har (by assumption) (by assumption) (by assumption) (by assumption) ?_; cbv) | (refine get_ltN har (by assumption) (by assumption) (by assumption) ?_; intro x xx hx hxx; cbv) | (refine get_atI har (by assumption) (by assumption) (by decide) ?_; cbv) | (refine get_twoA har (by assumption) (by assumption) (by decide) ?_; intro x hx; cbv) | (refine get_twoB har (by assumption) (by assumption) (by decide) ?_; intro x hx; cbv) | (refine bytes_intro (by assumption) ?_; cbv) | (exact side_lt har (by assumption) (by assumption)) | (exact side_inb har (by assumption) (by assumption) (by assumption)) | (exact side_sh har (by decide)) | (exact side_app har (by assumption) (by assumption) (by omega)) | (exact side_app0 har (by assumption) (by omega)) | (exact side_new har (by assumption) (by omega)) | (exact side_one har (by assumption) (by omega)) | (exact side_oneN har (by assumption) (by omega)) | (exact side_flat har (by assumption)) | (exact side_sbig har (by omega)) | (refine side_sbig har ?_; simp; done) | (exact side_oneI har (by assumption) (by omega)) | (refine side_ix har ?_; simp; done) | (refine side_ix har ?_; simp; omega) | (refine call_intro (drawRrGet_w hP (by assumption)) ?_; rintro r ob ⟨l, ls, i, hl, hll, hi0, hi3, rfl, rfl⟩; cbv))
    have hga := rrGet_any l i
    obtain ⟨wn, wns, wt, wttl, waddr, wto, wtos, wtx, wtxs, wnu, wnus, we, hwn, hwto, hwtx, hwnu, hwr, hwok⟩ := hga
    refine call_intro (call_val (iRrGet hP (by assumption) (by omega)) hwr) ?_
    rintro r ob ⟨rfl, rfl⟩
    cbv
    repeat' (first | (intro; cbv) | (with_reducible refine and_side ?_ ?_; rotate_left; try cbv) | (refine ChkP.mk (by rfl) ?_; cbv) | (refine br_intro ?_ ?_ <;> intro <;> cbv) | (refine get_at har (by assumption) (by assumption) (by assumption) (by assumption) ?_; cbv) | (refine get_lt har (by assumption) (by assumption) (by assumption) ?_; intro x xx hx hxx; cbv) | (refine get_atN har (by assumption) (by assumption) (by assumption) (by assumption) ?_; cbv) | (refine get_ltN har (by assumption) (by assumption) (by assumption) ?_; intro x xx hx hxx; cbv) | (refine get_atI har (by assumption) (by assumption) (by decide) ?_; cbv) | (refine get_twoA har (by assumption) (by assumption) (by decide) ?_; intro x hx; cbv) | (refine get_twoB har (by assumption) (by assumption) (by decide) ?_; intro x hx; cbv) | (refine bytes_intro (by assumption) ?_; cbv) | (exact side_lt har (by assumption) (by assumption)) | (exact side_inb har (by assumption) (by assumption) (by assumption)) | (exact side_sh har (by decide)) | (exact side_app har (by assumption) (by assumption) (by omega)) | (exact side_app0 har (by assumption) (by omega)) | (exact side_new har (by assumption) (by omega)) | (exact side_one har (by assumption) (by omega)) | (exact side_oneN har (by assumption) (by omega)) | (exact side_flat har (by assumption)) | (exact side_sbig har (by omega)) | (refine side_sbig har ?_; simp; done) | (exact side_oneI har (by assumption) (by omega)) | (refine side_ix har ?_; simp; done) | (refine side_ix har ?_; simp; omega) | (refine call_intro (lNames hP) ?_; rintro r ob ⟨rfl, rfl⟩; cbv) | (refine calld_intro (lNames hP) ?_; cbv) | (refine call_intro (iRrOk hP (by assumption) (by assumption) (by assumption) (by assumption)) ?_; rintro r ob ⟨rfl, rfl⟩; generalize hwo : rrOk _ _ _ _ _ _ _ = wo; cbv) | (refine calld_intro (iRrOk hP (by assumption) (by assumption) (by assumption) (by assumption)) ?_; generalize hwo : rrOk _ _ _ _ _ _ _ = wo; cbv))
    all_goals first
      | exact hk
      | exact hk2 _ (fin_le har (by assumption) (by assumption) hwok)
      | exact (fin_no har (by assumption) hwok (hwo.trans (by assumption))).elim
end Go.TL.Tryz

/- TfRecE -/
namespace Go.Proofs.YthgiojaenbgdgaaGreatDoor.fnRecords
open Go Go.TL Go.TL.Tryz Go.Proofs Go.ChangeShapes Go.WideShapes Go.ChangeAt Go.RowKit

theorem own : ownKnob Tryz.prog.godebug = none := by kernel_rfl
theorem laidOut : laidOutB Tryz.prog = true := by kernel_rfl
theorem readable : Tryz.prog.readableRec 22 = true := by kernel_rfl
theorem rowLt : 22 < Tryz.prog.types.size := by decide +kernel
theorem gTab : Tryz.prog.globalNamed "internal/strconv.uint64pow10" = some 1 := by kernel_rfl
theorem gTabType : (Tryz.prog.globals[1]?).map (·.type) = some 214 := by kernel_rfl
theorem cellsTab : Tryz.prog.cellsOf 214 = 20 := by kernel_rfl
theorem cellsElt : Tryz.prog.cellsOf 189 = 1 := by kernel_rfl
theorem tableData : Rows.laid_internal_strconv_uint64pow10 (H := Unit) = Lib.tabData .u64 pow10L := by kernel_rfl
theorem laidIs : laidMetH Tryz.prog Rows.fnRecordsRow.laid = laidMet Tryz.prog Rows.fnRecordsRow.laid := by kernel_rfl
/-- What the row's list gives: the table that texts of numbers read. -/
theorem table {W : World} (h : laidMetH Tryz.prog Rows.fnRecordsRow.laid W) : Lib.TabIs Tryz.prog W "internal/strconv.uint64pow10" .u64 pow10L := by
  rw [laidIs] at h
  have h3 := laidMet_tail (laidMet_tail h)
  rw [tableData] at h3
  exact Lib.tabIs_of_head gTab gTabType Tryz.underlying214 Tryz.underlying189 cellsElt cellsTab h3
theorem tabOk : TabOk Tryz.prog tf := tabOk_of (by decide +kernel)
theorem prg : Prg Tryz.prog := ⟨rfl, Go.Checked.mixed Tryz.checked, tabOk⟩
set_option maxRecDepth 100000 in
theorem contract (H : Type) (enc : TypeId × Value → H) (W : World) (base : Nat) (args : Array Value) (ds gs : List (DataW H)) (before : List MemPlace)
    (hval : ∀ (j : Nat) t v, Tryz.f3.params[j]? = some t → args[j]? = some v → Value.okWide Tryz.prog W .any base t v)
    (hW : DataW.Whole enc Tryz.prog Tryz.f3.params.toList Rows.fnRecordsSpec.vars false W args.toList ds gs before) (hL : laidMetH Tryz.prog Rows.fnRecordsRow.laid W) :
    Calls Tryz.prog 3 args W fun e W' => ∃ v, e = .returned v ∧ Rows.fnRecordsSpec.post enc Tryz.prog Tryz.f3 false true false false W args v W' :=
  law_bytes Tryz.func3 rfl (by decide) rfl rfl laidOut readable rowLt gTab (fun _ _ h => lRecords prg h) rfl (fun _ => rfl) hval hW (table hL)
/-- The cells of a datum. -/
def cell1 : DataW Unit → List Value
  | .lit (.int k z) => [.int k z]
  | _ => []
def cell2 : DataW Unit → List Value
  | .lit (.int k z) => [.int k z]
  | .agg ps => ps.flatMap cell1
  | _ => []
def cell3 : DataW Unit → List Value
  | .agg ps => ps.flatMap cell2
  | _ => []
def lay (g : Nat) (d : DataW Unit) (h : Array Obj) : Array Obj := h.modify g fun
  | .cells _ t frozen => .cells (cell3 d).toArray t frozen
  | o => o
noncomputable def laidHeap (h : Array Obj) : Array Obj :=
  lay 4 Rows.laid_math_bits_deBruijn32tab (lay 5 Rows.laid_math_bits_deBruijn64tab (lay 1 Rows.laid_internal_strconv_uint64pow10
    (lay 3 Rows.laid_unicode_utf8_acceptRanges (lay 2 Rows.laid_unicode_utf8_first h))))
/-- A world for the witness: the listed variables hold what the list says. -/
noncomputable def laidWorld (os : Os) : World := { World.holding Tryz.prog os ⟨#[], #[], []⟩ with heap := laidHeap (World.holding Tryz.prog os ⟨#[], #[], []⟩).heap }
set_option maxRecDepth 100000 in
theorem laid_met (os : Os) : laidMet Tryz.prog Rows.fnRecordsRow.laid ((laidWorld os).forCall (fun _ _ => 0) ⟨#[], #[.slice none 0 0], []⟩).memory :=
  laidMet_of_run' 8 (by kernel_rfl) (by kernel_rfl)
set_option maxRecDepth 100000 in
theorem reads (os : Os) {H : Type} (enc : TypeId × Value → H) : ∃ places, DataW.whole enc Tryz.prog ((laidWorld os).forCall (fun _ _ => 0) ⟨#[], #[.slice none 0 0], []⟩).memory Tryz.f3.params.toList Rows.fnRecordsSpec.vars false #[Value.slice none 0 0].toList 8 = some ([.nil], [], places) :=
  ⟨[], by kernel_rfl⟩
set_option maxRecDepth 100000 in
theorem lifted (os : Os) (started : os.Started) (H : Type) (enc : TypeId × Value → H) (F : Stop.Interp) :
    ReturnsInHanded {} Tryz.checked os 3 .any ((OpenSpec.ofChange Rows.fnRecordsSpec).preRow enc Tryz.prog Tryz.f3 Rows.fnRecordsRow.domain false Rows.fnRecordsRow.laid) (((OpenSpec.ofChange Rows.fnRecordsSpec).at F).post enc Tryz.prog Tryz.f3 false true false false) := by
  obtain ⟨places, hx⟩ := reads os enc
  refine returnsInHanded_of_row (C := Tryz.checked) (s := OpenSpec.ofChange Rows.fnRecordsSpec) own started (by kernel_rfl) Tryz.func3
    (witness_row_at (enc := enc) (C := Tryz.checked) false (laidWorld os) #[.slice none 0 0] rfl (by kernel_rfl) (by kernel_rfl) (by kernel_rfl)
      (OpenSpec.preRow_of_cond 8 hx (by kernel_rfl) (fun k hk => by cases hk) (by kernel_rfl) (laid_met os))) ?_
  intro W base args ds gs before hval hW _ _ _ hL _ _
  exact contract H enc W base args ds gs before hval hW hL
set_option maxRecDepth 100000 in
theorem said : Rows.FnRecordsSaid :=
  OpenClaim.holds_of_cond 3 Tryz.f3 rfl rfl rfl rfl rfl rfl rfl ⟨rfl, rfl, rfl, rfl, rfl⟩ rfl rfl rfl rfl rfl (by kernel_rfl) Tryz.func3 (by kernel_rfl)
    (of_decide_eq_true (by kernel_rfl)) (by unfold Func.isWrapper; first | (rw [if_pos (by decide +kernel)]; kernel_rfl) | (rw [if_neg (by decide +kernel)]; exact ⟨rfl, rfl⟩))
    (fun os started H enc _ F => by rw [OpenClaim.pre_eq_preRow]; exact lifted os started H enc F)
theorem plain (f : FuncId) (fn : Func) (hf : Tryz.pinned.checked.prog.funcNamed "loop.example/g00422/laws.FnRecords" = some f) (hfn : Tryz.pinned.checked.prog.funcs[f]? = some fn) :
    false = Tryz.pinned.checked.prog.looks [] ∧ ∀ (j : Nat) t, fn.params[j]? = some t → Tryz.pinned.checked.prog.wantsStandIn t = false := by
  obtain rfl : f = 3 := Option.some.inj ((show Tryz.prog.funcNamed "loop.example/g00422/laws.FnRecords" = some 3 by kernel_rfl).symm.trans hf) |>.symm
  obtain rfl : fn = Tryz.f3 := (Option.some.inj (Tryz.func3.symm.trans hfn)).symm
  refine ⟨by kernel_rfl, fun j t ht => ?_⟩
  rw [Tryz.params3] at ht
  obtain rfl : t = 22 := by simpa using Array.mem_of_getElem? ht
  exact (show Tryz.prog.wantsStandIn 22 = false by kernel_rfl)
/-- The card. -/
theorem card : Rows.FnRecordsCardSaid :=
  Claim7.holds_tied_plain_at .later [] _ _ _ _ said (fun _ h => by cases h) (by kernel_rfl) (fun _ h => by cases h) fnRecords_row_tie rfl ⟨rfl, rfl⟩ (by kernel_rfl) rfl plain (by kernel_rfl)
end Go.Proofs.YthgiojaenbgdgaaGreatDoor.fnRecords
