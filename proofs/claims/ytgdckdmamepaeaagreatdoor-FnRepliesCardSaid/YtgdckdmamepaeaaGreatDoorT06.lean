/- Texts of a proof, joined by a program (merge.py): TfNmV TfPutS TfRrD TfPutT TfImN TfRrOk TfTyN. -/
import Derived.Test.YtgdckdmamepaeaaGreatDoorT05
import Derived.WalkKit
import Derived.RowKit3
import Derived.Below
import Derived.MapKept
set_option linter.all false
/- TfNmV -/
namespace Go.TL.Tryz
open Go Go.TL Go.Proofs
variable {P : Program}

/-- A name that is no longer than drawn ones are. -/
def NmB (n : List (List UInt8)) : Prop := n.length ≤ 7 ∧ ∀ l ∈ n, l.length ≤ 16
theorem nmB_read (b : List UInt8) : NmB (nameRead b).1 ∧ (nameRead b).1.length ≤ 6 := by
  unfold nameRead
  split
  · exact ⟨⟨by simp, by simp⟩, by simp⟩
  · split
    · rename_i h
      simp only [nameOk, Bool.and_eq_true, decide_eq_true_eq, List.all_eq_true] at h
      refine ⟨⟨by simp only; omega, fun l hl => ?_⟩, h.1⟩
      have := h.2 l hl
      simp only [labelOk, Bool.and_eq_true, decide_eq_true_eq] at this
      omega
    · exact ⟨⟨by simp, by simp⟩, by simp⟩
set_option maxRecDepth 20000 in
theorem fn131 : Tryz.prog.funcs[131]? = some Tryz.f131 := rfl
set_option maxHeartbeats 40000000 in
set_option maxRecDepth 3000 in
theorem of_w (hP : Prg P) {s : List UInt8} (hs : s.length ≤ 900000) : ACall P 131 [.one (.t (.str s))] []
    (fun r ob => r = .agg [.row 32 0] ∧ ob = [(32, .row 1 (encN (nameRead s).1) 0 [0] false)]) := by
  refine acall_fn (md := md) [some [(0, 1)]] v131 hP.mixed hP.tab (fn_at hP fn131) 1 rfl (by decide +kernel) rfl ?_
  intro ar har
  cbv
  repeat' (first | (intro; cbv) | (with_reducible refine and_side ?_ ?_; rotate_left; try cbv) | (refine ChkP.mk (by decide +kernel) ?_; cbv) | (refine br_intro ?_ ?_ <;> intro <;> cbv) | (refine get_at har (by assumption) (by assumption) (by assumption) (by assumption) ?_; cbv) | (refine get_lt har (by assumption) (by assumption) (by assumption) ?_; intro x xx hx hxx; cbv) | (refine get_atN har (by assumption) (by assumption) (by assumption) (by assumption) ?_; cbv) | (refine get_ltN har (by assumption) (by assumption) (by assumption) ?_; intro x xx hx hxx; cbv) | (refine get_atI har (by assumption) (by assumption) (by decide) ?_; cbv) | (refine get_twoA har (by assumption) (by assumption) (by decide) ?_; intro x hx; cbv) | (refine get_twoB har (by assumption) (by assumption) (by decide) ?_; intro x hx; cbv) | (refine bytes_intro (by assumption) ?_; cbv) | (exact side_lt har (by assumption) (by assumption)) | (exact side_inb har (by assumption) (by assumption) (by assumption)) | (exact side_sh har (by decide)) | (exact side_app har (by assumption) (by assumption) (by omega)) | (exact side_app0 har (by assumption) (by omega)) | (exact side_new har (by assumption) (by omega)) | (exact side_one har (by assumption) (by omega)) | (exact side_oneN har (by assumption) (by omega)) | (exact side_flat har (by assumption)) | (exact side_sbig har (by omega)) | (refine side_sbig har ?_; simp; done) | (exact side_oneI har (by assumption) (by omega)) | (refine side_ix har ?_; simp; done) | (refine side_ix har ?_; simp; omega))
  refine call_intro (sNameRead hP (b := s) (by subst har; rfl) hs) ?_
  rintro r ob ⟨rfl, rfl⟩
  generalize hx : encN (nameRead s).1 = x
  generalize (nameRead s).2 = y
  cbv
  exact ⟨⟨rfl, rfl⟩⟩
set_option maxRecDepth 20000 in
theorem fn183 : Tryz.prog.funcs[183]? = some Tryz.f183 := rfl
set_option maxHeartbeats 40000000 in
set_option maxRecDepth 3000 in
theorem draw2_dd (hP : Prg P) {b : List UInt8} {h ii : Int} {es : List (List T)} (hes : encB b = es) (hii : 0 ≤ ii) : DCall P 183 [.one (.ptr 0 0)] [(0, .box [.t (.sl es), .t (.int .i64 ii), .t (.int .i64 h)] false)]
    (fun r ob => ∃ (n : List (List UInt8)) (ns : List (List T)) (ii' h' : Int), encN n = ns ∧ NmB n ∧ n.length ≤ 6 ∧ 0 ≤ ii' ∧ r = .agg [.row 32 0] ∧ ob = [(0, .box [.t (.sl es), .t (.int .i64 ii'), .t (.int .i64 h')] false), (32, .row 1 ns 0 [0] false)]) := by
  refine dt_acall (dt_eval (fun Q h => acall_fn (md := md) [some [(0, 1)]] v183 hP.mixed hP.tab (fn_at hP fn183) 1 rfl (by decide +kernel) rfl h) (dt_ar fun ar har => ?_))
  refine dt_eval (fun Q h => by cbv; exact h) ?_
  repeat' (first | (refine dt_fact ?_; refine dt_eval (fun Q h => by cbv; exact h) ?_) | (refine dt_br ?_ ?_ <;> intro <;> refine dt_eval (fun Q h => by cbv; exact h) ?_) | (refine dt_chk (by decide +kernel) ?_; refine dt_eval (fun Q h => by cbv; exact h) ?_) | (with_reducible refine dt_side ?_ ?_; rotate_left; try (refine dt_eval (fun Q h => by cbv; exact h) ?_)) | (exact side_lt har (by assumption) (by assumption)) | (exact side_inb har (by assumption) (by assumption) (by assumption)) | (exact side_sh har (by decide)) | (exact side_app har (by assumption) (by assumption) (by omega)) | (exact side_app0 har (by assumption) (by omega)) | (exact side_new har (by assumption) (by omega)) | (exact side_one har (by assumption) (by omega)) | (exact side_oneN har (by assumption) (by omega)) | (exact side_flat har (by assumption)) | (exact side_sbig har (by omega)) | (refine side_sbig har ?_; simp; done) | (exact side_oneI har (by assumption) (by omega)) | (refine side_ix har ?_; simp; done) | (refine side_ix har ?_; simp; omega) | (refine dt_call (below_dd hP (by assumption) (by omega)) ?_; rintro r ob ⟨v, ii, h, hv0, hv1, hii, rfl, rfl⟩; refine dt_eval (fun Q h => by cbv; exact h) ?_) | (refine dt_calld (below_dd hP (by assumption) (by omega)) ?_; rintro r ob ⟨v, ii, h, hv0, hv1, hii, rfl, rfl⟩; refine dt_eval (fun Q h => by cbv; exact h) ?_))
  refine dt_get_str har 100 (by simp; omega) (by simp) ?_
  intro s hs
  refine dt_eval (fun Q h => by cbv; exact h) ?_
  repeat' (first | (refine dt_fact ?_; refine dt_eval (fun Q h => by cbv; exact h) ?_) | (refine dt_br ?_ ?_ <;> intro <;> refine dt_eval (fun Q h => by cbv; exact h) ?_) | (refine dt_chk (by decide +kernel) ?_; refine dt_eval (fun Q h => by cbv; exact h) ?_) | (with_reducible refine dt_side ?_ ?_; rotate_left; try (refine dt_eval (fun Q h => by cbv; exact h) ?_)) | (exact side_lt har (by assumption) (by assumption)) | (exact side_inb har (by assumption) (by assumption) (by assumption)) | (exact side_sh har (by decide)) | (exact side_app har (by assumption) (by assumption) (by omega)) | (exact side_app0 har (by assumption) (by omega)) | (exact side_new har (by assumption) (by omega)) | (exact side_one har (by assumption) (by omega)) | (exact side_oneN har (by assumption) (by omega)) | (exact side_flat har (by assumption)) | (exact side_sbig har (by omega)) | (refine side_sbig har ?_; simp; done) | (exact side_oneI har (by assumption) (by omega)) | (refine side_ix har ?_; simp; done) | (refine side_ix har ?_; simp; omega) | (refine dt_call (ACall.pure (of_w hP (by omega))) ?_; rintro r ob ⟨rfl, rfl⟩; generalize hn : encN (nameRead _).1 = ns; refine dt_eval (fun Q h => by cbv; exact h) ?_) | (refine dt_calld (ACall.pure (of_w hP (by omega))) ?_; rintro r ob ⟨rfl, rfl⟩; generalize hn : encN (nameRead _).1 = ns; refine dt_eval (fun Q h => by cbv; exact h) ?_))
  exact dt_ret ⟨_, ns, ii, h, hn, (nmB_read s).1, (nmB_read s).2, hii, rfl, rfl⟩
set_option maxRecDepth 20000 in
theorem fn185 : Tryz.prog.funcs[185]? = some Tryz.f185 := rfl
set_option maxHeartbeats 40000000 in
set_option maxRecDepth 3000 in
theorem bent2_dd (hP : Prg P) {b : List UInt8} {h ii : Int} {es : List (List T)} (hes : encB b = es) (hii : 0 ≤ ii) : DCall P 185 [.one (.ptr 0 0)] [(0, .box [.t (.sl es), .t (.int .i64 ii), .t (.int .i64 h)] false)]
    (fun r ob => ∃ (n : List (List UInt8)) (ns : List (List T)) (ii' h' : Int), encN n = ns ∧ NmB n ∧ 0 ≤ ii' ∧ r = .agg [.row 32 0] ∧ ob = [(0, .box [.t (.sl es), .t (.int .i64 ii'), .t (.int .i64 h')] false), (32, .row 1 ns 0 [0] false)]) := by
  refine dt_acall (dt_eval (fun Q h => acall_fn (md := md) [some [(0, 1)]] v185 hP.mixed hP.tab (fn_at hP fn185) 1 rfl (by decide +kernel) rfl h) (dt_ar fun ar har => ?_))
  refine dt_eval (fun Q h => by cbv; exact h) ?_
  repeat' (first | (refine dt_fact ?_; refine dt_eval (fun Q h => by cbv; exact h) ?_) | (refine dt_br ?_ ?_ <;> intro <;> refine dt_eval (fun Q h => by cbv; exact h) ?_) | (refine dt_chk (by decide +kernel) ?_; refine dt_eval (fun Q h => by cbv; exact h) ?_) | (with_reducible refine dt_side ?_ ?_; rotate_left; try (refine dt_eval (fun Q h => by cbv; exact h) ?_)) | (exact side_lt har (by assumption) (by assumption)) | (exact side_inb har (by assumption) (by assumption) (by assumption)) | (exact side_sh har (by decide)) | (exact side_app har (by assumption) (by assumption) (by omega)) | (exact side_app0 har (by assumption) (by omega)) | (exact side_new har (by assumption) (by omega)) | (exact side_one har (by assumption) (by omega)) | (exact side_oneN har (by assumption) (by omega)) | (exact side_flat har (by assumption)) | (exact side_sbig har (by omega)) | (refine side_sbig har ?_; simp; done) | (exact side_oneI har (by assumption) (by omega)) | (refine side_ix har ?_; simp; done) | (refine side_ix har ?_; simp; omega) | (refine dt_call (below_dd hP (by assumption) (by omega)) ?_; rintro r ob ⟨v, ii, h, hv0, hv1, hii, rfl, rfl⟩; refine dt_eval (fun Q h => by cbv; exact h) ?_) | (refine dt_calld (below_dd hP (by assumption) (by omega)) ?_; rintro r ob ⟨v, ii, h, hv0, hv1, hii, rfl, rfl⟩; refine dt_eval (fun Q h => by cbv; exact h) ?_) | (refine dt_call (once_dd hP (by assumption) (by omega)) ?_; rintro r ob ⟨v, ii, h, hii, rfl, rfl⟩; refine dt_eval (fun Q h => by cbv; exact h) ?_) | (refine dt_calld (once_dd hP (by assumption) (by omega)) ?_; rintro r ob ⟨v, ii, h, hii, rfl, rfl⟩; refine dt_eval (fun Q h => by cbv; exact h) ?_) | (refine dt_call (draw2_dd hP (by assumption) (by omega)) ?_; rintro r ob ⟨n, ns, ii, h, hn, hnb, hn6, hii, rfl, rfl⟩; refine dt_eval (fun Q h => by cbv; exact h) ?_) | (refine dt_calld (draw2_dd hP (by assumption) (by omega)) ?_; rintro r ob ⟨n, ns, ii, h, hn, hnb, hn6, hii, rfl, rfl⟩; refine dt_eval (fun Q h => by cbv; exact h) ?_))
  · subst har
    exact dt_ret ⟨n ++ [[]], _, _, _, encN_app hn rfl, ⟨by simp; omega, fun l hl => by rcases List.mem_append.1 hl with q | q; exact hnb.2 l q; simp at q; subst q; simp⟩, hii, rfl, rfl⟩
  · subst har
    exact dt_ret ⟨n ++ [[81]], _, _, _, encN_app hn rfl, ⟨by simp; omega, fun l hl => by rcases List.mem_append.1 hl with q | q; exact hnb.2 l q; simp at q; subst q; simp⟩, hii, rfl, rfl⟩
  · refine dt_get_str har 16 (by simp; omega) (by simp) ?_
    intro s hs
    refine dt_eval (fun Q h => by cbv; exact h) ?_
    repeat' (first | (refine dt_fact ?_; refine dt_eval (fun Q h => by cbv; exact h) ?_) | (refine dt_br ?_ ?_ <;> intro <;> refine dt_eval (fun Q h => by cbv; exact h) ?_) | (refine dt_chk (by decide +kernel) ?_; refine dt_eval (fun Q h => by cbv; exact h) ?_) | (with_reducible refine dt_side ?_ ?_; rotate_left; try (refine dt_eval (fun Q h => by cbv; exact h) ?_)) | (exact side_lt har (by assumption) (by assumption)) | (exact side_inb har (by assumption) (by assumption) (by assumption)) | (exact side_sh har (by decide)) | (exact side_app har (by assumption) (by assumption) (by omega)) | (exact side_app0 har (by assumption) (by omega)) | (exact side_new har (by assumption) (by omega)) | (exact side_one har (by assumption) (by omega)) | (exact side_oneN har (by assumption) (by omega)) | (exact side_flat har (by assumption)) | (exact side_sbig har (by omega)) | (refine side_sbig har ?_; simp; done) | (exact side_oneI har (by assumption) (by omega)) | (refine side_ix har ?_; simp; done) | (refine side_ix har ?_; simp; omega))
    subst har
    exact dt_ret ⟨n ++ [s], _, _, _, encN_app hn rfl, ⟨by simp; omega, fun l hl => by rcases List.mem_append.1 hl with q | q; exact hnb.2 l q; simp at q; subst q; exact hs⟩, by assumption, rfl, rfl⟩
  · refine dt_loop_start [] [] ?_
    cbv
    refine LoopDR.mk (List (List UInt8) × List (List T)) (fun x => ([], [(18, .row 1 x.2 0 [0] false)])) (fun x => encN x.1 = x.2 ∧ NmB x.1) (fun x => 7 - x.1.length) (n, ns) ?e ?f ?g
    case e => kernel_rfl
    case f => exact ⟨hn, hnb⟩
    case g =>
      intro x hx
      obtain ⟨m, ms⟩ := x
      have hm : encN m = ms := hx.1
      have hmb : NmB m := hx.2
      have hmb1 : m.length ≤ 7 := hmb.1
      clear hx
      refine dt_eval (fun Q h => by cbv; exact h) ?_
      repeat' (first | (refine dt_fact ?_; refine dt_eval (fun Q h => by cbv; exact h) ?_) | (refine dt_br ?_ ?_ <;> intro <;> refine dt_eval (fun Q h => by cbv; exact h) ?_) | (refine dt_chk (by decide +kernel) ?_; refine dt_eval (fun Q h => by cbv; exact h) ?_) | (with_reducible refine dt_side ?_ ?_; rotate_left; try (refine dt_eval (fun Q h => by cbv; exact h) ?_)) | (exact side_lt har (by assumption) (by assumption)) | (exact side_inb har (by assumption) (by assumption) (by assumption)) | (exact side_sh har (by decide)) | (exact side_app har (by assumption) (by assumption) (by omega)) | (exact side_app0 har (by assumption) (by omega)) | (exact side_new har (by assumption) (by omega)) | (exact side_one har (by assumption) (by omega)) | (exact side_oneN har (by assumption) (by omega)) | (exact side_flat har (by assumption)) | (exact side_sbig har (by omega)) | (refine side_sbig har ?_; simp; done) | (exact side_oneI har (by assumption) (by omega)) | (refine side_ix har ?_; simp; done) | (refine side_ix har ?_; simp; omega))
      all_goals have hlen := encN_len hm
      · refine dt_back ?_
        subst har; simp only [std, icmpS, decide_eq_true_eq, decide_eq_false_iff_not, Bool.not_eq_true', Bool.not_eq_false', bne_iff_ne, ne_eq, bne_eq_false_iff_eq, beq_iff_eq, beq_eq_false_iff_ne, Int.not_lt, Int.not_le, Bool.not_true, Bool.not_false, reduceCtorEq] at *
        exact ⟨(m ++ [[122]], ms ++ [[.sl [[.int .u8 122]]]]), by kernel_rfl, ⟨encN_app hm rfl, by simp; omega, fun l hl => by rcases List.mem_append.1 hl with q | q; exact hmb.2 l q; simp at q; subst q; simp⟩, by simp; omega⟩
      · exact dt_ret ⟨m, ms, _, _, hm, hmb, hii, rfl, rfl⟩
  · exact dt_ret ⟨n, ns, _, _, hn, hnb, hii, rfl, rfl⟩
end Go.TL.Tryz

/- TfPutS -/
namespace Go.TL.Tryz
open Go Go.TL Go.Proofs
variable {P : Program}

def shr8 (n : Int) (k : Int) : Int := iopS .shr .i64 n k
def put16 (n : Int) : List UInt8 := if 0 ≤ n ∧ n ≤ 65535 then [byteOf (shr8 n 8), byteOf n] else []
def put32 (n : Int) : List UInt8 := if 0 ≤ n ∧ n < 4294967296 then [byteOf (shr8 n 24), byteOf (shr8 n 16), byteOf (shr8 n 8), byteOf n] else []
theorem side_byL {ar : Ar} (har : ar = std) {l m : List UInt8} {es fs gs : List (List T)} (h : encB l = gs) (e : es = gs ++ fs) (k : encB m = fs) (hn : l.length + m.length ≤ 1000000000) : Side (ar.room 1 es ∧ ar.wid 1 fs) := by
  subst har; subst h; subst k; subst e
  exact ⟨by simp [std, encB]; omega, wid_byte m⟩
set_option maxRecDepth 20000 in
theorem fn102 : Tryz.prog.funcs[102]? = some Tryz.f102 := rfl
set_option maxHeartbeats 40000000 in
set_option maxRecDepth 3000 in
theorem sPut16 (hP : Prg P) {l : List UInt8} {ls : List (List T)} {n : Int} (hl : encB l = ls) (hb : l.length ≤ 1000000) :
    ACall P 102 [.one (.t (.sl ls)), .one (.t (.int .i64 n))] [] (fun r ob => r = .one (.row 32 0) ∧ ob = [(32, .row 1 (encB (l ++ put16 n)) 0 [0] false)]) := by
  refine acall_fn (md := md) [some [(0, 1)]] v102 hP.mixed hP.tab (fn_at hP fn102) 2 rfl (by decide +kernel) rfl ?_
  intro ar har
  cbv
  repeat' (first | (intro; cbv) | (with_reducible refine and_side ?_ ?_; rotate_left; try cbv) | (refine ChkP.mk (by decide +kernel) ?_; cbv) | (refine br_intro ?_ ?_ <;> intro <;> cbv) | (refine get_at har (by assumption) (by assumption) (by assumption) (by assumption) ?_; cbv) | (refine get_lt har (by assumption) (by assumption) (by assumption) ?_; intro x xx hx hxx; cbv) | (refine get_atN har (by assumption) (by assumption) (by assumption) (by assumption) ?_; cbv) | (refine get_ltN har (by assumption) (by assumption) (by assumption) ?_; intro x xx hx hxx; cbv) | (refine get_atI har (by assumption) (by assumption) (by decide) ?_; cbv) | (refine get_twoA har (by assumption) (by assumption) (by decide) ?_; intro x hx; cbv) | (refine get_twoB har (by assumption) (by assumption) (by decide) ?_; intro x hx; cbv) | (refine bytes_intro (by assumption) ?_; cbv) | (exact side_lt har (by assumption) (by assumption)) | (exact side_inb har (by assumption) (by assumption) (by assumption)) | (exact side_sh har (by decide)) | (exact side_app har (by assumption) (by assumption) (by omega)) | (exact side_app0 har (by assumption) (by omega)) | (exact side_new har (by assumption) (by omega)) | (exact side_one har (by assumption) (by omega)) | (exact side_oneN har (by assumption) (by omega)) | (exact side_flat har (by assumption)) | (exact side_sbig har (by omega)) | (refine side_sbig har ?_; simp; done) | (exact side_oneI har (by assumption) (by omega)) | (refine side_ix har ?_; simp; done) | (refine side_ix har ?_; simp; omega))
  all_goals first
    | (refine side_byL (l := l) (m := [byteOf (shr8 n 8), byteOf n]) har hl ?_ ?_ (by simp; omega) <;> (subst har; first | rfl | (simp [encB, byteOf_wrap, std, shr8]; done)))
    | (subst har; simp only [std, icmpS, decide_eq_true_eq, decide_eq_false_iff_not, Bool.not_eq_true', Bool.not_eq_false', bne_iff_ne, ne_eq, bne_eq_false_iff_eq, beq_iff_eq, beq_eq_false_iff_ne, Int.not_lt, Int.not_le, Bool.not_true, Bool.not_false, reduceCtorEq] at *
       subst hl
       refine ⟨⟨rfl, ?_⟩⟩
       first
         | (rw [put16, if_neg (by omega)]; simp [encB]; done)
         | (rw [put16, if_pos (by omega)]; simp [encB, byteOf_wrap, shr8]; done))
set_option maxRecDepth 20000 in
theorem fn190 : Tryz.prog.funcs[190]? = some Tryz.f190 := rfl
set_option maxHeartbeats 40000000 in
set_option maxRecDepth 3000 in
theorem sPut32 (hP : Prg P) {l : List UInt8} {ls : List (List T)} {n : Int} (hl : encB l = ls) (hb : l.length ≤ 1000000) :
    ACall P 190 [.one (.t (.sl ls)), .one (.t (.int .i64 n))] [] (fun r ob => r = .one (.row 32 0) ∧ ob = [(32, .row 1 (encB (l ++ put32 n)) 0 [0] false)]) := by
  refine acall_fn (md := md) [some [(0, 1)]] v190 hP.mixed hP.tab (fn_at hP fn190) 2 rfl (by decide +kernel) rfl ?_
  intro ar har
  cbv
  repeat' (first | (intro; cbv) | (with_reducible refine and_side ?_ ?_; rotate_left; try cbv) | (refine ChkP.mk (by decide +kernel) ?_; cbv) | (refine br_intro ?_ ?_ <;> intro <;> cbv) | (refine get_at har (by assumption) (by assumption) (by assumption) (by assumption) ?_; cbv) | (refine get_lt har (by assumption) (by assumption) (by assumption) ?_; intro x xx hx hxx; cbv) | (refine get_atN har (by assumption) (by assumption) (by assumption) (by assumption) ?_; cbv) | (refine get_ltN har (by assumption) (by assumption) (by assumption) ?_; intro x xx hx hxx; cbv) | (refine get_atI har (by assumption) (by assumption) (by decide) ?_; cbv) | (refine get_twoA har (by assumption) (by assumption) (by decide) ?_; intro x hx; cbv) | (refine get_twoB har (by assumption) (by assumption) (by decide) ?_; intro x hx; cbv) | (refine bytes_intro (by assumption) ?_; cbv) | (exact side_lt har (by assumption) (by assumption)) | (exact side_inb har (by assumption) (by assumption) (by assumption)) | (exact side_sh har (by decide)) | (exact side_app har (by assumption) (by assumption) (by omega)) | (exact side_app0 har (by assumption) (by omega)) | (exact side_new har (by assumption) (by omega)) | (exact side_one har (by assumption) (by omega)) | (exact side_oneN har (by assumption) (by omega)) | (exact side_flat har (by assumption)) | (exact side_sbig har (by omega)) | (refine side_sbig har ?_; simp; done) | (exact side_oneI har (by assumption) (by omega)) | (refine side_ix har ?_; simp; done) | (refine side_ix har ?_; simp; omega))
  all_goals first
    | (refine side_byL (l := l) (m := [byteOf (shr8 n 24), byteOf (shr8 n 16), byteOf (shr8 n 8), byteOf n]) har hl ?_ ?_ (by simp; omega) <;> (subst har; first | rfl | (simp [encB, byteOf_wrap, std, shr8]; done)))
    | (subst har; simp only [std, icmpS, decide_eq_true_eq, decide_eq_false_iff_not, Bool.not_eq_true', Bool.not_eq_false', bne_iff_ne, ne_eq, bne_eq_false_iff_eq, beq_iff_eq, beq_eq_false_iff_ne, Int.not_lt, Int.not_le, Bool.not_true, Bool.not_false, reduceCtorEq] at *
       subst hl
       refine ⟨⟨rfl, ?_⟩⟩
       first
         | (rw [put32, if_neg (by omega)]; simp [encB]; done)
         | (rw [put32, if_pos (by omega)]; simp [encB, byteOf_wrap, shr8]; done))

def wireL (l : List UInt8) : List UInt8 := byteOf l.length :: l
def wireN (n : List (List UInt8)) : List UInt8 := n.flatMap wireL ++ [0]
theorem put_step {l : List UInt8} {n : List (List UInt8)} {i : Nat} {x : List UInt8} (hx : n[i]? = some x) : l ++ (n.take i).flatMap wireL ++ wireL x = l ++ (n.take (i + 1)).flatMap wireL := by
  rw [List.take_add_one, hx]; simp
theorem enc_len {ar : Ar} (har : ar = std) {x : List UInt8} {xx : List (List T)} (hxx : encB x = xx) : [[T.int .u8 (ar.conv .u8 (ar.len xx))]] = encB [byteOf x.length] := by
  subst har; rw [enc_byteOf, ← encB_len hxx]; rfl
theorem enc_wireL {ar : Ar} (har : ar = std) {m x : List UInt8} {ms xx : List (List T)} (hm : encB m = ms) (hxx : encB x = xx) : ar.app (ar.app ms [[T.int .u8 (ar.conv .u8 (ar.len xx))]]) xx = encB (m ++ wireL x) := by
  rw [enc_len har hxx]; subst har; subst hm; subst hxx; simp [encB, std, wireL]
set_option maxRecDepth 20000 in
theorem fn103 : Tryz.prog.funcs[103]? = some Tryz.f103 := rfl
set_option maxHeartbeats 40000000 in
set_option maxRecDepth 3000 in
theorem sl2put (hP : Prg P) {l : List UInt8} {ls : List (List T)} {n : List (List UInt8)} {ns : List (List T)} (hl : encB l = ls) (hn : encN n = ns) (hb : l.length ≤ 1000000) (hnb : NmB n) :
    ACall P 103 [.one (.row 0 0), .agg [.t (.sl ns)]] [(0, .row 1 ls 0 [0] false)] (fun r ob => r = .one (.row 0 0) ∧ ob = [(0, .row 1 (encB (l ++ wireN n)) 0 [0] false)]) := by
  refine acall_fn (md := md) [some [(0, 1)]] v103 hP.mixed hP.tab (fn_at hP fn103) 2 rfl (by decide +kernel) rfl ?_
  intro ar har
  cbv
  refine LoopP.mk (List UInt8 × List (List T) × Int) [0, 3, 5] []
    (fun x => ⟨[(0, .one (.row 0 0)), (3, .one (.ptr 16 0)), (5, .one (.t (.int .i64 x.2.2)))], [(0, .row 1 x.2.1 0 [0] false), (16, .box [.t (.sl ns)] false)]⟩)
    (fun x => encB x.1 = x.2.1 ∧ 0 ≤ x.2.2 ∧ x.1 = l ++ (n.take x.2.2.toNat).flatMap wireL ∧ x.1.length ≤ 1000000 + 17 * x.2.2.toNat ∧ x.2.2.toNat ≤ n.length) (fun x => n.length - x.2.2.toNat) (l, ls, 0) ?e ?f ?g
  case e => kernel_rfl
  case f => exact ⟨hl, Int.le_refl _, by simp, by simp; omega, by simp⟩
  case g =>
    intro x hx
    obtain ⟨m, ms, i⟩ := x
    have hm : encB m = ms := hx.1
    have hi0 : 0 ≤ i := hx.2.1
    have hmm : m = l ++ (n.take i.toNat).flatMap wireL := hx.2.2.1
    have hmb : m.length ≤ 1000000 + 17 * i.toNat := hx.2.2.2.1
    have hib : i.toNat ≤ n.length := hx.2.2.2.2
    have hnl : n.length ≤ 7 := hnb.1
    clear hx
    cbv
    repeat' (first | (intro; cbv) | (with_reducible refine and_side ?_ ?_; rotate_left; try cbv) | (refine ChkP.mk (by decide +kernel) ?_; cbv) | (refine br_intro ?_ ?_ <;> intro <;> cbv) | (refine get_at har (by assumption) (by assumption) (by assumption) (by assumption) ?_; cbv) | (refine get_lt har (by assumption) (by assumption) (by assumption) ?_; intro x xx hx hxx; cbv) | (refine get_atN har (by assumption) (by assumption) (by assumption) (by assumption) ?_; cbv) | (refine get_ltN har (by assumption) (by assumption) (by assumption) ?_; intro x xx hx hxx; cbv) | (refine get_atI har (by assumption) (by assumption) (by decide) ?_; cbv) | (refine get_twoA har (by assumption) (by assumption) (by decide) ?_; intro x hx; cbv) | (refine get_twoB har (by assumption) (by assumption) (by decide) ?_; intro x hx; cbv) | (refine bytes_intro (by assumption) ?_; cbv) | (exact side_lt har (by assumption) (by assumption)) | (exact side_inb har (by assumption) (by assumption) (by assumption)) | (exact side_sh har (by decide)) | (exact side_app har (by assumption) (by assumption) (by omega)) | (exact side_app0 har (by assumption) (by omega)) | (exact side_new har (by assumption) (by omega)) | (exact side_one har (by assumption) (by omega)) | (exact side_oneN har (by assumption) (by omega)) | (exact side_flat har (by assumption)) | (exact side_sbig har (by omega)) | (refine side_sbig har ?_; simp; done) | (exact side_oneI har (by assumption) (by omega)) | (refine side_ix har ?_; simp; done) | (refine side_ix har ?_; simp; omega))
    · have e : ar.app (ar.app ms [[T.int .u8 (ar.conv .u8 (ar.len xx))]]) xx = encB (m ++ wireL x) := enc_wireL har hm hxx
      have hx16 := hnb.2 x (List.mem_of_getElem? hx)
      have hlt := (List.getElem?_eq_some_iff.1 hx).1
      subst har
      refine ⟨(m ++ wireL x, encB (m ++ wireL x), i + 1), ?_, ⟨rfl, by dsimp only; omega, by dsimp only; rw [hmm, put_step hx, show (i + 1).toNat = i.toNat + 1 by omega], by simp [wireL]; omega, by dsimp only; omega⟩, by dsimp only; omega⟩
      rw [← e, show i + 1 = std.iop .add .i64 i 1 from (addI (by omega) (by omega)).symm]
      kernel_rfl
    · have hx16 := hnb.2 x (List.mem_of_getElem? hx)
      refine side_byL (l := m ++ [byteOf x.length]) har rfl ?_ hxx (by simp; omega)
      have e := enc_wireL har hm hxx
      rw [wireL] at e
      refine Eq.trans e ?_
      rw [← hxx]; simp [encB]
    · have hlen := encN_len hn
      subst har; simp only [std, icmpS, decide_eq_true_eq, decide_eq_false_iff_not, Bool.not_eq_true', Bool.not_eq_false', bne_iff_ne, ne_eq, bne_eq_false_iff_eq, beq_iff_eq, beq_eq_false_iff_ne, Int.not_lt, Int.not_le, Bool.not_true, Bool.not_false, reduceCtorEq] at *
      refine ⟨⟨rfl, ?_⟩⟩
      rw [List.take_of_length_le (by omega)] at hmm
      rw [wireN, ← List.append_assoc, ← hmm, ← hm]; simp [encB]
end Go.TL.Tryz

/- TfRrD -/
namespace Go.TL.Tryz
open Go Go.TL Go.Proofs
variable {P : Program}

def namedB (t : Int) : Bool := decide (t = 2 ∨ t = 5 ∨ t = 6 ∨ t = 12)
set_option maxRecDepth 20000 in
theorem fn186 : Tryz.prog.funcs[186]? = some Tryz.f186 := rfl
set_option maxHeartbeats 40000000 in
set_option maxRecDepth 3000 in
theorem sNamed (hP : Prg P) {t : Int} : ACall P 186 [.one (.t (.int .i64 t))] [] (fun r ob => r = .one (.t (.bool (namedB t))) ∧ ob = []) := by
  refine acall_fn (md := md) [none] v186 hP.mixed hP.tab (fn_at hP fn186) 1 rfl (by decide +kernel) rfl ?_
  intro ar har
  cbv
  repeat' (first | (intro; cbv) | (with_reducible refine and_side ?_ ?_; rotate_left; try cbv) | (refine ChkP.mk (by decide +kernel) ?_; cbv) | (refine br_intro ?_ ?_ <;> intro <;> cbv) | (refine get_at har (by assumption) (by assumption) (by assumption) (by assumption) ?_; cbv) | (refine get_lt har (by assumption) (by assumption) (by assumption) ?_; intro x xx hx hxx; cbv) | (refine get_atN har (by assumption) (by assumption) (by assumption) (by assumption) ?_; cbv) | (refine get_ltN har (by assumption) (by assumption) (by assumption) ?_; intro x xx hx hxx; cbv) | (refine get_atI har (by assumption) (by assumption) (by decide) ?_; cbv) | (refine get_twoA har (by assumption) (by assumption) (by decide) ?_; intro x hx; cbv) | (refine get_twoB har (by assumption) (by assumption) (by decide) ?_; intro x hx; cbv) | (refine bytes_intro (by assumption) ?_; cbv) | (exact side_lt har (by assumption) (by assumption)) | (exact side_inb har (by assumption) (by assumption) (by assumption)) | (exact side_sh har (by decide)) | (exact side_app har (by assumption) (by assumption) (by omega)) | (exact side_app0 har (by assumption) (by omega)) | (exact side_new har (by assumption) (by omega)) | (exact side_one har (by assumption) (by omega)) | (exact side_oneN har (by assumption) (by omega)) | (exact side_flat har (by assumption)) | (exact side_sbig har (by omega)) | (refine side_sbig har ?_; simp; done) | (exact side_oneI har (by assumption) (by omega)) | (refine side_ix har ?_; simp; done) | (refine side_ix har ?_; simp; omega))
  all_goals subst har; simp only [std, icmpS, decide_eq_true_eq, decide_eq_false_iff_not, Bool.not_eq_true', Bool.not_eq_false', bne_iff_ne, ne_eq, bne_eq_false_iff_eq, beq_iff_eq, beq_eq_false_iff_ne, Int.not_lt, Int.not_le, Bool.not_true, Bool.not_false, reduceCtorEq] at *
  · exact ⟨⟨by rw [namedB, decide_eq_true (by omega)], rfl⟩⟩
  · exact ⟨⟨by rw [namedB, decide_eq_true (by omega)], rfl⟩⟩
  · exact ⟨⟨by rw [namedB, decide_eq_true (by omega)], rfl⟩⟩
  · refine ⟨⟨?_, rfl⟩⟩
    rw [namedB]
    by_cases e : t = 12
    · rw [decide_eq_true (by omega)]; simp [e]
    · rw [decide_eq_false (by omega)]; simp [e]
set_option maxRecDepth 20000 in
theorem fn95 : Tryz.prog.funcs[95]? = some Tryz.f95 := rfl
set_option maxHeartbeats 40000000 in
set_option maxRecDepth 3000 in
theorem draw3_dd (hP : Prg P) {b : List UInt8} {h ii : Int} {es : List (List T)} (hes : encB b = es) (hii : 0 ≤ ii) : DCall P 95 [.one (.ptr 0 0)] [(0, .box [.t (.sl es), .t (.int .i64 ii), .t (.int .i64 h)] false)]
    (fun r ob => ∃ (n : List (List UInt8)) (ns : List (List T)) (t ttl addr : Int) (to : List (List UInt8)) (tos : List (List T)) (tx : List UInt8) (txs : List (List T)) (nu : List Int) (nus : List (List T)) (ii' h' : Int),
      encN n = ns ∧ NmB n ∧ encN to = tos ∧ NmB to ∧ encB tx = txs ∧ tx.length ≤ 50 ∧ encI nu = nus ∧ nu.length ≤ 2 ∧ (t = 6 → nu.length = 2) ∧ 0 ≤ ii' ∧
        r = .agg [.row 32 0, .t (.int .i64 t), .t (.int .i64 ttl), .t (.int .i64 addr), .row 33 0, .row 34 0, .row 35 0] ∧
        ob = [(0, .box [.t (.sl es), .t (.int .i64 ii'), .t (.int .i64 h')] false), (32, .row 1 ns 0 [0] false), (33, .row 1 tos 0 [0] false), (34, .row 1 txs 0 [0] false), (35, .row 1 nus 0 [0] false)]) := by
  refine dt_acall (dt_eval (fun Q h => acall_fn (md := md) [some [(0, 1), (4, 1), (5, 1), (6, 1)]] v95 hP.mixed hP.tab (fn_at hP fn95) 1 rfl (by decide +kernel) rfl h) (dt_ar fun ar har => ?_))
  refine dt_eval (fun Q h => by cbv; exact h) ?_
  repeat' (first | (refine dt_fact ?_; refine dt_eval (fun Q h => by cbv; exact h) ?_) | (refine dt_br ?_ ?_ <;> intro <;> refine dt_eval (fun Q h => by cbv; exact h) ?_) | (refine dt_chk (by decide +kernel) ?_; refine dt_eval (fun Q h => by cbv; exact h) ?_) | (with_reducible refine dt_side ?_ ?_; rotate_left; try (refine dt_eval (fun Q h => by cbv; exact h) ?_)) | (exact side_lt har (by assumption) (by assumption)) | (exact side_inb har (by assumption) (by assumption) (by assumption)) | (exact side_sh har (by decide)) | (exact side_app har (by assumption) (by assumption) (by omega)) | (exact side_app0 har (by assumption) (by omega)) | (exact side_new har (by assumption) (by omega)) | (exact side_one har (by assumption) (by omega)) | (exact side_oneN har (by assumption) (by omega)) | (exact side_flat har (by assumption)) | (exact side_sbig har (by omega)) | (refine side_sbig har ?_; simp; done) | (exact side_oneI har (by assumption) (by omega)) | (refine side_ix har ?_; simp; done) | (refine side_ix har ?_; simp; omega) | (refine dt_call (below_dd hP (by assumption) (by omega)) ?_; rintro r ob ⟨v, ii, h, hv0, hv1, hii, rfl, rfl⟩; refine dt_eval (fun Q h => by cbv; exact h) ?_) | (refine dt_calld (below_dd hP (by assumption) (by omega)) ?_; rintro r ob ⟨v, ii, h, hv0, hv1, hii, rfl, rfl⟩; refine dt_eval (fun Q h => by cbv; exact h) ?_) | (refine dt_call (pick_dd hP (by assumption) (by omega) (by simp) (by simp)) ?_; rintro r ob ⟨v, ii, h, hv, hii, rfl, rfl⟩; refine dt_eval (fun Q h => by cbv; exact h) ?_) | (refine dt_calld (pick_dd hP (by assumption) (by omega) (by simp) (by simp)) ?_; rintro r ob ⟨v, ii, h, hv, hii, rfl, rfl⟩; refine dt_eval (fun Q h => by cbv; exact h) ?_) | (refine dt_call (some_dd hP (by assumption) (by omega) (by omega)) ?_; rintro r ob ⟨l, ls, ii, h, hl, hn, hii, rfl, rfl⟩; refine dt_eval (fun Q h => by cbv; exact h) ?_) | (refine dt_calld (some_dd hP (by assumption) (by omega) (by omega)) ?_; rintro r ob ⟨l, ls, ii, h, hl, hn, hii, rfl, rfl⟩; refine dt_eval (fun Q h => by cbv; exact h) ?_) | (refine dt_call (draw2_dd hP (by assumption) (by omega)) ?_; rintro r ob ⟨n, ns, ii, h, hn, hnb, hn6, hii, rfl, rfl⟩; refine dt_eval (fun Q h => by cbv; exact h) ?_) | (refine dt_calld (draw2_dd hP (by assumption) (by omega)) ?_; rintro r ob ⟨n, ns, ii, h, hn, hnb, hn6, hii, rfl, rfl⟩; refine dt_eval (fun Q h => by cbv; exact h) ?_) | (refine dt_call (ACall.pure (sNamed hP)) ?_; rintro r ob ⟨rfl, rfl⟩; generalize hv : namedB _ = v; refine dt_eval (fun Q h => by cbv; exact h) ?_) | (refine dt_calld (ACall.pure (sNamed hP)) ?_; rintro r ob ⟨rfl, rfl⟩; generalize hv : namedB _ = v; refine dt_eval (fun Q h => by cbv; exact h) ?_))
  · exact dt_ret ⟨_, _, _, _, _, [], _, [], _, [], _, _, _, by assumption, by assumption, rfl, ⟨by simp, by simp⟩, rfl, by simp, rfl, by simp, by subst har; simp_all [std, icmpS], by assumption, rfl, rfl⟩
  · exact dt_ret ⟨_, _, _, _, _, n, _, [], _, [_, _], _, _, _, by assumption, by assumption, hn, hnb, rfl, by simp, rfl, by simp, by simp, by assumption, rfl, rfl⟩
  · exact dt_ret ⟨_, _, _, _, _, n, _, [], _, [], _, _, _, by assumption, by assumption, hn, hnb, rfl, by simp, rfl, by simp, by subst har; simp_all [std, icmpS], by assumption, rfl, rfl⟩
  · rename_i hnm
    exact dt_ret ⟨_, _, _, _, _, [], _, l, _, [], _, _, _, by assumption, by assumption, rfl, ⟨by simp, by simp⟩, hl, by omega, rfl, by simp, fun e => by subst e; simp_all [namedB], by assumption, rfl, rfl⟩
set_option maxRecDepth 20000 in
theorem fn94 : Tryz.prog.funcs[94]? = some Tryz.f94 := rfl
set_option maxHeartbeats 40000000 in
set_option maxRecDepth 3000 in
theorem bent3_dd (hP : Prg P) {b : List UInt8} {h ii : Int} {es : List (List T)} (hes : encB b = es) (hii : 0 ≤ ii) : DCall P 94 [.one (.ptr 0 0)] [(0, .box [.t (.sl es), .t (.int .i64 ii), .t (.int .i64 h)] false)]
    (fun r ob => ∃ (n : List (List UInt8)) (ns : List (List T)) (t ttl addr : Int) (to : List (List UInt8)) (tos : List (List T)) (tx : List UInt8) (txs : List (List T)) (nu : List Int) (nus : List (List T)) (ii' h' : Int),
      encN n = ns ∧ NmB n ∧ encN to = tos ∧ NmB to ∧ encB tx = txs ∧ tx.length ≤ 50 ∧ encI nu = nus ∧ nu.length ≤ 3 ∧ 0 ≤ ii' ∧
        r = .agg [.row 32 0, .t (.int .i64 t), .t (.int .i64 ttl), .t (.int .i64 addr), .row 33 0, .row 34 0, .row 35 0] ∧
        ob = [(0, .box [.t (.sl es), .t (.int .i64 ii'), .t (.int .i64 h')] false), (32, .row 1 ns 0 [0] false), (33, .row 1 tos 0 [0] false), (34, .row 1 txs 0 [0] false), (35, .row 1 nus 0 [0] false)]) := by
  refine dt_acall (dt_eval (fun Q h => acall_fn (md := md) [some [(0, 1), (4, 1), (5, 1), (6, 1)]] v94 hP.mixed hP.tab (fn_at hP fn94) 1 rfl (by decide +kernel) rfl h) (dt_ar fun ar har => ?_))
  refine dt_eval (fun Q h => by cbv; exact h) ?_
  repeat' (first | (refine dt_fact ?_; refine dt_eval (fun Q h => by cbv; exact h) ?_) | (refine dt_br ?_ ?_ <;> intro <;> refine dt_eval (fun Q h => by cbv; exact h) ?_) | (refine dt_chk (by decide +kernel) ?_; refine dt_eval (fun Q h => by cbv; exact h) ?_) | (with_reducible refine dt_side ?_ ?_; rotate_left; try (refine dt_eval (fun Q h => by cbv; exact h) ?_)) | (exact side_lt har (by assumption) (by assumption)) | (exact side_inb har (by assumption) (by assumption) (by assumption)) | (exact side_sh har (by decide)) | (exact side_app har (by assumption) (by assumption) (by omega)) | (exact side_app0 har (by assumption) (by omega)) | (exact side_new har (by assumption) (by omega)) | (exact side_one har (by assumption) (by omega)) | (exact side_oneN har (by assumption) (by omega)) | (exact side_flat har (by assumption)) | (exact side_sbig har (by omega)) | (refine side_sbig har ?_; simp; done) | (exact side_oneI har (by assumption) (by omega)) | (refine side_ix har ?_; simp; done) | (refine side_ix har ?_; simp; omega) | (refine dt_call (below_dd hP (by assumption) (by omega)) ?_; rintro r ob ⟨v, ii, h, hv0, hv1, hii, rfl, rfl⟩; refine dt_eval (fun Q h => by cbv; exact h) ?_) | (refine dt_calld (below_dd hP (by assumption) (by omega)) ?_; rintro r ob ⟨v, ii, h, hv0, hv1, hii, rfl, rfl⟩; refine dt_eval (fun Q h => by cbv; exact h) ?_) | (refine dt_call (pick_dd hP (by assumption) (by omega) (by simp) (by simp)) ?_; rintro r ob ⟨v, ii, h, hv, hii, rfl, rfl⟩; refine dt_eval (fun Q h => by cbv; exact h) ?_) | (refine dt_calld (pick_dd hP (by assumption) (by omega) (by simp) (by simp)) ?_; rintro r ob ⟨v, ii, h, hv, hii, rfl, rfl⟩; refine dt_eval (fun Q h => by cbv; exact h) ?_) | (refine dt_call (once_dd hP (by assumption) (by omega)) ?_; rintro r ob ⟨v, ii, h, hii, rfl, rfl⟩; refine dt_eval (fun Q h => by cbv; exact h) ?_) | (refine dt_calld (once_dd hP (by assumption) (by omega)) ?_; rintro r ob ⟨v, ii, h, hii, rfl, rfl⟩; refine dt_eval (fun Q h => by cbv; exact h) ?_) | (refine dt_call (draw3_dd hP (by assumption) (by omega)) ?_; rintro r ob ⟨n, ns, t, ttl, addr, to, tos, tx, txs, nu, nus, ii, h, hn, hnb, hto, htob, htx, htxl, hnu, hnul, hnu6, hii, rfl, rfl⟩; refine dt_eval (fun Q h => by cbv; exact h) ?_) | (refine dt_calld (draw3_dd hP (by assumption) (by omega)) ?_; rintro r ob ⟨n, ns, t, ttl, addr, to, tos, tx, txs, nu, nus, ii, h, hn, hnb, hto, htob, htx, htxl, hnu, hnul, hnu6, hii, rfl, rfl⟩; refine dt_eval (fun Q h => by cbv; exact h) ?_) | (refine dt_call (bent2_dd hP (by assumption) (by omega)) ?_; rintro r ob ⟨n, ns, ii, h, hn, hnb, hii, rfl, rfl⟩; refine dt_eval (fun Q h => by cbv; exact h) ?_) | (refine dt_calld (bent2_dd hP (by assumption) (by omega)) ?_; rintro r ob ⟨n, ns, ii, h, hn, hnb, hii, rfl, rfl⟩; refine dt_eval (fun Q h => by cbv; exact h) ?_))
  iterate 5
    · exact dt_ret ⟨_, _, _, _, _, _, _, _, _, _, _, _, _, by assumption, by assumption, by assumption, by assumption, by assumption, by assumption, by assumption, by omega, by assumption, rfl, rfl⟩
  · subst har
    refine dt_ret ⟨_, _, _, _, _, _, _, List.replicate (iopS .add .i64 40 v).toNat 0, _, _, _, _, _, by assumption, by assumption, by assumption, by assumption, ?_, ?_, by assumption, by omega, by assumption, rfl, rfl⟩
    · simp [encB, std]
    · rw [addI (by omega) (by omega)]; simp; omega
  · have e : ar.iop .add .i64 40 v = 40 + v := add_std har (by omega) (by omega)
    exact side_make har (Int.le_trans (show 0 ≤ 40 + v by omega) (Int.le_of_eq e.symm)) (Int.le_trans (Int.le_of_eq e) (by omega))
  · subst har
    exact dt_ret ⟨_, _, _, _, _, _, _, _, _, nu ++ [_], _, _, _, by assumption, by assumption, by assumption, by assumption, by assumption, by assumption, encI_app hnu rfl, by simp; omega, by assumption, rfl, rfl⟩
  · exact dt_ret ⟨_, _, _, _, _, _, _, _, _, _, _, _, _, by assumption, by assumption, by assumption, by assumption, by assumption, by assumption, by assumption, by omega, by assumption, rfl, rfl⟩
end Go.TL.Tryz

/- TfPutT -/
namespace Go.TL.Tryz
open Go Go.TL Go.Proofs
variable {P : Program}

structure Rec where
  name : List (List UInt8)
  type : Int
  ttl : Int
  addr : Int
  to : List (List UInt8)
  text : List UInt8
  nums : List Int
def dataS (t addr : Int) (to : List (List UInt8)) (tx : List UInt8) (nu : List Int) : List UInt8 :=
  if t = 1 then put32 addr else if t = 6 then wireN to ++ put32 (nu.getD 0 0) ++ put32 (nu.getD 1 0) else if namedB t then wireN to else byteOf tx.length :: tx
theorem wireN_len {n : List (List UInt8)} (h : NmB n) : (wireN n).length ≤ 200 := by
  have : ∀ m : List (List UInt8), (∀ l ∈ m, l.length ≤ 16) → (m.flatMap wireL).length ≤ 17 * m.length := by
    intro m
    induction m with
    | nil => simp
    | cons x r ih => intro h; have h1 := h x (.head _); have h2 := ih fun l hl => h l (.tail _ hl); simp [wireL] at *; omega
  have h1 := this n h.2
  have h2 := h.1
  simp only [wireN, List.length_append, List.length_singleton]; omega
theorem put16_len (n : Int) : (put16 n).length ≤ 2 := by unfold put16; split <;> simp
theorem put32_len (n : Int) : (put32 n).length ≤ 4 := by unfold put32; split <;> simp
set_option maxRecDepth 20000 in
theorem fn191 : Tryz.prog.funcs[191]? = some Tryz.f191 := rfl
set_option maxHeartbeats 40000000 in
set_option maxRecDepth 3000 in
theorem sl3put (hP : Prg P) {to : List (List UInt8)} {ns tos txs nus : List (List T)} {t ttl addr : Int} {tx : List UInt8} {nu : List Int} (hto : encN to = tos) (htob : NmB to) (htx : encB tx = txs) (htxl : tx.length ≤ 1000) (hnu : encI nu = nus) (hnu6 : t = 6 → nu.length = 2) :
    ACall P 191 [.agg [.t (.sl ns), .t (.int .i64 t), .t (.int .i64 ttl), .t (.int .i64 addr), .t (.sl tos), .t (.sl txs), .t (.sl nus)]] []
      (fun r ob => r = .one (.row 32 0) ∧ ob = [(32, .row 1 (encB (dataS t addr to tx nu)) 0 [0] false)]) := by
  have hnil : encB [] = [] := rfl
  refine acall_fn (md := md) [some [(0, 1)]] v191 hP.mixed hP.tab (fn_at hP fn191) 1 rfl (by decide +kernel) rfl ?_
  intro ar har
  cbv
  have hw := wireN_len htob
  repeat' (first | (intro; cbv) | (with_reducible refine and_side ?_ ?_; rotate_left; try cbv) | (refine ChkP.mk (by decide +kernel) ?_; cbv) | (refine br_intro ?_ ?_ <;> intro <;> cbv) | (refine get_at har (by assumption) (by assumption) (by assumption) (by assumption) ?_; cbv) | (refine get_lt har (by assumption) (by assumption) (by assumption) ?_; intro x xx hx hxx; cbv) | (refine get_atN har (by assumption) (by assumption) (by assumption) (by assumption) ?_; cbv) | (refine get_ltN har (by assumption) (by assumption) (by assumption) ?_; intro x xx hx hxx; cbv) | (refine get_atI har (by assumption) (by assumption) (by decide) ?_; cbv) | (refine get_twoA har (by assumption) (by assumption) (by decide) ?_; intro x hx; cbv) | (refine get_twoB har (by assumption) (by assumption) (by decide) ?_; intro x hx; cbv) | (refine bytes_intro (by assumption) ?_; cbv) | (exact side_lt har (by assumption) (by assumption)) | (exact side_inb har (by assumption) (by assumption) (by assumption)) | (exact side_sh har (by decide)) | (exact side_app har (by assumption) (by assumption) (by omega)) | (exact side_app0 har (by assumption) (by omega)) | (exact side_new har (by assumption) (by omega)) | (exact side_one har (by assumption) (by omega)) | (exact side_oneN har (by assumption) (by omega)) | (exact side_flat har (by assumption)) | (exact side_sbig har (by omega)) | (refine side_sbig har ?_; simp; done) | (exact side_oneI har (by assumption) (by omega)) | (refine side_ix har ?_; simp; done) | (refine side_ix har ?_; simp; omega) | (refine call_intro (sPut32 hP (by assumption) (by first | omega | decide | (simp only [List.length_append, List.length_nil]; omega))) ?_; rintro r ob ⟨rfl, rfl⟩; generalize hls : encB (_ ++ put32 _) = ls; cbv) | (refine calld_intro (sPut32 hP (by assumption) (by first | omega | decide | (simp only [List.length_append, List.length_nil]; omega))) ?_; generalize hls : encB (_ ++ put32 _) = ls; cbv) | (refine call_intro (sl2put hP (by assumption) (by assumption) (by first | omega | decide | (simp only [List.length_append, List.length_nil]; omega)) (by assumption)) ?_; rintro r ob ⟨rfl, rfl⟩; generalize hls : encB (_ ++ wireN _) = ls; cbv) | (refine calld_intro (sl2put hP (by assumption) (by assumption) (by first | omega | decide | (simp only [List.length_append, List.length_nil]; omega)) (by assumption)) ?_; generalize hls : encB (_ ++ wireN _) = ls; cbv) | (refine call_intro (sNamed hP) ?_; rintro r ob ⟨rfl, rfl⟩; generalize hv : namedB _ = v; cbv) | (refine calld_intro (sNamed hP) ?_; generalize hv : namedB _ = v; cbv))
  · subst har; simp only [std, icmpS, decide_eq_true_eq, decide_eq_false_iff_not, Bool.not_eq_true', Bool.not_eq_false', bne_iff_ne, ne_eq, bne_eq_false_iff_eq, beq_iff_eq, beq_eq_false_iff_ne, Int.not_lt, Int.not_le, Bool.not_true, Bool.not_false, reduceCtorEq] at *
    rename_i h1
    exact ⟨⟨rfl, by rw [dataS, if_pos h1, ← hls]; rfl⟩⟩
  · have h6 : t = 6 := by subst har; simp [std, icmpS] at *; assumption
    obtain ⟨x, y, rfl⟩ : ∃ x y, nu = [x, y] := by
      match nu, hnu6 h6 with
      | [x, y], _ => exact ⟨x, y, rfl⟩
    have hx4 := put32_len x
    refine get_int har hnu ⟨by decide, by simp⟩ ?_
    intro z hz
    simp at hz; subst hz
    cbv
    repeat' (first | (intro; cbv) | (with_reducible refine and_side ?_ ?_; rotate_left; try cbv) | (refine ChkP.mk (by decide +kernel) ?_; cbv) | (refine br_intro ?_ ?_ <;> intro <;> cbv) | (refine get_at har (by assumption) (by assumption) (by assumption) (by assumption) ?_; cbv) | (refine get_lt har (by assumption) (by assumption) (by assumption) ?_; intro x xx hx hxx; cbv) | (refine get_atN har (by assumption) (by assumption) (by assumption) (by assumption) ?_; cbv) | (refine get_ltN har (by assumption) (by assumption) (by assumption) ?_; intro x xx hx hxx; cbv) | (refine get_atI har (by assumption) (by assumption) (by decide) ?_; cbv) | (refine get_twoA har (by assumption) (by assumption) (by decide) ?_; intro x hx; cbv) | (refine get_twoB har (by assumption) (by assumption) (by decide) ?_; intro x hx; cbv) | (refine bytes_intro (by assumption) ?_; cbv) | (exact side_lt har (by assumption) (by assumption)) | (exact side_inb har (by assumption) (by assumption) (by assumption)) | (exact side_sh har (by decide)) | (exact side_app har (by assumption) (by assumption) (by omega)) | (exact side_app0 har (by assumption) (by omega)) | (exact side_new har (by assumption) (by omega)) | (exact side_one har (by assumption) (by omega)) | (exact side_oneN har (by assumption) (by omega)) | (exact side_flat har (by assumption)) | (exact side_sbig har (by omega)) | (refine side_sbig har ?_; simp; done) | (exact side_oneI har (by assumption) (by omega)) | (refine side_ix har ?_; simp; done) | (refine side_ix har ?_; simp; omega) | (refine call_intro (sPut32 hP (by assumption) (by first | omega | decide | (simp only [List.length_append, List.length_nil]; omega))) ?_; rintro r ob ⟨rfl, rfl⟩; generalize hls : encB (_ ++ put32 _) = ls; cbv) | (refine calld_intro (sPut32 hP (by assumption) (by first | omega | decide | (simp only [List.length_append, List.length_nil]; omega))) ?_; generalize hls : encB (_ ++ put32 _) = ls; cbv))
    refine get_int har hnu ⟨by decide, by simp⟩ ?_
    intro z hz
    simp at hz; subst hz
    cbv
    repeat' (first | (intro; cbv) | (with_reducible refine and_side ?_ ?_; rotate_left; try cbv) | (refine ChkP.mk (by decide +kernel) ?_; cbv) | (refine br_intro ?_ ?_ <;> intro <;> cbv) | (refine get_at har (by assumption) (by assumption) (by assumption) (by assumption) ?_; cbv) | (refine get_lt har (by assumption) (by assumption) (by assumption) ?_; intro x xx hx hxx; cbv) | (refine get_atN har (by assumption) (by assumption) (by assumption) (by assumption) ?_; cbv) | (refine get_ltN har (by assumption) (by assumption) (by assumption) ?_; intro x xx hx hxx; cbv) | (refine get_atI har (by assumption) (by assumption) (by decide) ?_; cbv) | (refine get_twoA har (by assumption) (by assumption) (by decide) ?_; intro x hx; cbv) | (refine get_twoB har (by assumption) (by assumption) (by decide) ?_; intro x hx; cbv) | (refine bytes_intro (by assumption) ?_; cbv) | (exact side_lt har (by assumption) (by assumption)) | (exact side_inb har (by assumption) (by assumption) (by assumption)) | (exact side_sh har (by decide)) | (exact side_app har (by assumption) (by assumption) (by omega)) | (exact side_app0 har (by assumption) (by omega)) | (exact side_new har (by assumption) (by omega)) | (exact side_one har (by assumption) (by omega)) | (exact side_oneN har (by assumption) (by omega)) | (exact side_flat har (by assumption)) | (exact side_sbig har (by omega)) | (refine side_sbig har ?_; simp; done) | (exact side_oneI har (by assumption) (by omega)) | (refine side_ix har ?_; simp; done) | (refine side_ix har ?_; simp; omega) | (refine call_intro (sPut32 hP (by assumption) (by first | omega | decide | (simp only [List.length_append, List.length_nil]; omega))) ?_; rintro r ob ⟨rfl, rfl⟩; generalize hls : encB (_ ++ put32 _) = ls; cbv) | (refine calld_intro (sPut32 hP (by assumption) (by first | omega | decide | (simp only [List.length_append, List.length_nil]; omega))) ?_; generalize hls : encB (_ ++ put32 _) = ls; cbv))
    subst har
    refine ⟨⟨rfl, ?_⟩⟩
    subst h6
    rw [← hls]; rfl
  · subst har; simp only [std, icmpS, decide_eq_true_eq, decide_eq_false_iff_not, Bool.not_eq_true', Bool.not_eq_false', bne_iff_ne, ne_eq, bne_eq_false_iff_eq, beq_iff_eq, beq_eq_false_iff_ne, Int.not_lt, Int.not_le, Bool.not_true, Bool.not_false, reduceCtorEq] at *
    exact ⟨⟨rfl, by rw [dataS, if_neg (by assumption), if_neg (by assumption), hv, if_pos (by assumption), ← hls]; rfl⟩⟩
  · have e := enc_wireL har hnil htx
    rename_i h1 h2 h3 _ _
    refine ⟨⟨rfl, ?_⟩⟩
    have e2 : encB (dataS t addr to tx nu) = encB (wireL tx) := by
      rw [dataS, if_neg (by subst har; simpa [std, icmpS] using h1), if_neg (by subst har; simpa [std, icmpS] using h2), hv, if_neg (by rw [h3]; simp)]; rfl
    rw [e2]
    refine congrArg (fun x => [(32, Ob.row 1 x 0 [0] false)]) (Eq.trans ?_ e)
    subst har; rfl
  · refine side_byL (l := [byteOf tx.length]) har (enc_len har htx).symm (by subst har; rfl) htx (by simp; omega)
theorem dataS_len {t addr : Int} {to : List (List UInt8)} {tx : List UInt8} {nu : List Int} (h : NmB to) (hx : tx.length ≤ 1000) : (dataS t addr to tx nu).length ≤ 1001 := by
  have h1 := wireN_len h
  have h2 := put32_len addr
  have h3 := put32_len (nu.getD 0 0)
  have h4 := put32_len (nu.getD 1 0)
  unfold dataS
  split
  · omega
  · split
    · simp only [List.length_append]; omega
    · split
      · omega
      · simp; omega
def rrS (n : List (List UInt8)) (t ttl cls : Int) (d : List UInt8) : List UInt8 := wireN n ++ put16 t ++ put16 cls ++ put32 ttl ++ put16 d.length ++ d
set_option maxRecDepth 20000 in
theorem fn105 : Tryz.prog.funcs[105]? = some Tryz.f105 := rfl
set_option maxHeartbeats 40000000 in
set_option maxRecDepth 3000 in
theorem sl3rr (hP : Prg P) {l : List UInt8} {n to : List (List UInt8)} {ls ns tos txs nus : List (List T)} {t ttl addr cls : Int} {tx : List UInt8} {nu : List Int} (hl : encB l = ls) (hll : l.length ≤ 10000) (hn : encN n = ns) (hnb : NmB n) (hto : encN to = tos) (htob : NmB to) (htx : encB tx = txs) (htxl : tx.length ≤ 1000) (hnu : encI nu = nus) (hnu6 : t = 6 → nu.length = 2) :
    ACall P 105 [.one (.row 0 0), .agg [.t (.sl ns), .t (.int .i64 t), .t (.int .i64 ttl), .t (.int .i64 addr), .t (.sl tos), .t (.sl txs), .t (.sl nus)], .one (.t (.int .i64 cls))] [(0, .row 1 ls 0 [0] false)]
      (fun r ob => ∃ ls1 ls', r = .one (.row 32 0) ∧ ob = [(0, .row 1 ls1 0 [0] false), (32, .row 1 ls' 0 [0] false)] ∧ encB (l ++ rrS n t ttl cls (dataS t addr to tx nu)) = ls') := by
  refine acall_fn (md := md) [some [(0, 1)]] v105 hP.mixed hP.tab (fn_at hP fn105) 3 rfl (by decide +kernel) rfl ?_
  intro ar har
  cbv
  have hw := wireN_len hnb
  have hd := dataS_len (t := t) (addr := addr) (nu := nu) htob htxl
  have p1 := put16_len t
  have p2 := put16_len cls
  have p3 := put32_len ttl
  repeat' (first | (intro; cbv) | (with_reducible refine and_side ?_ ?_; rotate_left; try cbv) | (refine ChkP.mk (by decide +kernel) ?_; cbv) | (refine br_intro ?_ ?_ <;> intro <;> cbv) | (refine get_at har (by assumption) (by assumption) (by assumption) (by assumption) ?_; cbv) | (refine get_lt har (by assumption) (by assumption) (by assumption) ?_; intro x xx hx hxx; cbv) | (refine get_atN har (by assumption) (by assumption) (by assumption) (by assumption) ?_; cbv) | (refine get_ltN har (by assumption) (by assumption) (by assumption) ?_; intro x xx hx hxx; cbv) | (refine get_atI har (by assumption) (by assumption) (by decide) ?_; cbv) | (refine get_twoA har (by assumption) (by assumption) (by decide) ?_; intro x hx; cbv) | (refine get_twoB har (by assumption) (by assumption) (by decide) ?_; intro x hx; cbv) | (refine bytes_intro (by assumption) ?_; cbv) | (exact side_lt har (by assumption) (by assumption)) | (exact side_inb har (by assumption) (by assumption) (by assumption)) | (exact side_sh har (by decide)) | (exact side_app har (by assumption) (by assumption) (by omega)) | (exact side_app0 har (by assumption) (by omega)) | (exact side_new har (by assumption) (by omega)) | (exact side_one har (by assumption) (by omega)) | (exact side_oneN har (by assumption) (by omega)) | (exact side_flat har (by assumption)) | (exact side_sbig har (by omega)) | (refine side_sbig har ?_; simp; done) | (exact side_oneI har (by assumption) (by omega)) | (refine side_ix har ?_; simp; done) | (refine side_ix har ?_; simp; omega) | (refine call_intro (sl3put hP (by assumption) (by assumption) (by assumption) (by omega) (by assumption) (by first | assumption | omega)) ?_; rintro r ob ⟨rfl, rfl⟩; generalize hld : encB (dataS _ _ _ _ _) = ld; cbv) | (refine calld_intro (sl3put hP (by assumption) (by assumption) (by assumption) (by omega) (by assumption) (by first | assumption | omega)) ?_; generalize hld : encB (dataS _ _ _ _ _) = ld; cbv) | (refine call_intro (sl2put hP (by assumption) (by assumption) (by first | omega | decide | (simp only [List.length_append, List.length_nil]; omega)) (by assumption)) ?_; rintro r ob ⟨rfl, rfl⟩; generalize hls : encB (_ ++ wireN _) = ls; cbv) | (refine calld_intro (sl2put hP (by assumption) (by assumption) (by first | omega | decide | (simp only [List.length_append, List.length_nil]; omega)) (by assumption)) ?_; generalize hls : encB (_ ++ wireN _) = ls; cbv) | (refine call_intro (sPut16 hP (by assumption) (by first | omega | decide | (simp only [List.length_append, List.length_nil]; omega))) ?_; rintro r ob ⟨rfl, rfl⟩; generalize hls : encB (_ ++ put16 _) = ls; cbv) | (refine calld_intro (sPut16 hP (by assumption) (by first | omega | decide | (simp only [List.length_append, List.length_nil]; omega))) ?_; generalize hls : encB (_ ++ put16 _) = ls; cbv) | (refine call_intro (sPut32 hP (by assumption) (by first | omega | decide | (simp only [List.length_append, List.length_nil]; omega))) ?_; rintro r ob ⟨rfl, rfl⟩; generalize hls : encB (_ ++ put32 _) = ls; cbv) | (refine calld_intro (sPut32 hP (by assumption) (by first | omega | decide | (simp only [List.length_append, List.length_nil]; omega))) ?_; generalize hls : encB (_ ++ put32 _) = ls; cbv))
  · have hlen := encB_len hld
    subst har
    refine ⟨⟨_, _, rfl, rfl, ?_⟩⟩
    rw [← hls, ← hld]
    simp [rrS, encB, std, List.append_assoc]
  · have q := put16_len (ar.len ld)
    refine side_byL har hls (by subst har; rfl) hld ?_
    simp only [List.length_append]; omega
end Go.TL.Tryz

/- TfImN -/
namespace Go.TL.Tryz
open Go Go.TL Go.Proofs
variable {P : Program}

def withinB (a b c : Int) : Bool := decide (b ≤ a ∧ a ≤ c)
set_option maxRecDepth 20000 in
theorem fn58 : Tryz.prog.funcs[58]? = some Tryz.f58 := rfl
set_option maxHeartbeats 40000000 in
set_option maxRecDepth 3000 in
theorem iWithin (hP : Prg P) {a b c : Int} : ACall P 58 [.one (.t (.int .i64 a)), .one (.t (.int .i64 b)), .one (.t (.int .i64 c))] [] (fun r ob => r = .one (.t (.bool (withinB a b c))) ∧ ob = []) := by
  refine acall_fn (md := md) [none] v58 hP.mixed hP.tab (fn_at hP fn58) 3 rfl (by decide +kernel) rfl ?_
  intro ar har
  cbv
  repeat' (first | (intro; cbv) | (with_reducible refine and_side ?_ ?_; rotate_left; try cbv) | (refine ChkP.mk (by decide +kernel) ?_; cbv) | (refine br_intro ?_ ?_ <;> intro <;> cbv) | (refine get_at har (by assumption) (by assumption) (by assumption) (by assumption) ?_; cbv) | (refine get_lt har (by assumption) (by assumption) (by assumption) ?_; intro x xx hx hxx; cbv) | (refine get_atN har (by assumption) (by assumption) (by assumption) (by assumption) ?_; cbv) | (refine get_ltN har (by assumption) (by assumption) (by assumption) ?_; intro x xx hx hxx; cbv) | (refine get_atI har (by assumption) (by assumption) (by decide) ?_; cbv) | (refine get_twoA har (by assumption) (by assumption) (by decide) ?_; intro x hx; cbv) | (refine get_twoB har (by assumption) (by assumption) (by decide) ?_; intro x hx; cbv) | (refine bytes_intro (by assumption) ?_; cbv) | (exact side_lt har (by assumption) (by assumption)) | (exact side_inb har (by assumption) (by assumption) (by assumption)) | (exact side_sh har (by decide)) | (exact side_app har (by assumption) (by assumption) (by omega)) | (exact side_app0 har (by assumption) (by omega)) | (exact side_new har (by assumption) (by omega)) | (exact side_one har (by assumption) (by omega)) | (exact side_oneN har (by assumption) (by omega)) | (exact side_flat har (by assumption)) | (exact side_sbig har (by omega)) | (refine side_sbig har ?_; simp; done) | (exact side_oneI har (by assumption) (by omega)) | (refine side_ix har ?_; simp; done) | (refine side_ix har ?_; simp; omega))
  all_goals subst har; simp only [std, icmpS, decide_eq_true_eq, decide_eq_false_iff_not, Bool.not_eq_true', Bool.not_eq_false', bne_iff_ne, ne_eq, bne_eq_false_iff_eq, beq_iff_eq, beq_eq_false_iff_ne, Int.not_lt, Int.not_le, Bool.not_true, Bool.not_false, reduceCtorEq] at *
  · refine ⟨⟨?_, rfl⟩⟩
    rw [withinB]; congr 3; simp; omega
  · exact ⟨⟨by rw [withinB, decide_eq_false (by omega)], rfl⟩⟩
set_option maxRecDepth 20000 in
theorem fn224 : Tryz.prog.funcs[224]? = some Tryz.f224 := rfl
set_option maxHeartbeats 40000000 in
set_option maxRecDepth 3000 in
theorem iCh (hP : Prg P) {a : Int} : ACall P 224 [.one (.t (.int .u8 a))] [] (fun r ob => r = .one (.t (.bool (chOk a))) ∧ ob = []) := by
  refine acall_fn (md := md) [none] v224 hP.mixed hP.tab (fn_at hP fn224) 1 rfl (by decide +kernel) rfl ?_
  intro ar har
  cbv
  repeat' (first | (intro; cbv) | (with_reducible refine and_side ?_ ?_; rotate_left; try cbv) | (refine ChkP.mk (by decide +kernel) ?_; cbv) | (refine br_intro ?_ ?_ <;> intro <;> cbv) | (refine get_at har (by assumption) (by assumption) (by assumption) (by assumption) ?_; cbv) | (refine get_lt har (by assumption) (by assumption) (by assumption) ?_; intro x xx hx hxx; cbv) | (refine get_atN har (by assumption) (by assumption) (by assumption) (by assumption) ?_; cbv) | (refine get_ltN har (by assumption) (by assumption) (by assumption) ?_; intro x xx hx hxx; cbv) | (refine get_atI har (by assumption) (by assumption) (by decide) ?_; cbv) | (refine get_twoA har (by assumption) (by assumption) (by decide) ?_; intro x hx; cbv) | (refine get_twoB har (by assumption) (by assumption) (by decide) ?_; intro x hx; cbv) | (refine bytes_intro (by assumption) ?_; cbv) | (exact side_lt har (by assumption) (by assumption)) | (exact side_inb har (by assumption) (by assumption) (by assumption)) | (exact side_sh har (by decide)) | (exact side_app har (by assumption) (by assumption) (by omega)) | (exact side_app0 har (by assumption) (by omega)) | (exact side_new har (by assumption) (by omega)) | (exact side_one har (by assumption) (by omega)) | (exact side_oneN har (by assumption) (by omega)) | (exact side_flat har (by assumption)) | (exact side_sbig har (by omega)) | (refine side_sbig har ?_; simp; done) | (exact side_oneI har (by assumption) (by omega)) | (refine side_ix har ?_; simp; done) | (refine side_ix har ?_; simp; omega))
  all_goals subst har; simp only [std, icmpS, decide_eq_true_eq, decide_eq_false_iff_not, Bool.not_eq_true', Bool.not_eq_false', bne_iff_ne, ne_eq, bne_eq_false_iff_eq, beq_iff_eq, beq_eq_false_iff_ne, Int.not_lt, Int.not_le, Bool.not_true, Bool.not_false, reduceCtorEq] at *
  all_goals refine ⟨⟨?_, rfl⟩⟩
  all_goals rw [chOk]
  all_goals first
    | (rw [decide_eq_true (by omega)]; done)
    | (by_cases e : a = 45
       · rw [decide_eq_true (by omega)]; simp [e]
       · rw [decide_eq_false (by omega)]; simp [e])
abbrev fCh : T := .fn (.func 269) [] [.pt [.fn (.func 224) [] []] 0]
set_option maxRecDepth 20000 in
theorem fn269 : Tryz.prog.funcs[269]? = some Tryz.f269 := rfl
set_option maxHeartbeats 40000000 in
set_option maxRecDepth 3000 in
theorem iAllB1 (hP : Prg P) {a : Int} : ACall P 269 [.one (.t (.int .u8 a)), .one (.t (.pt [.fn (.func 224) [] []] 0))] [] (fun r ob => r = .one (.t (.bool (!chOk a))) ∧ ob = []) := by
  refine acall_fn (md := md) [none] v269 hP.mixed hP.tab (fn_at hP fn269) 2 rfl (by decide +kernel) rfl ?_
  intro ar har
  cbv
  repeat' (first | (intro; cbv) | (with_reducible refine and_side ?_ ?_; rotate_left; try cbv) | (refine ChkP.mk (by decide +kernel) ?_; cbv) | (refine br_intro ?_ ?_ <;> intro <;> cbv) | (refine get_at har (by assumption) (by assumption) (by assumption) (by assumption) ?_; cbv) | (refine get_lt har (by assumption) (by assumption) (by assumption) ?_; intro x xx hx hxx; cbv) | (refine get_atN har (by assumption) (by assumption) (by assumption) (by assumption) ?_; cbv) | (refine get_ltN har (by assumption) (by assumption) (by assumption) ?_; intro x xx hx hxx; cbv) | (refine get_atI har (by assumption) (by assumption) (by decide) ?_; cbv) | (refine get_twoA har (by assumption) (by assumption) (by decide) ?_; intro x hx; cbv) | (refine get_twoB har (by assumption) (by assumption) (by decide) ?_; intro x hx; cbv) | (refine bytes_intro (by assumption) ?_; cbv) | (exact side_lt har (by assumption) (by assumption)) | (exact side_inb har (by assumption) (by assumption) (by assumption)) | (exact side_sh har (by decide)) | (exact side_app har (by assumption) (by assumption) (by omega)) | (exact side_app0 har (by assumption) (by omega)) | (exact side_new har (by assumption) (by omega)) | (exact side_one har (by assumption) (by omega)) | (exact side_oneN har (by assumption) (by omega)) | (exact side_flat har (by assumption)) | (exact side_sbig har (by omega)) | (refine side_sbig har ?_; simp; done) | (exact side_oneI har (by assumption) (by omega)) | (refine side_ix har ?_; simp; done) | (refine side_ix har ?_; simp; omega) | (refine call_intro (iCh hP) ?_; rintro r ob ⟨rfl, rfl⟩; generalize hch : chOk _ = ch; cbv) | (refine calld_intro (iCh hP) ?_; generalize hch : chOk _ = ch; cbv))
  subst har; simp only [std, icmpS, decide_eq_true_eq, decide_eq_false_iff_not, Bool.not_eq_true', Bool.not_eq_false', bne_iff_ne, ne_eq, bne_eq_false_iff_eq, beq_iff_eq, beq_eq_false_iff_ne, Int.not_lt, Int.not_le, Bool.not_true, Bool.not_false, reduceCtorEq] at *
  exact ⟨⟨by first | rfl | rw [hch], rfl⟩⟩
set_option maxRecDepth 20000 in
theorem fn299 : Tryz.prog.funcs[299]? = some Tryz.f299 := rfl
set_option maxHeartbeats 40000000 in
set_option maxRecDepth 3000 in
theorem iIdxB (hP : Prg P) {l : List UInt8} {ls : List (List T)} (hl : encB l = ls) : ACall P 299 [.one (.t (.sl ls)), .one (.t (.fn (.func 269) [] [.pt [.fn (.func 224) [] []] 0]))] []
    (fun r ob => ∃ v, (0 ≤ v ↔ (l.all fun x => chOk (iB x)) = false) ∧ r = .one (.t (.int .i64 v)) ∧ ob = []) := by
  refine acall_fn (md := md) [none] v299 hP.mixed hP.tab (fn_at hP fn299) 2 rfl (by decide +kernel) rfl ?_
  intro ar har
  cbv
  repeat' (first | (intro; cbv) | (with_reducible refine and_side ?_ ?_; rotate_left; try cbv) | (refine ChkP.mk (by decide +kernel) ?_; cbv) | (refine br_intro ?_ ?_ <;> intro <;> cbv) | (refine get_at har (by assumption) (by assumption) (by assumption) (by assumption) ?_; cbv) | (refine get_lt har (by assumption) (by assumption) (by assumption) ?_; intro x xx hx hxx; cbv) | (refine get_atN har (by assumption) (by assumption) (by assumption) (by assumption) ?_; cbv) | (refine get_ltN har (by assumption) (by assumption) (by assumption) ?_; intro x xx hx hxx; cbv) | (refine get_atI har (by assumption) (by assumption) (by decide) ?_; cbv) | (refine get_twoA har (by assumption) (by assumption) (by decide) ?_; intro x hx; cbv) | (refine get_twoB har (by assumption) (by assumption) (by decide) ?_; intro x hx; cbv) | (refine bytes_intro (by assumption) ?_; cbv) | (exact side_lt har (by assumption) (by assumption)) | (exact side_inb har (by assumption) (by assumption) (by assumption)) | (exact side_sh har (by decide)) | (exact side_app har (by assumption) (by assumption) (by omega)) | (exact side_app0 har (by assumption) (by omega)) | (exact side_new har (by assumption) (by omega)) | (exact side_one har (by assumption) (by omega)) | (exact side_oneN har (by assumption) (by omega)) | (exact side_flat har (by assumption)) | (exact side_sbig har (by omega)) | (refine side_sbig har ?_; simp; done) | (exact side_oneI har (by assumption) (by omega)) | (refine side_ix har ?_; simp; done) | (refine side_ix har ?_; simp; omega))
  refine LoopP.mk Int [0, 1, 7, 8] [] (fun i => ⟨[(0, .one (.t (.sl ls))), (1, .one (.t (.fn (.func 269) [] [.pt [.fn (.func 224) [] []] 0]))), (7, .one (.t (.int .i64 (ar.len ls)))), (8, .one (.t (.int .i64 i)))], []⟩)
    (fun i => 0 ≤ i ∧ ((l.take i.toNat).all fun x => chOk (iB x)) = true) (fun i => l.length - i.toNat) 0 ?e ?f ?g
  case e => kernel_rfl
  case f => simp
  case g =>
    intro i hi
    have hi0 : 0 ≤ i := hi.1
    have hi1 : ((l.take i.toNat).all fun x => chOk (iB x)) = true := hi.2
    clear hi
    cbv
    repeat' (first | (intro; cbv) | (with_reducible refine and_side ?_ ?_; rotate_left; try cbv) | (refine ChkP.mk (by decide +kernel) ?_; cbv) | (refine br_intro ?_ ?_ <;> intro <;> cbv) | (refine get_at har (by assumption) (by assumption) (by assumption) (by assumption) ?_; cbv) | (refine get_lt har (by assumption) (by assumption) (by assumption) ?_; intro x xx hx hxx; cbv) | (refine get_atN har (by assumption) (by assumption) (by assumption) (by assumption) ?_; cbv) | (refine get_ltN har (by assumption) (by assumption) (by assumption) ?_; intro x xx hx hxx; cbv) | (refine get_atI har (by assumption) (by assumption) (by decide) ?_; cbv) | (refine get_twoA har (by assumption) (by assumption) (by decide) ?_; intro x hx; cbv) | (refine get_twoB har (by assumption) (by assumption) (by decide) ?_; intro x hx; cbv) | (refine bytes_intro (by assumption) ?_; cbv) | (exact side_lt har (by assumption) (by assumption)) | (exact side_inb har (by assumption) (by assumption) (by assumption)) | (exact side_sh har (by decide)) | (exact side_app har (by assumption) (by assumption) (by omega)) | (exact side_app0 har (by assumption) (by omega)) | (exact side_new har (by assumption) (by omega)) | (exact side_one har (by assumption) (by omega)) | (exact side_oneN har (by assumption) (by omega)) | (exact side_flat har (by assumption)) | (exact side_sbig har (by omega)) | (refine side_sbig har ?_; simp; done) | (exact side_oneI har (by assumption) (by omega)) | (refine side_ix har ?_; simp; done) | (refine side_ix har ?_; simp; omega) | (refine call_intro (iAllB1 hP) ?_; rintro r ob ⟨rfl, rfl⟩; generalize hch : (!chOk _) = ch; cbv) | (refine calld_intro (iAllB1 hP) ?_; generalize hch : (!chOk _) = ch; cbv))
    all_goals have hlen := encB_len hl
    all_goals subst har; simp only [std, icmpS, decide_eq_true_eq, decide_eq_false_iff_not, Bool.not_eq_true', Bool.not_eq_false', bne_iff_ne, ne_eq, bne_eq_false_iff_eq, beq_iff_eq, beq_eq_false_iff_ne, Int.not_lt, Int.not_le, Bool.not_true, Bool.not_false, reduceCtorEq] at *
    · exact ⟨⟨i, ⟨fun _ => all_bad (p := fun x => chOk (iB x)) hx (by rw [hxx]; simp_all), fun _ => hi0⟩, rfl, rfl⟩⟩
    · rw [addI (a := i) (b := 1) (by omega) (by omega)]
      exact ⟨i + 1, by kernel_rfl, ⟨by omega, by rw [show (i + 1).toNat = i.toNat + 1 by omega]; exact all_take_succ hx hi1 (by rw [hxx]; simp_all)⟩, by omega⟩
    · rw [take_all (by omega)] at hi1
      exact ⟨⟨-1, ⟨fun h => absurd h (by decide), fun h => by rw [hi1] at h; cases h⟩, rfl, rfl⟩⟩
set_option maxRecDepth 20000 in
theorem fn268 : Tryz.prog.funcs[268]? = some Tryz.f268 := rfl
set_option maxHeartbeats 40000000 in
set_option maxRecDepth 3000 in
theorem iConB (hP : Prg P) {l : List UInt8} {ls : List (List T)} (hl : encB l = ls) : ACall P 268 [.one (.t (.sl ls)), .one (.t (.fn (.func 269) [] [.pt [.fn (.func 224) [] []] 0]))] []
    (fun r ob => r = .one (.t (.bool (!l.all fun x => chOk (iB x)))) ∧ ob = []) := by
  refine acall_fn (md := md) [none] v268 hP.mixed hP.tab (fn_at hP fn268) 2 rfl (by decide +kernel) rfl ?_
  intro ar har
  cbv
  repeat' (first | (intro; cbv) | (with_reducible refine and_side ?_ ?_; rotate_left; try cbv) | (refine ChkP.mk (by decide +kernel) ?_; cbv) | (refine br_intro ?_ ?_ <;> intro <;> cbv) | (refine get_at har (by assumption) (by assumption) (by assumption) (by assumption) ?_; cbv) | (refine get_lt har (by assumption) (by assumption) (by assumption) ?_; intro x xx hx hxx; cbv) | (refine get_atN har (by assumption) (by assumption) (by assumption) (by assumption) ?_; cbv) | (refine get_ltN har (by assumption) (by assumption) (by assumption) ?_; intro x xx hx hxx; cbv) | (refine get_atI har (by assumption) (by assumption) (by decide) ?_; cbv) | (refine get_twoA har (by assumption) (by assumption) (by decide) ?_; intro x hx; cbv) | (refine get_twoB har (by assumption) (by assumption) (by decide) ?_; intro x hx; cbv) | (refine bytes_intro (by assumption) ?_; cbv) | (exact side_lt har (by assumption) (by assumption)) | (exact side_inb har (by assumption) (by assumption) (by assumption)) | (exact side_sh har (by decide)) | (exact side_app har (by assumption) (by assumption) (by omega)) | (exact side_app0 har (by assumption) (by omega)) | (exact side_new har (by assumption) (by omega)) | (exact side_one har (by assumption) (by omega)) | (exact side_oneN har (by assumption) (by omega)) | (exact side_flat har (by assumption)) | (exact side_sbig har (by omega)) | (refine side_sbig har ?_; simp; done) | (exact side_oneI har (by assumption) (by omega)) | (refine side_ix har ?_; simp; done) | (refine side_ix har ?_; simp; omega) | (refine call_intro (iIdxB hP (by assumption)) ?_; rintro r ob ⟨v, hv, rfl, rfl⟩; cbv))
  subst har; simp only [std, icmpS, decide_eq_true_eq, decide_eq_false_iff_not, Bool.not_eq_true', Bool.not_eq_false', bne_iff_ne, ne_eq, bne_eq_false_iff_eq, beq_iff_eq, beq_eq_false_iff_ne, Int.not_lt, Int.not_le, Bool.not_true, Bool.not_false, reduceCtorEq] at *
  refine ⟨⟨?_, rfl⟩⟩
  by_cases h : (0 : Int) ≤ v
  · rw [hv.1 h]; simp [h]
  · have : (l.all fun x => chOk (iB x)) = true := by
      cases e : l.all fun x => chOk (iB x) with
      | true => rfl
      | false => exact absurd (hv.2 e) h
    rw [this]; simp [h]
set_option maxRecDepth 20000 in
theorem fn223 : Tryz.prog.funcs[223]? = some Tryz.f223 := rfl
set_option maxHeartbeats 40000000 in
set_option maxRecDepth 3000 in
theorem iAllB (hP : Prg P) {l : List UInt8} {ls : List (List T)} (hl : encB l = ls) : ACall P 223 [.one (.t (.sl ls)), .one (.t (.fn (.func 224) [] []))] []
    (fun r ob => r = .one (.t (.bool (l.all fun x => chOk (iB x)))) ∧ ob = []) := by
  refine acall_fn (md := md) [none] v223 hP.mixed hP.tab (fn_at hP fn223) 2 rfl (by decide +kernel) rfl ?_
  intro ar har
  cbv
  repeat' (first | (intro; cbv) | (with_reducible refine and_side ?_ ?_; rotate_left; try cbv) | (refine ChkP.mk (by decide +kernel) ?_; cbv) | (refine br_intro ?_ ?_ <;> intro <;> cbv) | (refine get_at har (by assumption) (by assumption) (by assumption) (by assumption) ?_; cbv) | (refine get_lt har (by assumption) (by assumption) (by assumption) ?_; intro x xx hx hxx; cbv) | (refine get_atN har (by assumption) (by assumption) (by assumption) (by assumption) ?_; cbv) | (refine get_ltN har (by assumption) (by assumption) (by assumption) ?_; intro x xx hx hxx; cbv) | (refine get_atI har (by assumption) (by assumption) (by decide) ?_; cbv) | (refine get_twoA har (by assumption) (by assumption) (by decide) ?_; intro x hx; cbv) | (refine get_twoB har (by assumption) (by assumption) (by decide) ?_; intro x hx; cbv) | (refine bytes_intro (by assumption) ?_; cbv) | (exact side_lt har (by assumption) (by assumption)) | (exact side_inb har (by assumption) (by assumption) (by assumption)) | (exact side_sh har (by decide)) | (exact side_app har (by assumption) (by assumption) (by omega)) | (exact side_app0 har (by assumption) (by omega)) | (exact side_new har (by assumption) (by omega)) | (exact side_one har (by assumption) (by omega)) | (exact side_oneN har (by assumption) (by omega)) | (exact side_flat har (by assumption)) | (exact side_sbig har (by omega)) | (refine side_sbig har ?_; simp; done) | (exact side_oneI har (by assumption) (by omega)) | (refine side_ix har ?_; simp; done) | (refine side_ix har ?_; simp; omega) | (refine call_intro (iConB hP (by assumption)) ?_; rintro r ob ⟨rfl, rfl⟩; generalize hcb : (!List.all _ _) = cb; cbv) | (refine calld_intro (iConB hP (by assumption)) ?_; generalize hcb : (!List.all _ _) = cb; cbv))
  subst har; simp only [std, icmpS, decide_eq_true_eq, decide_eq_false_iff_not, Bool.not_eq_true', Bool.not_eq_false', bne_iff_ne, ne_eq, bne_eq_false_iff_eq, beq_iff_eq, beq_eq_false_iff_ne, Int.not_lt, Int.not_le, Bool.not_true, Bool.not_false, reduceCtorEq] at *
  exact ⟨⟨by rw [← hcb]; simp, rfl⟩⟩
set_option maxRecDepth 20000 in
theorem fn151 : Tryz.prog.funcs[151]? = some Tryz.f151 := rfl
set_option maxHeartbeats 40000000 in
set_option maxRecDepth 3000 in
theorem iLabelOk (hP : Prg P) {l : List UInt8} {ls : List (List T)} (hl : encB l = ls) : ACall P 151 [.one (.t (.sl ls))] [] (fun r ob => r = .one (.t (.bool (labelOk l))) ∧ ob = []) := by
  refine acall_fn (md := md) [none] v151 hP.mixed hP.tab (fn_at hP fn151) 1 rfl (by decide +kernel) rfl ?_
  intro ar har
  cbv
  repeat' (first | (intro; cbv) | (with_reducible refine and_side ?_ ?_; rotate_left; try cbv) | (refine ChkP.mk (by decide +kernel) ?_; cbv) | (refine br_intro ?_ ?_ <;> intro <;> cbv) | (refine get_at har (by assumption) (by assumption) (by assumption) (by assumption) ?_; cbv) | (refine get_lt har (by assumption) (by assumption) (by assumption) ?_; intro x xx hx hxx; cbv) | (refine get_atN har (by assumption) (by assumption) (by assumption) (by assumption) ?_; cbv) | (refine get_ltN har (by assumption) (by assumption) (by assumption) ?_; intro x xx hx hxx; cbv) | (refine get_atI har (by assumption) (by assumption) (by decide) ?_; cbv) | (refine get_twoA har (by assumption) (by assumption) (by decide) ?_; intro x hx; cbv) | (refine get_twoB har (by assumption) (by assumption) (by decide) ?_; intro x hx; cbv) | (refine bytes_intro (by assumption) ?_; cbv) | (exact side_lt har (by assumption) (by assumption)) | (exact side_inb har (by assumption) (by assumption) (by assumption)) | (exact side_sh har (by decide)) | (exact side_app har (by assumption) (by assumption) (by omega)) | (exact side_app0 har (by assumption) (by omega)) | (exact side_new har (by assumption) (by omega)) | (exact side_one har (by assumption) (by omega)) | (exact side_oneN har (by assumption) (by omega)) | (exact side_flat har (by assumption)) | (exact side_sbig har (by omega)) | (refine side_sbig har ?_; simp; done) | (exact side_oneI har (by assumption) (by omega)) | (refine side_ix har ?_; simp; done) | (refine side_ix har ?_; simp; omega) | (refine call_intro (iWithin hP) ?_; rintro r ob ⟨rfl, rfl⟩; generalize hwi : withinB _ _ _ = wi; cbv) | (refine calld_intro (iWithin hP) ?_; generalize hwi : withinB _ _ _ = wi; cbv) | (refine call_intro (iAllB hP (by assumption)) ?_; rintro r ob ⟨rfl, rfl⟩; generalize hab : List.all _ _ = ab; cbv) | (refine calld_intro (iAllB hP (by assumption)) ?_; generalize hab : List.all _ _ = ab; cbv))
  all_goals have hlen := encB_len hl
  all_goals subst har; simp only [std, icmpS, decide_eq_true_eq, decide_eq_false_iff_not, Bool.not_eq_true', Bool.not_eq_false', bne_iff_ne, ne_eq, bne_eq_false_iff_eq, beq_iff_eq, beq_eq_false_iff_ne, Int.not_lt, Int.not_le, Bool.not_true, Bool.not_false, reduceCtorEq] at *
  · refine ⟨⟨?_, rfl⟩⟩
    rename_i hw _
    rw [hw] at hwi
    simp only [withinB, decide_eq_true_eq] at hwi
    rw [labelOk, hab, decide_eq_true (by omega), decide_eq_true (by omega)]; simp
  · refine ⟨⟨?_, rfl⟩⟩
    rename_i hw _
    rw [hw] at hwi
    simp only [withinB, decide_eq_false_iff_not] at hwi
    by_cases e : 1 ≤ l.length
    · rw [labelOk, decide_eq_false (p := l.length ≤ 15) (by omega)]; simp
    · rw [labelOk, decide_eq_false e]; simp
set_option maxRecDepth 20000 in
theorem fn251 : Tryz.prog.funcs[251]? = some Tryz.f251 := rfl
set_option maxHeartbeats 40000000 in
set_option maxRecDepth 3000 in
theorem iAllN1 (hP : Prg P) {l : List UInt8} {ls : List (List T)} (hl : encB l = ls) : ACall P 251 [.one (.t (.sl ls)), .one (.t (.pt [.fn (.func 151) [] []] 0))] [] (fun r ob => r = .one (.t (.bool (!labelOk l))) ∧ ob = []) := by
  refine acall_fn (md := md) [none] v251 hP.mixed hP.tab (fn_at hP fn251) 2 rfl (by decide +kernel) rfl ?_
  intro ar har
  cbv
  repeat' (first | (intro; cbv) | (with_reducible refine and_side ?_ ?_; rotate_left; try cbv) | (refine ChkP.mk (by decide +kernel) ?_; cbv) | (refine br_intro ?_ ?_ <;> intro <;> cbv) | (refine get_at har (by assumption) (by assumption) (by assumption) (by assumption) ?_; cbv) | (refine get_lt har (by assumption) (by assumption) (by assumption) ?_; intro x xx hx hxx; cbv) | (refine get_atN har (by assumption) (by assumption) (by assumption) (by assumption) ?_; cbv) | (refine get_ltN har (by assumption) (by assumption) (by assumption) ?_; intro x xx hx hxx; cbv) | (refine get_atI har (by assumption) (by assumption) (by decide) ?_; cbv) | (refine get_twoA har (by assumption) (by assumption) (by decide) ?_; intro x hx; cbv) | (refine get_twoB har (by assumption) (by assumption) (by decide) ?_; intro x hx; cbv) | (refine bytes_intro (by assumption) ?_; cbv) | (exact side_lt har (by assumption) (by assumption)) | (exact side_inb har (by assumption) (by assumption) (by assumption)) | (exact side_sh har (by decide)) | (exact side_app har (by assumption) (by assumption) (by omega)) | (exact side_app0 har (by assumption) (by omega)) | (exact side_new har (by assumption) (by omega)) | (exact side_one har (by assumption) (by omega)) | (exact side_oneN har (by assumption) (by omega)) | (exact side_flat har (by assumption)) | (exact side_sbig har (by omega)) | (refine side_sbig har ?_; simp; done) | (exact side_oneI har (by assumption) (by omega)) | (refine side_ix har ?_; simp; done) | (refine side_ix har ?_; simp; omega) | (refine call_intro (iLabelOk hP (by assumption)) ?_; rintro r ob ⟨rfl, rfl⟩; generalize hlo : labelOk _ = lo; cbv) | (refine calld_intro (iLabelOk hP (by assumption)) ?_; generalize hlo : labelOk _ = lo; cbv))
  subst har; simp only [std, icmpS, decide_eq_true_eq, decide_eq_false_iff_not, Bool.not_eq_true', Bool.not_eq_false', bne_iff_ne, ne_eq, bne_eq_false_iff_eq, beq_iff_eq, beq_eq_false_iff_ne, Int.not_lt, Int.not_le, Bool.not_true, Bool.not_false, reduceCtorEq] at *
  exact ⟨⟨by first | rfl | rw [hlo], rfl⟩⟩
set_option maxRecDepth 20000 in
theorem fn288 : Tryz.prog.funcs[288]? = some Tryz.f288 := rfl
set_option maxHeartbeats 40000000 in
set_option maxRecDepth 3000 in
theorem iIdxN (hP : Prg P) {n : List (List UInt8)} {ns : List (List T)} (hn : encN n = ns) : ACall P 288 [.one (.t (.sl ns)), .one (.t (.fn (.func 251) [] [.pt [.fn (.func 151) [] []] 0]))] []
    (fun r ob => ∃ v, (0 ≤ v ↔ n.all labelOk = false) ∧ r = .one (.t (.int .i64 v)) ∧ ob = []) := by
  refine acall_fn (md := md) [none] v288 hP.mixed hP.tab (fn_at hP fn288) 2 rfl (by decide +kernel) rfl ?_
  intro ar har
  cbv
  repeat' (first | (intro; cbv) | (with_reducible refine and_side ?_ ?_; rotate_left; try cbv) | (refine ChkP.mk (by decide +kernel) ?_; cbv) | (refine br_intro ?_ ?_ <;> intro <;> cbv) | (refine get_at har (by assumption) (by assumption) (by assumption) (by assumption) ?_; cbv) | (refine get_lt har (by assumption) (by assumption) (by assumption) ?_; intro x xx hx hxx; cbv) | (refine get_atN har (by assumption) (by assumption) (by assumption) (by assumption) ?_; cbv) | (refine get_ltN har (by assumption) (by assumption) (by assumption) ?_; intro x xx hx hxx; cbv) | (refine get_atI har (by assumption) (by assumption) (by decide) ?_; cbv) | (refine get_twoA har (by assumption) (by assumption) (by decide) ?_; intro x hx; cbv) | (refine get_twoB har (by assumption) (by assumption) (by decide) ?_; intro x hx; cbv) | (refine bytes_intro (by assumption) ?_; cbv) | (exact side_lt har (by assumption) (by assumption)) | (exact side_inb har (by assumption) (by assumption) (by assumption)) | (exact side_sh har (by decide)) | (exact side_app har (by assumption) (by assumption) (by omega)) | (exact side_app0 har (by assumption) (by omega)) | (exact side_new har (by assumption) (by omega)) | (exact side_one har (by assumption) (by omega)) | (exact side_oneN har (by assumption) (by omega)) | (exact side_flat har (by assumption)) | (exact side_sbig har (by omega)) | (refine side_sbig har ?_; simp; done) | (exact side_oneI har (by assumption) (by omega)) | (refine side_ix har ?_; simp; done) | (refine side_ix har ?_; simp; omega))
  refine LoopP.mk Int [0, 1, 7, 8] [] (fun i => ⟨[(0, .one (.t (.sl ns))), (1, .one (.t (.fn (.func 251) [] [.pt [.fn (.func 151) [] []] 0]))), (7, .one (.t (.int .i64 (ar.len ns)))), (8, .one (.t (.int .i64 i)))], []⟩)
    (fun i => 0 ≤ i ∧ (n.take i.toNat).all labelOk = true) (fun i => n.length - i.toNat) 0 ?e ?f ?g
  case e => kernel_rfl
  case f => simp
  case g =>
    intro i hi
    have hi0 : 0 ≤ i := hi.1
    have hi1 : (n.take i.toNat).all labelOk = true := hi.2
    clear hi
    cbv
    repeat' (first | (intro; cbv) | (with_reducible refine and_side ?_ ?_; rotate_left; try cbv) | (refine ChkP.mk (by decide +kernel) ?_; cbv) | (refine br_intro ?_ ?_ <;> intro <;> cbv) | (refine get_at har (by assumption) (by assumption) (by assumption) (by assumption) ?_; cbv) | (refine get_lt har (by assumption) (by assumption) (by assumption) ?_; intro x xx hx hxx; cbv) | (refine get_atN har (by assumption) (by assumption) (by assumption) (by assumption) ?_; cbv) | (refine get_ltN har (by assumption) (by assumption) (by assumption) ?_; intro x xx hx hxx; cbv) | (refine get_atI har (by assumption) (by assumption) (by decide) ?_; cbv) | (refine get_twoA har (by assumption) (by assumption) (by decide) ?_; intro x hx; cbv) | (refine get_twoB har (by assumption) (by assumption) (by decide) ?_; intro x hx; cbv) | (refine bytes_intro (by assumption) ?_; cbv) | (exact side_lt har (by assumption) (by assumption)) | (exact side_inb har (by assumption) (by assumption) (by assumption)) | (exact side_sh har (by decide)) | (exact side_app har (by assumption) (by assumption) (by omega)) | (exact side_app0 har (by assumption) (by omega)) | (exact side_new har (by assumption) (by omega)) | (exact side_one har (by assumption) (by omega)) | (exact side_oneN har (by assumption) (by omega)) | (exact side_flat har (by assumption)) | (exact side_sbig har (by omega)) | (refine side_sbig har ?_; simp; done) | (exact side_oneI har (by assumption) (by omega)) | (refine side_ix har ?_; simp; done) | (refine side_ix har ?_; simp; omega) | (refine call_intro (iAllN1 hP (by assumption)) ?_; rintro r ob ⟨rfl, rfl⟩; generalize hlo : (!labelOk _) = lo; cbv) | (refine calld_intro (iAllN1 hP (by assumption)) ?_; generalize hlo : (!labelOk _) = lo; cbv))
    all_goals have hlen := encN_len hn
    all_goals subst har; simp only [std, icmpS, decide_eq_true_eq, decide_eq_false_iff_not, Bool.not_eq_true', Bool.not_eq_false', bne_iff_ne, ne_eq, bne_eq_false_iff_eq, beq_iff_eq, beq_eq_false_iff_ne, Int.not_lt, Int.not_le, Bool.not_true, Bool.not_false, reduceCtorEq] at *
    · exact ⟨⟨i, ⟨fun _ => all_bad (p := labelOk) hx (by simp_all), fun _ => hi0⟩, rfl, rfl⟩⟩
    · rw [addI (a := i) (b := 1) (by omega) (by omega)]
      exact ⟨i + 1, by kernel_rfl, ⟨by omega, by rw [show (i + 1).toNat = i.toNat + 1 by omega]; exact all_take_succ hx hi1 (by simp_all)⟩, by omega⟩
    · rw [take_all (by omega)] at hi1
      exact ⟨⟨-1, ⟨fun h => absurd h (by decide), fun h => by rw [hi1] at h; cases h⟩, rfl, rfl⟩⟩
set_option maxRecDepth 20000 in
theorem fn250 : Tryz.prog.funcs[250]? = some Tryz.f250 := rfl
set_option maxHeartbeats 40000000 in
set_option maxRecDepth 3000 in
theorem iConN (hP : Prg P) {n : List (List UInt8)} {ns : List (List T)} (hn : encN n = ns) : ACall P 250 [.one (.t (.sl ns)), .one (.t (.fn (.func 251) [] [.pt [.fn (.func 151) [] []] 0]))] []
    (fun r ob => r = .one (.t (.bool (!n.all labelOk))) ∧ ob = []) := by
  refine acall_fn (md := md) [none] v250 hP.mixed hP.tab (fn_at hP fn250) 2 rfl (by decide +kernel) rfl ?_
  intro ar har
  cbv
  repeat' (first | (intro; cbv) | (with_reducible refine and_side ?_ ?_; rotate_left; try cbv) | (refine ChkP.mk (by decide +kernel) ?_; cbv) | (refine br_intro ?_ ?_ <;> intro <;> cbv) | (refine get_at har (by assumption) (by assumption) (by assumption) (by assumption) ?_; cbv) | (refine get_lt har (by assumption) (by assumption) (by assumption) ?_; intro x xx hx hxx; cbv) | (refine get_atN har (by assumption) (by assumption) (by assumption) (by assumption) ?_; cbv) | (refine get_ltN har (by assumption) (by assumption) (by assumption) ?_; intro x xx hx hxx; cbv) | (refine get_atI har (by assumption) (by assumption) (by decide) ?_; cbv) | (refine get_twoA har (by assumption) (by assumption) (by decide) ?_; intro x hx; cbv) | (refine get_twoB har (by assumption) (by assumption) (by decide) ?_; intro x hx; cbv) | (refine bytes_intro (by assumption) ?_; cbv) | (exact side_lt har (by assumption) (by assumption)) | (exact side_inb har (by assumption) (by assumption) (by assumption)) | (exact side_sh har (by decide)) | (exact side_app har (by assumption) (by assumption) (by omega)) | (exact side_app0 har (by assumption) (by omega)) | (exact side_new har (by assumption) (by omega)) | (exact side_one har (by assumption) (by omega)) | (exact side_oneN har (by assumption) (by omega)) | (exact side_flat har (by assumption)) | (exact side_sbig har (by omega)) | (refine side_sbig har ?_; simp; done) | (exact side_oneI har (by assumption) (by omega)) | (refine side_ix har ?_; simp; done) | (refine side_ix har ?_; simp; omega) | (refine call_intro (iIdxN hP (by assumption)) ?_; rintro r ob ⟨v, hv, rfl, rfl⟩; cbv))
  subst har; simp only [std, icmpS, decide_eq_true_eq, decide_eq_false_iff_not, Bool.not_eq_true', Bool.not_eq_false', bne_iff_ne, ne_eq, bne_eq_false_iff_eq, beq_iff_eq, beq_eq_false_iff_ne, Int.not_lt, Int.not_le, Bool.not_true, Bool.not_false, reduceCtorEq] at *
  refine ⟨⟨?_, rfl⟩⟩
  by_cases h : (0 : Int) ≤ v
  · rw [hv.1 h]; simp [h]
  · have : n.all labelOk = true := by
      cases e : n.all labelOk with
      | true => rfl
      | false => exact absurd (hv.2 e) h
    rw [this]; simp [h]
set_option maxRecDepth 20000 in
theorem fn194 : Tryz.prog.funcs[194]? = some Tryz.f194 := rfl
set_option maxHeartbeats 40000000 in
set_option maxRecDepth 3000 in
theorem iAllN (hP : Prg P) {n : List (List UInt8)} {ns : List (List T)} (hn : encN n = ns) : ACall P 194 [.one (.t (.sl ns)), .one (.t (.fn (.func 151) [] []))] []
    (fun r ob => r = .one (.t (.bool (n.all labelOk))) ∧ ob = []) := by
  refine acall_fn (md := md) [none] v194 hP.mixed hP.tab (fn_at hP fn194) 2 rfl (by decide +kernel) rfl ?_
  intro ar har
  cbv
  repeat' (first | (intro; cbv) | (with_reducible refine and_side ?_ ?_; rotate_left; try cbv) | (refine ChkP.mk (by decide +kernel) ?_; cbv) | (refine br_intro ?_ ?_ <;> intro <;> cbv) | (refine get_at har (by assumption) (by assumption) (by assumption) (by assumption) ?_; cbv) | (refine get_lt har (by assumption) (by assumption) (by assumption) ?_; intro x xx hx hxx; cbv) | (refine get_atN har (by assumption) (by assumption) (by assumption) (by assumption) ?_; cbv) | (refine get_ltN har (by assumption) (by assumption) (by assumption) ?_; intro x xx hx hxx; cbv) | (refine get_atI har (by assumption) (by assumption) (by decide) ?_; cbv) | (refine get_twoA har (by assumption) (by assumption) (by decide) ?_; intro x hx; cbv) | (refine get_twoB har (by assumption) (by assumption) (by decide) ?_; intro x hx; cbv) | (refine bytes_intro (by assumption) ?_; cbv) | (exact side_lt har (by assumption) (by assumption)) | (exact side_inb har (by assumption) (by assumption) (by assumption)) | (exact side_sh har (by decide)) | (exact side_app har (by assumption) (by assumption) (by omega)) | (exact side_app0 har (by assumption) (by omega)) | (exact side_new har (by assumption) (by omega)) | (exact side_one har (by assumption) (by omega)) | (exact side_oneN har (by assumption) (by omega)) | (exact side_flat har (by assumption)) | (exact side_sbig har (by omega)) | (refine side_sbig har ?_; simp; done) | (exact side_oneI har (by assumption) (by omega)) | (refine side_ix har ?_; simp; done) | (refine side_ix har ?_; simp; omega) | (refine call_intro (iConN hP (by assumption)) ?_; rintro r ob ⟨rfl, rfl⟩; generalize hcb : (!List.all _ _) = cb; cbv) | (refine calld_intro (iConN hP (by assumption)) ?_; generalize hcb : (!List.all _ _) = cb; cbv))
  subst har; simp only [std, icmpS, decide_eq_true_eq, decide_eq_false_iff_not, Bool.not_eq_true', Bool.not_eq_false', bne_iff_ne, ne_eq, bne_eq_false_iff_eq, beq_iff_eq, beq_eq_false_iff_ne, Int.not_lt, Int.not_le, Bool.not_true, Bool.not_false, reduceCtorEq] at *
  exact ⟨⟨by rw [← hcb]; simp, rfl⟩⟩
set_option maxRecDepth 20000 in
theorem fn109 : Tryz.prog.funcs[109]? = some Tryz.f109 := rfl
set_option maxHeartbeats 40000000 in
set_option maxRecDepth 3000 in
theorem iNameOk (hP : Prg P) {n : List (List UInt8)} {ns : List (List T)} (hn : encN n = ns) : ACall P 109 [.agg [.t (.sl ns)]] [] (fun r ob => r = .one (.t (.bool (nameOk n))) ∧ ob = []) := by
  refine acall_fn (md := md) [none] v109 hP.mixed hP.tab (fn_at hP fn109) 1 rfl (by decide +kernel) rfl ?_
  intro ar har
  cbv
  repeat' (first | (intro; cbv) | (with_reducible refine and_side ?_ ?_; rotate_left; try cbv) | (refine ChkP.mk (by decide +kernel) ?_; cbv) | (refine br_intro ?_ ?_ <;> intro <;> cbv) | (refine get_at har (by assumption) (by assumption) (by assumption) (by assumption) ?_; cbv) | (refine get_lt har (by assumption) (by assumption) (by assumption) ?_; intro x xx hx hxx; cbv) | (refine get_atN har (by assumption) (by assumption) (by assumption) (by assumption) ?_; cbv) | (refine get_ltN har (by assumption) (by assumption) (by assumption) ?_; intro x xx hx hxx; cbv) | (refine get_atI har (by assumption) (by assumption) (by decide) ?_; cbv) | (refine get_twoA har (by assumption) (by assumption) (by decide) ?_; intro x hx; cbv) | (refine get_twoB har (by assumption) (by assumption) (by decide) ?_; intro x hx; cbv) | (refine bytes_intro (by assumption) ?_; cbv) | (exact side_lt har (by assumption) (by assumption)) | (exact side_inb har (by assumption) (by assumption) (by assumption)) | (exact side_sh har (by decide)) | (exact side_app har (by assumption) (by assumption) (by omega)) | (exact side_app0 har (by assumption) (by omega)) | (exact side_new har (by assumption) (by omega)) | (exact side_one har (by assumption) (by omega)) | (exact side_oneN har (by assumption) (by omega)) | (exact side_flat har (by assumption)) | (exact side_sbig har (by omega)) | (refine side_sbig har ?_; simp; done) | (exact side_oneI har (by assumption) (by omega)) | (refine side_ix har ?_; simp; done) | (refine side_ix har ?_; simp; omega) | (refine call_intro (iAllN hP (by assumption)) ?_; rintro r ob ⟨rfl, rfl⟩; generalize hab : List.all _ _ = ab; cbv) | (refine calld_intro (iAllN hP (by assumption)) ?_; generalize hab : List.all _ _ = ab; cbv))
  all_goals have hlen := encN_len hn
  all_goals subst har; simp only [std, icmpS, decide_eq_true_eq, decide_eq_false_iff_not, Bool.not_eq_true', Bool.not_eq_false', bne_iff_ne, ne_eq, bne_eq_false_iff_eq, beq_iff_eq, beq_eq_false_iff_ne, Int.not_lt, Int.not_le, Bool.not_true, Bool.not_false, reduceCtorEq] at *
  · exact ⟨⟨by rw [nameOk, hab, decide_eq_true (by omega)]; simp, rfl⟩⟩
  · exact ⟨⟨by rw [nameOk, decide_eq_false (by omega)]; simp, rfl⟩⟩
def isWordB (n : Int) : Bool := withinB n 0 4294967295
set_option maxRecDepth 20000 in
theorem fn181 : Tryz.prog.funcs[181]? = some Tryz.f181 := rfl
set_option maxHeartbeats 40000000 in
set_option maxRecDepth 3000 in
theorem iIsWord (hP : Prg P) {n : Int} : ACall P 181 [.one (.t (.int .i64 n))] [] (fun r ob => r = .one (.t (.bool (isWordB n))) ∧ ob = []) := by
  refine acall_fn (md := md) [none] v181 hP.mixed hP.tab (fn_at hP fn181) 1 rfl (by decide +kernel) rfl ?_
  intro ar har
  cbv
  repeat' (first | (intro; cbv) | (with_reducible refine and_side ?_ ?_; rotate_left; try cbv) | (refine ChkP.mk (by decide +kernel) ?_; cbv) | (refine br_intro ?_ ?_ <;> intro <;> cbv) | (refine get_at har (by assumption) (by assumption) (by assumption) (by assumption) ?_; cbv) | (refine get_lt har (by assumption) (by assumption) (by assumption) ?_; intro x xx hx hxx; cbv) | (refine get_atN har (by assumption) (by assumption) (by assumption) (by assumption) ?_; cbv) | (refine get_ltN har (by assumption) (by assumption) (by assumption) ?_; intro x xx hx hxx; cbv) | (refine get_atI har (by assumption) (by assumption) (by decide) ?_; cbv) | (refine get_twoA har (by assumption) (by assumption) (by decide) ?_; intro x hx; cbv) | (refine get_twoB har (by assumption) (by assumption) (by decide) ?_; intro x hx; cbv) | (refine bytes_intro (by assumption) ?_; cbv) | (exact side_lt har (by assumption) (by assumption)) | (exact side_inb har (by assumption) (by assumption) (by assumption)) | (exact side_sh har (by decide)) | (exact side_app har (by assumption) (by assumption) (by omega)) | (exact side_app0 har (by assumption) (by omega)) | (exact side_new har (by assumption) (by omega)) | (exact side_one har (by assumption) (by omega)) | (exact side_oneN har (by assumption) (by omega)) | (exact side_flat har (by assumption)) | (exact side_sbig har (by omega)) | (refine side_sbig har ?_; simp; done) | (exact side_oneI har (by assumption) (by omega)) | (refine side_ix har ?_; simp; done) | (refine side_ix har ?_; simp; omega) | (refine call_intro (iWithin hP) ?_; rintro r ob ⟨rfl, rfl⟩; generalize hwi : withinB _ _ _ = wi; cbv) | (refine calld_intro (iWithin hP) ?_; generalize hwi : withinB _ _ _ = wi; cbv))
  exact ⟨⟨by rw [isWordB, hwi], rfl⟩⟩
set_option maxRecDepth 20000 in
theorem fn112 : Tryz.prog.funcs[112]? = some Tryz.f112 := rfl
set_option maxHeartbeats 40000000 in
set_option maxRecDepth 3000 in
theorem iHasTo (hP : Prg P) {t : Int} : ACall P 112 [.one (.t (.int .i64 t))] [] (fun r ob => r = .one (.t (.bool (namedB t))) ∧ ob = []) := by
  refine acall_fn (md := md) [none] v112 hP.mixed hP.tab (fn_at hP fn112) 1 rfl (by decide +kernel) rfl ?_
  intro ar har
  cbv
  repeat' (first | (intro; cbv) | (with_reducible refine and_side ?_ ?_; rotate_left; try cbv) | (refine ChkP.mk (by decide +kernel) ?_; cbv) | (refine br_intro ?_ ?_ <;> intro <;> cbv) | (refine get_at har (by assumption) (by assumption) (by assumption) (by assumption) ?_; cbv) | (refine get_lt har (by assumption) (by assumption) (by assumption) ?_; intro x xx hx hxx; cbv) | (refine get_atN har (by assumption) (by assumption) (by assumption) (by assumption) ?_; cbv) | (refine get_ltN har (by assumption) (by assumption) (by assumption) ?_; intro x xx hx hxx; cbv) | (refine get_atI har (by assumption) (by assumption) (by decide) ?_; cbv) | (refine get_twoA har (by assumption) (by assumption) (by decide) ?_; intro x hx; cbv) | (refine get_twoB har (by assumption) (by assumption) (by decide) ?_; intro x hx; cbv) | (refine bytes_intro (by assumption) ?_; cbv) | (exact side_lt har (by assumption) (by assumption)) | (exact side_inb har (by assumption) (by assumption) (by assumption)) | (exact side_sh har (by decide)) | (exact side_app har (by assumption) (by assumption) (by omega)) | (exact side_app0 har (by assumption) (by omega)) | (exact side_new har (by assumption) (by omega)) | (exact side_one har (by assumption) (by omega)) | (exact side_oneN har (by assumption) (by omega)) | (exact side_flat har (by assumption)) | (exact side_sbig har (by omega)) | (refine side_sbig har ?_; simp; done) | (exact side_oneI har (by assumption) (by omega)) | (refine side_ix har ?_; simp; done) | (refine side_ix har ?_; simp; omega))
  all_goals subst har; simp only [std, icmpS, decide_eq_true_eq, decide_eq_false_iff_not, Bool.not_eq_true', Bool.not_eq_false', bne_iff_ne, ne_eq, bne_eq_false_iff_eq, beq_iff_eq, beq_eq_false_iff_ne, Int.not_lt, Int.not_le, Bool.not_true, Bool.not_false, reduceCtorEq] at *
  · exact ⟨⟨by rw [namedB, decide_eq_true (by omega)], rfl⟩⟩
  · exact ⟨⟨by rw [namedB, decide_eq_true (by omega)], rfl⟩⟩
  · exact ⟨⟨by rw [namedB, decide_eq_true (by omega)], rfl⟩⟩
  · refine ⟨⟨?_, rfl⟩⟩
    rw [namedB]
    by_cases e : t = 12
    · rw [decide_eq_true (by omega)]; simp [e]
    · rw [decide_eq_false (by omega)]; simp [e]
def textB (t : Int) : Bool := decide (t = 16 ∨ t = 49)
set_option maxRecDepth 20000 in
theorem fn217 : Tryz.prog.funcs[217]? = some Tryz.f217 := rfl
set_option maxHeartbeats 40000000 in
set_option maxRecDepth 3000 in
theorem iHasText (hP : Prg P) {t : Int} : ACall P 217 [.one (.t (.int .i64 t))] [] (fun r ob => r = .one (.t (.bool (textB t))) ∧ ob = []) := by
  refine acall_fn (md := md) [none] v217 hP.mixed hP.tab (fn_at hP fn217) 1 rfl (by decide +kernel) rfl ?_
  intro ar har
  cbv
  repeat' (first | (intro; cbv) | (with_reducible refine and_side ?_ ?_; rotate_left; try cbv) | (refine ChkP.mk (by decide +kernel) ?_; cbv) | (refine br_intro ?_ ?_ <;> intro <;> cbv) | (refine get_at har (by assumption) (by assumption) (by assumption) (by assumption) ?_; cbv) | (refine get_lt har (by assumption) (by assumption) (by assumption) ?_; intro x xx hx hxx; cbv) | (refine get_atN har (by assumption) (by assumption) (by assumption) (by assumption) ?_; cbv) | (refine get_ltN har (by assumption) (by assumption) (by assumption) ?_; intro x xx hx hxx; cbv) | (refine get_atI har (by assumption) (by assumption) (by decide) ?_; cbv) | (refine get_twoA har (by assumption) (by assumption) (by decide) ?_; intro x hx; cbv) | (refine get_twoB har (by assumption) (by assumption) (by decide) ?_; intro x hx; cbv) | (refine bytes_intro (by assumption) ?_; cbv) | (exact side_lt har (by assumption) (by assumption)) | (exact side_inb har (by assumption) (by assumption) (by assumption)) | (exact side_sh har (by decide)) | (exact side_app har (by assumption) (by assumption) (by omega)) | (exact side_app0 har (by assumption) (by omega)) | (exact side_new har (by assumption) (by omega)) | (exact side_one har (by assumption) (by omega)) | (exact side_oneN har (by assumption) (by omega)) | (exact side_flat har (by assumption)) | (exact side_sbig har (by omega)) | (refine side_sbig har ?_; simp; done) | (exact side_oneI har (by assumption) (by omega)) | (refine side_ix har ?_; simp; done) | (refine side_ix har ?_; simp; omega))
  all_goals subst har; simp only [std, icmpS, decide_eq_true_eq, decide_eq_false_iff_not, Bool.not_eq_true', Bool.not_eq_false', bne_iff_ne, ne_eq, bne_eq_false_iff_eq, beq_iff_eq, beq_eq_false_iff_ne, Int.not_lt, Int.not_le, Bool.not_true, Bool.not_false, reduceCtorEq] at *
  · exact ⟨⟨by rw [textB, decide_eq_true (by omega)], rfl⟩⟩
  · refine ⟨⟨?_, rfl⟩⟩
    rw [textB]
    by_cases e : t = 49
    · rw [decide_eq_true (by omega)]; simp [e]
    · rw [decide_eq_false (by omega)]; simp [e]
set_option maxRecDepth 20000 in
theorem fn262 : Tryz.prog.funcs[262]? = some Tryz.f262 := rfl
set_option maxHeartbeats 40000000 in
set_option maxRecDepth 3000 in
theorem sTexted (hP : Prg P) {t : Int} : ACall P 262 [.one (.t (.int .i64 t))] [] (fun r ob => r = .one (.t (.bool (textB t))) ∧ ob = []) := by
  refine acall_fn (md := md) [none] v262 hP.mixed hP.tab (fn_at hP fn262) 1 rfl (by decide +kernel) rfl ?_
  intro ar har
  cbv
  repeat' (first | (intro; cbv) | (with_reducible refine and_side ?_ ?_; rotate_left; try cbv) | (refine ChkP.mk (by decide +kernel) ?_; cbv) | (refine br_intro ?_ ?_ <;> intro <;> cbv) | (refine get_at har (by assumption) (by assumption) (by assumption) (by assumption) ?_; cbv) | (refine get_lt har (by assumption) (by assumption) (by assumption) ?_; intro x xx hx hxx; cbv) | (refine get_atN har (by assumption) (by assumption) (by assumption) (by assumption) ?_; cbv) | (refine get_ltN har (by assumption) (by assumption) (by assumption) ?_; intro x xx hx hxx; cbv) | (refine get_atI har (by assumption) (by assumption) (by decide) ?_; cbv) | (refine get_twoA har (by assumption) (by assumption) (by decide) ?_; intro x hx; cbv) | (refine get_twoB har (by assumption) (by assumption) (by decide) ?_; intro x hx; cbv) | (refine bytes_intro (by assumption) ?_; cbv) | (exact side_lt har (by assumption) (by assumption)) | (exact side_inb har (by assumption) (by assumption) (by assumption)) | (exact side_sh har (by decide)) | (exact side_app har (by assumption) (by assumption) (by omega)) | (exact side_app0 har (by assumption) (by omega)) | (exact side_new har (by assumption) (by omega)) | (exact side_one har (by assumption) (by omega)) | (exact side_oneN har (by assumption) (by omega)) | (exact side_flat har (by assumption)) | (exact side_sbig har (by omega)) | (refine side_sbig har ?_; simp; done) | (exact side_oneI har (by assumption) (by omega)) | (refine side_ix har ?_; simp; done) | (refine side_ix har ?_; simp; omega))
  all_goals subst har; simp only [std, icmpS, decide_eq_true_eq, decide_eq_false_iff_not, Bool.not_eq_true', Bool.not_eq_false', bne_iff_ne, ne_eq, bne_eq_false_iff_eq, beq_iff_eq, beq_eq_false_iff_ne, Int.not_lt, Int.not_le, Bool.not_true, Bool.not_false, reduceCtorEq] at *
  · exact ⟨⟨by rw [textB, decide_eq_true (by omega)], rfl⟩⟩
  · refine ⟨⟨?_, rfl⟩⟩
    rw [textB]
    by_cases e : t = 49
    · rw [decide_eq_true (by omega)]; simp [e]
    · rw [decide_eq_false (by omega)]; simp [e]
def typeB (t : Int) : Bool := decide (t = 1 ∨ t = 2 ∨ t = 5 ∨ t = 6 ∨ t = 12 ∨ t = 16 ∨ t = 49)
set_option maxRecDepth 20000 in
theorem fn170 : Tryz.prog.funcs[170]? = some Tryz.f170 := rfl
set_option maxHeartbeats 40000000 in
set_option maxRecDepth 3000 in
theorem sTypeOk (hP : Prg P) {t : Int} : ACall P 170 [.one (.t (.int .i64 t))] [] (fun r ob => r = .one (.t (.bool (typeB t))) ∧ ob = []) := by
  refine acall_fn (md := md) [none] v170 hP.mixed hP.tab (fn_at hP fn170) 1 rfl (by decide +kernel) rfl ?_
  intro ar har
  cbv
  repeat' (first | (intro; cbv) | (with_reducible refine and_side ?_ ?_; rotate_left; try cbv) | (refine ChkP.mk (by decide +kernel) ?_; cbv) | (refine br_intro ?_ ?_ <;> intro <;> cbv) | (refine get_at har (by assumption) (by assumption) (by assumption) (by assumption) ?_; cbv) | (refine get_lt har (by assumption) (by assumption) (by assumption) ?_; intro x xx hx hxx; cbv) | (refine get_atN har (by assumption) (by assumption) (by assumption) (by assumption) ?_; cbv) | (refine get_ltN har (by assumption) (by assumption) (by assumption) ?_; intro x xx hx hxx; cbv) | (refine get_atI har (by assumption) (by assumption) (by decide) ?_; cbv) | (refine get_twoA har (by assumption) (by assumption) (by decide) ?_; intro x hx; cbv) | (refine get_twoB har (by assumption) (by assumption) (by decide) ?_; intro x hx; cbv) | (refine bytes_intro (by assumption) ?_; cbv) | (exact side_lt har (by assumption) (by assumption)) | (exact side_inb har (by assumption) (by assumption) (by assumption)) | (exact side_sh har (by decide)) | (exact side_app har (by assumption) (by assumption) (by omega)) | (exact side_app0 har (by assumption) (by omega)) | (exact side_new har (by assumption) (by omega)) | (exact side_one har (by assumption) (by omega)) | (exact side_oneN har (by assumption) (by omega)) | (exact side_flat har (by assumption)) | (exact side_sbig har (by omega)) | (refine side_sbig har ?_; simp; done) | (exact side_oneI har (by assumption) (by omega)) | (refine side_ix har ?_; simp; done) | (refine side_ix har ?_; simp; omega))
  all_goals subst har; simp only [std, icmpS, decide_eq_true_eq, decide_eq_false_iff_not, Bool.not_eq_true', Bool.not_eq_false', bne_iff_ne, ne_eq, bne_eq_false_iff_eq, beq_iff_eq, beq_eq_false_iff_ne, Int.not_lt, Int.not_le, Bool.not_true, Bool.not_false, reduceCtorEq] at *
  all_goals first
    | (exfalso; omega)
    | exact ⟨⟨by rw [typeB, decide_eq_true (by omega)], rfl⟩⟩
    | exact ⟨⟨by rw [typeB, decide_eq_false (by omega)], rfl⟩⟩
end Go.TL.Tryz

/- TfRrOk -/
namespace Go.TL.Tryz
open Go Go.TL Go.Proofs
variable {P : Program}

theorem get_twoA {ar : Ar} (har : ar = std) {b : List Int} {es : List (List T)} {i : Int} {K : List T → Prop} (hes : encI b = es) (h : ar.icmp .neq (ar.len es) 2 = false) (hi : 0 ≤ i ∧ i < 2)
    (k : ∀ (x : Int), b[i.toNat]? = some x → K [.int .i64 x]) : GetP ar es i K := by
  refine get_int har hes ⟨hi.1, ?_⟩ k
  have := encI_len hes
  subst har; simp [std, icmpS] at h; omega
theorem get_twoB {ar : Ar} (har : ar = std) {b : List Int} {es : List (List T)} {i : Int} {K : List T → Prop} (hes : encI b = es) (h : ar.icmp .eql (ar.len es) 2 = true) (hi : 0 ≤ i ∧ i < 2)
    (k : ∀ (x : Int), b[i.toNat]? = some x → K [.int .i64 x]) : GetP ar es i K := by
  refine get_int har hes ⟨hi.1, ?_⟩ k
  have := encI_len hes
  subst har; simp [std, icmpS] at h; omega
theorem get_atI {ar : Ar} (har : ar = std) {b : List Int} {es : List (List T)} {i x : Int} {K : List T → Prop} (hes : encI b = es) (hx : b[i.toNat]? = some x) (hi : 0 ≤ i) (k : K [.int .i64 x]) : GetP ar es i K :=
  get_int har hes ⟨hi, (List.getElem?_eq_some_iff.1 hx).1⟩ fun y h => by rw [hx] at h; injection h with h; subst h; exact k
def numsOk (t : Int) (nu : List Int) : Bool :=
  if t = 6 then decide (nu.length = 2) && (isWordB (nu.getD 0 0) && withinB (nu.getD 1 0) 0 100000) else decide (nu.length = 0)
def dataOk (t addr : Int) (to : List (List UInt8)) (tx : List UInt8) (nu : List Int) : Bool :=
  (if t = 1 then isWordB addr else decide (addr = 0)) && ((if namedB t then nameOk to else decide (to.length = 0)) && ((if textB t then decide (tx.length ≤ 40) else decide (tx.length = 0)) && numsOk t nu))
def rrOk (n : List (List UInt8)) (t ttl addr : Int) (to : List (List UInt8)) (tx : List UInt8) (nu : List Int) : Bool :=
  nameOk n && (typeB t && (withinB ttl 0 100000 && dataOk t addr to tx nu))
theorem two_of {nu : List Int} {x y : Int} (h : nu.length = 2) (h0 : nu[0]? = some x) (h1 : nu[1]? = some y) : nu = [x, y] := by
  match nu, h with
  | [a, b], _ => simp at h0 h1; rw [h0, h1]
set_option maxRecDepth 20000 in
theorem fn207 : Tryz.prog.funcs[207]? = some Tryz.f207 := rfl
set_option maxHeartbeats 40000000 in
set_option maxRecDepth 3000 in
theorem sl3data (hP : Prg P) {to : List (List UInt8)} {ns tos txs nus : List (List T)} {t ttl addr : Int} {tx : List UInt8} {nu : List Int} (hto : encN to = tos) (htx : encB tx = txs) (hnu : encI nu = nus) :
    ACall P 207 [.agg [.t (.sl ns), .t (.int .i64 t), .t (.int .i64 ttl), .t (.int .i64 addr), .t (.sl tos), .t (.sl txs), .t (.sl nus)]] []
      (fun r ob => r = .one (.t (.bool (dataOk t addr to tx nu))) ∧ ob = []) := by
  refine acall_fn (md := md) [none] v207 hP.mixed hP.tab (fn_at hP fn207) 1 rfl (by decide +kernel) rfl ?_
  intro ar har
  cbv
  repeat' (first | (intro; cbv) | (with_reducible refine and_side ?_ ?_; rotate_left; try cbv) | (refine ChkP.mk (by decide +kernel) ?_; cbv) | (refine br_intro ?_ ?_ <;> intro <;> cbv) | (refine get_at har (by assumption) (by assumption) (by assumption) (by assumption) ?_; cbv) | (refine get_lt har (by assumption) (by assumption) (by assumption) ?_; intro x xx hx hxx; cbv) | (refine get_atN har (by assumption) (by assumption) (by assumption) (by assumption) ?_; cbv) | (refine get_ltN har (by assumption) (by assumption) (by assumption) ?_; intro x xx hx hxx; cbv) | (refine get_atI har (by assumption) (by assumption) (by decide) ?_; cbv) | (refine get_twoA har (by assumption) (by assumption) (by decide) ?_; intro x hx; cbv) | (refine get_twoB har (by assumption) (by assumption) (by decide) ?_; intro x hx; cbv) | (refine bytes_intro (by assumption) ?_; cbv) | (exact side_lt har (by assumption) (by assumption)) | (exact side_inb har (by assumption) (by assumption) (by assumption)) | (exact side_sh har (by decide)) | (exact side_app har (by assumption) (by assumption) (by omega)) | (exact side_app0 har (by assumption) (by omega)) | (exact side_new har (by assumption) (by omega)) | (exact side_one har (by assumption) (by omega)) | (exact side_oneN har (by assumption) (by omega)) | (exact side_flat har (by assumption)) | (exact side_sbig har (by omega)) | (refine side_sbig har ?_; simp; done) | (exact side_oneI har (by assumption) (by omega)) | (refine side_ix har ?_; simp; done) | (refine side_ix har ?_; simp; omega) | (refine call_intro (sNamed hP) ?_; rintro r ob ⟨rfl, rfl⟩; generalize hv : namedB _ = v; cbv) | (refine calld_intro (sNamed hP) ?_; generalize hv : namedB _ = v; cbv) | (refine call_intro (sTexted hP) ?_; rintro r ob ⟨rfl, rfl⟩; generalize hhx : textB _ = hx1; cbv) | (refine calld_intro (sTexted hP) ?_; generalize hhx : textB _ = hx1; cbv) | (refine call_intro (sNameOk hP (by assumption)) ?_; rintro r ob ⟨rfl, rfl⟩; generalize hv : nameOk _ = v; cbv) | (refine calld_intro (sNameOk hP (by assumption)) ?_; generalize hv : nameOk _ = v; cbv))
  all_goals have hlen1 := encN_len hto
  all_goals have hlen2 := encB_len htx
  all_goals have hlen3 := encI_len hnu
  all_goals subst har; simp only [std, icmpS, decide_eq_true_eq, decide_eq_false_iff_not, Bool.not_eq_true', Bool.not_eq_false', bne_iff_ne, ne_eq, bne_eq_false_iff_eq, beq_iff_eq, beq_eq_false_iff_ne, Int.not_lt, Int.not_le, Bool.not_true, Bool.not_false, reduceCtorEq] at *
  all_goals (refine ⟨⟨?_, rfl⟩⟩; simp_all [dataOk, numsOk, isWordB, withinB, List.getD, -List.length_eq_zero_iff])
  all_goals first
    | (intros; omega)
    | (rw [Bool.eq_iff_iff]; simp [-List.length_eq_zero_iff]; omega)
    | grind
set_option maxRecDepth 20000 in
theorem fn126 : Tryz.prog.funcs[126]? = some Tryz.f126 := rfl
set_option maxHeartbeats 40000000 in
set_option maxRecDepth 3000 in
theorem sRrOk (hP : Prg P) {n to : List (List UInt8)} {ns tos txs nus : List (List T)} {t ttl addr : Int} {tx : List UInt8} {nu : List Int} (hn : encN n = ns) (hto : encN to = tos) (htx : encB tx = txs) (hnu : encI nu = nus) :
    ACall P 126 [.agg [.t (.sl ns), .t (.int .i64 t), .t (.int .i64 ttl), .t (.int .i64 addr), .t (.sl tos), .t (.sl txs), .t (.sl nus)]] []
      (fun r ob => r = .one (.t (.bool (rrOk n t ttl addr to tx nu))) ∧ ob = []) := by
  refine acall_fn (md := md) [none] v126 hP.mixed hP.tab (fn_at hP fn126) 1 rfl (by decide +kernel) rfl ?_
  intro ar har
  cbv
  repeat' (first | (intro; cbv) | (with_reducible refine and_side ?_ ?_; rotate_left; try cbv) | (refine ChkP.mk (by decide +kernel) ?_; cbv) | (refine br_intro ?_ ?_ <;> intro <;> cbv) | (refine get_at har (by assumption) (by assumption) (by assumption) (by assumption) ?_; cbv) | (refine get_lt har (by assumption) (by assumption) (by assumption) ?_; intro x xx hx hxx; cbv) | (refine get_atN har (by assumption) (by assumption) (by assumption) (by assumption) ?_; cbv) | (refine get_ltN har (by assumption) (by assumption) (by assumption) ?_; intro x xx hx hxx; cbv) | (refine get_atI har (by assumption) (by assumption) (by decide) ?_; cbv) | (refine get_twoA har (by assumption) (by assumption) (by decide) ?_; intro x hx; cbv) | (refine get_twoB har (by assumption) (by assumption) (by decide) ?_; intro x hx; cbv) | (refine bytes_intro (by assumption) ?_; cbv) | (exact side_lt har (by assumption) (by assumption)) | (exact side_inb har (by assumption) (by assumption) (by assumption)) | (exact side_sh har (by decide)) | (exact side_app har (by assumption) (by assumption) (by omega)) | (exact side_app0 har (by assumption) (by omega)) | (exact side_new har (by assumption) (by omega)) | (exact side_one har (by assumption) (by omega)) | (exact side_oneN har (by assumption) (by omega)) | (exact side_flat har (by assumption)) | (exact side_sbig har (by omega)) | (refine side_sbig har ?_; simp; done) | (exact side_oneI har (by assumption) (by omega)) | (refine side_ix har ?_; simp; done) | (refine side_ix har ?_; simp; omega) | (refine call_intro (sNameOk hP (by assumption)) ?_; rintro r ob ⟨rfl, rfl⟩; generalize hv : nameOk _ = v; cbv) | (refine calld_intro (sNameOk hP (by assumption)) ?_; generalize hv : nameOk _ = v; cbv) | (refine call_intro (sTypeOk hP) ?_; rintro r ob ⟨rfl, rfl⟩; generalize hty : typeB _ = ty; cbv) | (refine calld_intro (sTypeOk hP) ?_; generalize hty : typeB _ = ty; cbv) | (refine call_intro (sl3data hP (by assumption) (by assumption) (by assumption)) ?_; rintro r ob ⟨rfl, rfl⟩; generalize hdo : dataOk _ _ _ _ _ = do1; cbv) | (refine calld_intro (sl3data hP (by assumption) (by assumption) (by assumption)) ?_; generalize hdo : dataOk _ _ _ _ _ = do1; cbv))
  all_goals try (subst har; simp only [std, icmpS, decide_eq_true_eq, decide_eq_false_iff_not, Bool.not_eq_true', Bool.not_eq_false', bne_iff_ne, ne_eq, bne_eq_false_iff_eq, beq_iff_eq, beq_eq_false_iff_ne, Int.not_lt, Int.not_le, Bool.not_true, Bool.not_false, reduceCtorEq] at *)
  all_goals refine ⟨⟨?_, rfl⟩⟩
  all_goals simp_all [rrOk, withinB]
  all_goals first
    | (intros; omega)
    | grind
end Go.TL.Tryz

/- TfTyN -/
namespace Go.TL.Tryz
open Go Go.TL Go.Proofs Go.RowKit Go.MapKept
set_option maxRecDepth 20000
theorem run_mk {P : Program} (w : World) (t : TypeId) : (Instr.makeMap t none).run P w = .ok (.map (some w.heap.size)) (w.alloc (.map #[] 0)) := rfl
theorem run_ck {P : Program} (w : World) (e : Bool) (t : TypeId) (n : Int) (ht : P.underlying t = some (.int .i64)) : (Instr.checkKey e 10000 t (.int .i64 n)).run P w = .ok () w := by
  rw [show (10000 : Nat) = 9999 + 1 from rfl, Instr.checkKey]
  simp [run_underlying ht]
theorem set_push {α : Type} (h : Array α) (a b : α) : (h.push a).setIfInBounds h.size b = h.push b := by
  apply Array.ext
  · simp
  · intro i h1 h2
    rw [Array.getElem_setIfInBounds (by simpa using h2)]
    by_cases e : h.size = i
    · subst e; simp
    · have : i < h.size := by simp at h2; omega
      simp [e, Array.getElem_push, this]
theorem set_alloc (w : World) (o o' : Obj) : { w.alloc o with heap := (w.alloc o).heap.setIfInBounds w.heap.size o' } = w.alloc o' := by
  show ({ w with heap := (w.heap.push o).setIfInBounds w.heap.size o' } : World) = { w with heap := w.heap.push o' }
  rw [set_push]
theorem run_ins {P : Program} (w : World) (t kt vt : TypeId) (ht : P.underlying t = some (.map kt vt)) (hk : P.underlying kt = some (.int .i64)) (es : Array MapEntry) (k : Nat) (n : Int) (v : Value)
    (hf : Instr.findNow (.int .i64) (.int .i64 n) es.toList 0 = some none) :
    (Instr.mapUpdate t (.map (some w.heap.size)) (.int .i64 n) v).run P (w.alloc (.map es k)) = .ok () (w.alloc (.map (es.push { key := .int .i64 n, val := v, born := k }) (k + 1))) := by
  have hg : (w.alloc (.map es k)).heap[w.heap.size]? = some (.map es k) := (MapKept.heap_alloc w _).1
  unfold Instr.mapUpdate
  simp only [Sem.run_bind, run_underlying ht, Result.andThen_ok]
  have hgo : (getObj w.heap.size).run P (w.alloc (.map es k)) = .ok (.map es k) (w.alloc (.map es k)) := Go.MapKept.run_getObj_map hg
  simp only [Sem.run_bind, hgo, Result.andThen_ok, run_ck _ _ _ _ hk, Instr.findKey, run_underlying hk, hf, Sem.run_pure]
  rw [Go.MapKept.run_setObj_map _ hg, set_alloc]
def valOf : Option (Nat × Value) → Value → Value
  | some (_, v), _ => v
  | none, z => z
theorem run_look {P : Program} (w : World) (t kt vt : TypeId) (ht : P.underlying t = some (.map kt vt)) (hk : P.underlying kt = some (.int .i64)) (es : Array MapEntry) (k : Nat) (n : Int) (z : Value) (hz : ∀ w, (zeroValue vt).run P w = .ok z w) (r : Option (Nat × Value))
    (hf : Instr.findNow (.int .i64) (.int .i64 n) es.toList 0 = some r) :
    (Instr.lookup t (.map (some w.heap.size)) (.int .i64 n) false).run P (w.alloc (.map es k)) = .ok (valOf r z) (w.alloc (.map es k)) := by
  have hg : (w.alloc (.map es k)).heap[w.heap.size]? = some (.map es k) := (MapKept.heap_alloc w _).1
  have hgo : (getObj w.heap.size).run P (w.alloc (.map es k)) = .ok (.map es k) (w.alloc (.map es k)) := Go.MapKept.run_getObj_map hg
  unfold Instr.lookup
  cases r with
  | none => simp only [Sem.run_bind, run_underlying ht, Result.andThen_ok, hgo, run_ck _ _ _ _ hk, Instr.findKey, run_underlying hk, hf, Sem.run_pure, hz]; rfl
  | some p => simp only [Sem.run_bind, run_underlying ht, Result.andThen_ok, hgo, run_ck _ _ _ _ hk, Instr.findKey, run_underlying hk, hf, Sem.run_pure]; rfl
def ba (l : List UInt8) : ByteArray := ⟨l.toArray⟩
def tyFind (t : Int) : Option (Nat × Value) :=
  if t = 1 then some (0, .string ⟨#[65]⟩) else if t = 2 then some (1, .string ⟨#[78, 83]⟩) else if t = 5 then some (2, .string ⟨#[67, 78, 65, 77, 69]⟩) else if t = 6 then some (3, .string ⟨#[83, 79, 65]⟩) else
  if t = 12 then some (4, .string ⟨#[80, 84, 82]⟩) else if t = 16 then some (5, .string ⟨#[84, 88, 84]⟩) else if t = 49 then some (6, .string ⟨#[68, 72, 67, 73, 68]⟩) else none
def tyName (t : Int) : List UInt8 :=
  if t = 1 then [65] else if t = 2 then [78, 83] else if t = 5 then [67, 78, 65, 77, 69] else if t = 6 then [83, 79, 65] else
  if t = 12 then [80, 84, 82] else if t = 16 then [84, 88, 84] else if t = 49 then [68, 72, 67, 73, 68] else []
theorem zero9 (w : World) : (zeroValue 9).run Tryz.prog w = .ok (.string ⟨#[]⟩) w := by kernel_rfl
theorem beqf {a b : Int} (h : ¬ a = b) : (a == b) = false := by simpa using h
theorem find_eq (t : Int) : Instr.findNow (.int .i64) (.int .i64 t) [{ key := Value.int IntKind.i64 1, val := Value.string { data := #[65] }, born := 0 },
                { key := Value.int IntKind.i64 2, val := Value.string { data := #[78, 83] }, born := 1 },
                { key := Value.int IntKind.i64 5, val := Value.string { data := #[67, 78, 65, 77, 69] }, born := 2 },
                { key := Value.int IntKind.i64 6, val := Value.string { data := #[83, 79, 65] }, born := 3 },
                { key := Value.int IntKind.i64 12, val := Value.string { data := #[80, 84, 82] }, born := 4 },
                { key := Value.int IntKind.i64 16, val := Value.string { data := #[84, 88, 84] }, born := 5 },
                { key := Value.int IntKind.i64 49, val := Value.string { data := #[68, 72, 67, 73, 68] }, born := 6 }] 0 = some (tyFind t) := by
  unfold tyFind
  repeat' split
  all_goals simp [Instr.findNow, Instr.sameNow, beqf, *]
theorem find_val (t : Int) : valOf (tyFind t) (.string ⟨#[]⟩) = .string ⟨(tyName t).toArray⟩ := by
  by_cases h1 : t = 1
  · subst h1; rfl
  by_cases h2 : t = 2
  · subst h2; rfl
  by_cases h3 : t = 5
  · subst h3; rfl
  by_cases h4 : t = 6
  · subst h4; rfl
  by_cases h5 : t = 12
  · subst h5; rfl
  by_cases h6 : t = 16
  · subst h6; rfl
  by_cases h7 : t = 49
  · subst h7; rfl
  simp [tyFind, tyName, valOf, *]
theorem typeName_walk (t : Int) (w : World) :
    Calls Tryz.prog 113 #[.int .i64 t] w fun e w' => e = .returned (.string ⟨(tyName t).toArray⟩) ∧ Below w.heap.size w w' := by
  have u := Tryz.underlying215
  have u3 := Tryz.underlying3
  go_enter Tryz.func113, Tryz.ntmps113
  go_wp2
  rw [run_mk]
  go_wp2
  iterate 7
    rw [run_ins w 215 3 9 u u3 _ _ _ _ (by rfl)]
    go_wp2
  have hl := run_look w 215 3 9 u u3 _ 7 t (.string ⟨#[]⟩) zero9 (tyFind t) (find_eq t)
  rw [find_val] at hl
  rw [hl]
  go_wp2
  go_ret
  exact ⟨rfl, ⟨rfl, rfl, rfl, by simp, fun k hk => heap_alloc_old w _ hk⟩⟩
theorem iTypeName {P : Program} (hP : Prg P) (t : Int) : TL.ACall P 113 [.one (.t (.int .i64 t))] [] (fun r ob => r = .one (.t (.str (tyName t))) ∧ ob = []) := by
  have hP := hP.eq
  subst hP
  refine TL.acall_calls Tryz.func113 (by rfl) (by decide) ?_
  intro w ok hd vs G R hl ha
  obtain ⟨v, rfl⟩ : ∃ v, vs = [v] := by
    match vs, hl with
    | [v], _ => exact ⟨v, rfl⟩
  have hv := (ha 0 v _ rfl rfl).one_inv
  cases hv with
  | int _ _ hk =>
    refine (typeName_walk t w).mono ?_
    rintro e w' ⟨rfl, hb⟩
    refine ⟨_, rfl, ok, hd, _, [], ⟨rfl, rfl⟩, ?_, .one _ _ ?_⟩
    · refine ⟨⟨fun b hb' => Nat.lt_of_lt_of_le (R.okLt b hb') hb.size, fun n b h => absurd rfl h, fun n m b _ h => absurd rfl h, fun n o h => by cases h⟩, hb.os, hb.tape, hb.output, hb.size, fun b h1 _ => hb.block b h1, fun _ h => h, fun _ h => .inl h, fun n b h => absurd rfl h, TL.Keep.refl _ _⟩
    · have := TL.Rep.str (w := w') (ok := ok) ⟨(tyName t).toArray⟩ (by show (tyName t).toArray.size ≤ _; unfold tyName; repeat' (first | decide | split))
      exact (show TL.Rep _ _ _ _ by simpa using this)
theorem tyName_type (t : Int) : (tyName t == []) = !typeB t := by
  by_cases h1 : t = 1
  · subst h1; rfl
  by_cases h2 : t = 2
  · subst h2; rfl
  by_cases h3 : t = 5
  · subst h3; rfl
  by_cases h4 : t = 6
  · subst h4; rfl
  by_cases h5 : t = 12
  · subst h5; rfl
  by_cases h6 : t = 16
  · subst h6; rfl
  by_cases h7 : t = 49
  · subst h7; rfl
  simp [tyName, typeB, *]
theorem tyName_len (t : Int) : (tyName t).length ≤ 5 := by
  unfold tyName; repeat' (first | decide | split)
set_option maxRecDepth 20000 in
theorem fn198 : Tryz.prog.funcs[198]? = some Tryz.f198 := rfl
set_option maxHeartbeats 40000000 in
set_option maxRecDepth 3000 in
theorem iTypeOk {P : Program} (hP : Prg P) {t : Int} : ACall P 198 [.one (.t (.int .i64 t))] [] (fun r ob => r = .one (.t (.bool (typeB t))) ∧ ob = []) := by
  refine acall_fn (md := md) [none] v198 hP.mixed hP.tab (fn_at hP fn198) 1 rfl (by decide +kernel) rfl ?_
  intro ar har
  cbv
  repeat' (first | (intro; cbv) | (with_reducible refine and_side ?_ ?_; rotate_left; try cbv) | (refine ChkP.mk (by decide +kernel) ?_; cbv) | (refine br_intro ?_ ?_ <;> intro <;> cbv) | (refine get_at har (by assumption) (by assumption) (by assumption) (by assumption) ?_; cbv) | (refine get_lt har (by assumption) (by assumption) (by assumption) ?_; intro x xx hx hxx; cbv) | (refine get_atN har (by assumption) (by assumption) (by assumption) (by assumption) ?_; cbv) | (refine get_ltN har (by assumption) (by assumption) (by assumption) ?_; intro x xx hx hxx; cbv) | (refine get_atI har (by assumption) (by assumption) (by decide) ?_; cbv) | (refine get_twoA har (by assumption) (by assumption) (by decide) ?_; intro x hx; cbv) | (refine get_twoB har (by assumption) (by assumption) (by decide) ?_; intro x hx; cbv) | (refine bytes_intro (by assumption) ?_; cbv) | (exact side_lt har (by assumption) (by assumption)) | (exact side_inb har (by assumption) (by assumption) (by assumption)) | (exact side_sh har (by decide)) | (exact side_app har (by assumption) (by assumption) (by omega)) | (exact side_app0 har (by assumption) (by omega)) | (exact side_new har (by assumption) (by omega)) | (exact side_one har (by assumption) (by omega)) | (exact side_oneN har (by assumption) (by omega)) | (exact side_flat har (by assumption)) | (exact side_sbig har (by omega)) | (refine side_sbig har ?_; simp; done) | (exact side_oneI har (by assumption) (by omega)) | (refine side_ix har ?_; simp; done) | (refine side_ix har ?_; simp; omega) | (refine call_intro (iTypeName hP _) ?_; rintro r ob ⟨rfl, rfl⟩; generalize htn : tyName _ = tn; cbv) | (refine calld_intro (iTypeName hP _) ?_; generalize htn : tyName _ = tn; cbv))
  have e := tyName_type t
  rw [htn] at e
  subst har
  refine ⟨⟨?_, rfl⟩⟩
  show A.one (V.t (T.bool (!(tn == [])))) = _
  rw [e]; simp
end Go.TL.Tryz
