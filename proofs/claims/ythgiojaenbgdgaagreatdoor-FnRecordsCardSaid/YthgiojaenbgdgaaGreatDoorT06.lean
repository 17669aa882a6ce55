/- Texts of a proof, joined by a program (merge.py): TfPutS TfRrD TfPutT TfImN TfRrOk TfTyN. -/
import Derived.Test.YthgiojaenbgdgaaGreatDoorT05
import Derived.WalkKit
import Derived.RowKit3
import Derived.Below
import Derived.MapKept
set_option linter.all false
/- TfPutS -/
namespace Go.TL.Tryz
open Go Go.TL Go.Proofs
variable {P : Program}

def shr8 (n : Int) (k : Int) : Int := iopS .shr .i64 n k
def put16 (n : Int) : List UInt8 := if 0 ≤ n ∧ n ≤ 65535 then [byteOf (shr8 n 8), byteOf n] else []
def put32 (n : Int) : List UInt8 := if 0 ≤ n ∧ n < 4294967296 then [byteOf (shr8 n 24), byteOf (shr8 n 16), byteOf (shr8 n 8), byteOf n] else []
theorem side_byL {ar : Ar} (har : ar = std) {l m : List UInt8} {es fs gs : List (List T)} (h : encB l = gs) (e : es = gs ++ fs) (k : encB m = fs) (hn : l.length + m.length ≤ 1000000000) : Side (ar.room 1 es ∧ ar.wid 1 fs) := by
  subst har; subst h; subst k; subst e
  exact ⟨by simp [std, encB]; omega, wid_byte m⟩
set_option maxRecDepth 20000 in
theorem fn103 : Tryz.prog.funcs[103]? = some Tryz.f103 := rfl
set_option maxHeartbeats 40000000 in
set_option maxRecDepth 3000 in
theorem sPut16 (hP : Prg P) {l : List UInt8} {ls : List (List T)} {n : Int} (hl : encB l = ls) (hb : l.length ≤ 1000000) :
    ACall P 103 [.one (.t (.sl ls)), .one (.t (.int .i64 n))] [] (fun r ob => r = .one (.row 32 0) ∧ ob = [(32, .row 1 (encB (l ++ put16 n)) 0 [0] false)]) := by
  refine acall_fn (md := md) [some [(0, 1)]] v103 hP.mixed hP.tab (fn_at hP fn103) 2 rfl (by decide +kernel) rfl ?_
  intro ar har
  cbv
  repeat' (first | (intro; cbv) | (with_reducible refine and_side ?_ ?_; rotate_left; try cbv) | (refine ChkP.mk (by rfl) ?_; cbv) | (refine br_intro ?_ ?_ <;> intro <;> cbv) | (refine get_at har (by assumption) (by assumption) (by assumption) (by assumption) ?_; cbv) | (refine get_lt har (by assumption) (by assumption) (by assumption) ?_; intro x xx hx hxx; cbv) | (refine get_atN har (by assumption) (by assumption) (by assumption) (by assumption) ?_; cbv) | (refine get_ltN har (by assumption) (by assumption) (by assumption) ?_; intro x xx hx hxx; cbv) | (refine get_atI har (by assumption) (by assumption) (by decide) ?_; cbv) | (refine get_twoA har (by assumption) (by assumption) (by decide) ?_; intro x hx; cbv) | (refine get_twoB har (by assumption) (by assumption) (by decide) ?_; intro x hx; cbv) | (refine bytes_intro (by assumption) ?_; cbv) | (exact side_lt har (by assumption) (by assumption)) | (exact side_inb har (by assumption) (by assumption) (by assumption)) | (exact side_sh har (by decide)) | (exact side_app har (by assumption) (by assumption) (by omega)) | (exact side_app0 har (by assumption) (by omega)) | (exact side_new har (by assumption) (by omega)) | (exact side_one har (by assumption) (by omega)) | (exact side_oneN har (by assumption) (by omega)) | (exact side_flat har (by assumption)) | (exact side_sbig har (by omega)) | (refine side_sbig har ?_; simp; done) | (exact side_oneI har (by assumption) (by omega)) | (refine side_ix har ?_; simp; done) | (refine side_ix har ?_; simp; omega))
  all_goals first
    | (refine side_byL (l := l) (m := [byteOf (shr8 n 8), byteOf n]) har hl ?_ ?_ (by simp; omega) <;> (subst har; first | rfl | (simp [encB, byteOf_wrap, std, shr8]; done)))
    | (subst har; simp only [std, icmpS, decide_eq_true_eq, decide_eq_false_iff_not, Bool.not_eq_true', Bool.not_eq_false', bne_iff_ne, ne_eq, bne_eq_false_iff_eq, beq_iff_eq, beq_eq_false_iff_ne, Int.not_lt, Int.not_le, Bool.not_true, Bool.not_false, reduceCtorEq] at *
       subst hl
       refine ⟨⟨rfl, ?_⟩⟩
       first
         | (rw [put16, if_neg (by omega)]; simp [encB]; done)
         | (rw [put16, if_pos (by omega)]; simp [encB, byteOf_wrap, shr8]; done))
set_option maxRecDepth 20000 in
theorem fn102 : Tryz.prog.funcs[102]? = some Tryz.f102 := rfl
set_option maxHeartbeats 40000000 in
set_option maxRecDepth 3000 in
theorem sPut32 (hP : Prg P) {l : List UInt8} {ls : List (List T)} {n : Int} (hl : encB l = ls) (hb : l.length ≤ 1000000) :
    ACall P 102 [.one (.t (.sl ls)), .one (.t (.int .i64 n))] [] (fun r ob => r = .one (.row 32 0) ∧ ob = [(32, .row 1 (encB (l ++ put32 n)) 0 [0] false)]) := by
  refine acall_fn (md := md) [some [(0, 1)]] v102 hP.mixed hP.tab (fn_at hP fn102) 2 rfl (by decide +kernel) rfl ?_
  intro ar har
  cbv
  repeat' (first | (intro; cbv) | (with_reducible refine and_side ?_ ?_; rotate_left; try cbv) | (refine ChkP.mk (by rfl) ?_; cbv) | (refine br_intro ?_ ?_ <;> intro <;> cbv) | (refine get_at har (by assumption) (by assumption) (by assumption) (by assumption) ?_; cbv) | (refine get_lt har (by assumption) (by assumption) (by assumption) ?_; intro x xx hx hxx; cbv) | (refine get_atN har (by assumption) (by assumption) (by assumption) (by assumption) ?_; cbv) | (refine get_ltN har (by assumption) (by assumption) (by assumption) ?_; intro x xx hx hxx; cbv) | (refine get_atI har (by assumption) (by assumption) (by decide) ?_; cbv) | (refine get_twoA har (by assumption) (by assumption) (by decide) ?_; intro x hx; cbv) | (refine get_twoB har (by assumption) (by assumption) (by decide) ?_; intro x hx; cbv) | (refine bytes_intro (by assumption) ?_; cbv) | (exact side_lt har (by assumption) (by assumption)) | (exact side_inb har (by assumption) (by assumption) (by assumption)) | (exact side_sh har (by decide)) | (exact side_app har (by assumption) (by assumption) (by omega)) | (exact side_app0 har (by assumption) (by omega)) | (exact side_new har (by assumption) (by omega)) | (exact side_one har (by assumption) (by omega)) | (exact side_oneN har (by assumption) (by omega)) | (exact side_flat har (by assumption)) | (exact side_sbig har (by omega)) | (refine side_sbig har ?_; simp; done) | (exact side_oneI har (by assumption) (by omega)) | (refine side_ix har ?_; simp; done) | (refine side_ix har ?_; simp; omega))
  all_goals first
    | (refine side_byL (l := l) (m := [byteOf (shr8 n 24), byteOf (shr8 n 16), byteOf (shr8 n 8), byteOf n]) har hl ?_ ?_ (by simp; omega) <;> (subst har; first | rfl | (simp [encB, byteOf_wrap, std, shr8]; done)))
    | (subst har; simp only [std, icmpS, decide_eq_true_eq, decide_eq_false_iff_not, Bool.not_eq_true', Bool.not_eq_false', bne_iff_ne, ne_eq, bne_eq_false_iff_eq, beq_iff_eq, beq_eq_false_iff_ne, Int.not_lt, Int.not_le, Bool.not_true, Bool.not_false, reduceCtorEq] at *
       subst hl
       refine ⟨⟨rfl, ?_⟩⟩
       first
         | (rw [put32, if_neg (by omega)]; simp [encB]; done)
         | (rw [put32, if_pos (by omega)]; simp [encB, byteOf_wrap, shr8]; done))

def wireL (l : List UInt8) : List UInt8 := byteOf l.length :: l
def wireN (n : List (List UInt8)) : List UInt8 := n.flatMap wireL ++ [0]
theorem put_step {l : List UInt8} {n : List (List UInt8)} {i : Nat} {x : List UInt8} (hx : n[i]? = some x) : l ++ (n.take i).flatMap wireL ++ wireL x = l ++ (n.take (i + 1)).flatMap wireL := by
  rw [List.take_add_one, hx]; simp
theorem enc_len {ar : Ar} (har : ar = std) {x : List UInt8} {xx : List (List T)} (hxx : encB x = xx) : [[T.int .u8 (ar.conv .u8 (ar.len xx))]] = encB [byteOf x.length] := by
  subst har; rw [enc_byteOf, ← encB_len hxx]; rfl
theorem enc_wireL {ar : Ar} (har : ar = std) {m x : List UInt8} {ms xx : List (List T)} (hm : encB m = ms) (hxx : encB x = xx) : ar.app (ar.app ms [[T.int .u8 (ar.conv .u8 (ar.len xx))]]) xx = encB (m ++ wireL x) := by
  rw [enc_len har hxx]; subst har; subst hm; subst hxx; simp [encB, std, wireL]
set_option maxRecDepth 20000 in
theorem fn104 : Tryz.prog.funcs[104]? = some Tryz.f104 := rfl
set_option maxHeartbeats 40000000 in
set_option maxRecDepth 3000 in
theorem sl2put (hP : Prg P) {l : List UInt8} {ls : List (List T)} {n : List (List UInt8)} {ns : List (List T)} (hl : encB l = ls) (hn : encN n = ns) (hb : l.length ≤ 1000000) (hnb : NmB n) :
    ACall P 104 [.one (.row 0 0), .agg [.t (.sl ns)]] [(0, .row 1 ls 0 [0] false)] (fun r ob => r = .one (.row 0 0) ∧ ob = [(0, .row 1 (encB (l ++ wireN n)) 0 [0] false)]) := by
  refine acall_fn (md := md) [some [(0, 1)]] v104 hP.mixed hP.tab (fn_at hP fn104) 2 rfl (by decide +kernel) rfl ?_
  intro ar har
  cbv
  refine LoopP.mk (List UInt8 × List (List T) × Int) [0, 3, 5] []
    (fun x => ⟨[(0, .one (.row 0 0)), (3, .one (.ptr 16 0)), (5, .one (.t (.int .i64 x.2.2)))], [(0, .row 1 x.2.1 0 [0] false), (16, .box [.t (.sl ns)] false)]⟩)
    (fun x => encB x.1 = x.2.1 ∧ 0 ≤ x.2.2 ∧ x.1 = l ++ (n.take x.2.2.toNat).flatMap wireL ∧ x.1.length ≤ 1000000 + 17 * x.2.2.toNat ∧ x.2.2.toNat ≤ n.length) (fun x => n.length - x.2.2.toNat) (l, ls, 0) ?e ?f ?g
  case e => kernel_rfl
  case f => exact ⟨hl, Int.le_refl _, by simp, by simp; omega, by simp⟩
  case g =>
    intro x hx
    obtain ⟨m, ms, i⟩ := x
    have hm : encB m = ms := hx.1
    have hi0 : 0 ≤ i := hx.2.1
    have hmm : m = l ++ (n.take i.toNat).flatMap wireL := hx.2.2.1
    have hmb : m.length ≤ 1000000 + 17 * i.toNat := hx.2.2.2.1
    have hib : i.toNat ≤ n.length := hx.2.2.2.2
    have hnl : n.length ≤ 7 := hnb.1
    clear hx
    cbv
    repeat' (first | (intro; cbv) | (with_reducible refine and_side ?_ ?_; rotate_left; try cbv) | (refine ChkP.mk (by rfl) ?_; cbv) | (refine br_intro ?_ ?_ <;> intro <;> cbv) | (refine get_at har (by assumption) (by assumption) (by assumption) (by assumption) ?_; cbv) | (refine get_lt har (by assumption) (by assumption) (by assumption) ?_; intro x xx hx hxx; cbv) | (refine get_atN har (by assumption) (by assumption) (by assumption) (by assumption) ?_; cbv) | (refine get_ltN har (by assumption) (by assumption) (by assumption) ?_; intro x xx hx hxx; cbv) | (refine get_atI har (by assumption) (by assumption) (by decide) ?_; cbv) | (refine get_twoA har (by assumption) (by assumption) (by decide) ?_; intro x hx; cbv) | (refine get_twoB har (by assumption) (by assumption) (by decide) ?_; intro x hx; cbv) | (refine bytes_intro (by assumption) ?_; cbv) | (exact side_lt har (by assumption) (by assumption)) | (exact side_inb har (by assumption) (by assumption) (by assumption)) | (exact side_sh har (by decide)) | (exact side_app har (by assumption) (by assumption) (by omega)) | (exact side_app0 har (by assumption) (by omega)) | (exact side_new har (by assumption) (by omega)) | (exact side_one har (by assumption) (by omega)) | (exact side_oneN har (by assumption) (by omega)) | (exact side_flat har (by assumption)) | (exact side_sbig har (by omega)) | (refine side_sbig har ?_; simp; done) | (exact side_oneI har (by assumption) (by omega)) | (refine side_ix har ?_; simp; done) | (refine side_ix har ?_; simp; omega))
    · have e : ar.app (ar.app ms [[T.int .u8 (ar.conv .u8 (ar.len xx))]]) xx = encB (m ++ wireL x) := enc_wireL har hm hxx
      have hx16 := hnb.2 x (List.mem_of_getElem? hx)
      have hlt := (List.getElem?_eq_some_iff.1 hx).1
      subst har
      refine ⟨(m ++ wireL x, encB (m ++ wireL x), i + 1), ?_, ⟨rfl, by dsimp only; omega, by dsimp only; rw [hmm, put_step hx, show (i + 1).toNat = i.toNat + 1 by omega], by simp [wireL]; omega, by dsimp only; omega⟩, by dsimp only; omega⟩
      rw [← e, show i + 1 = std.iop .add .i64 i 1 from (addI (by omega) (by omega)).symm]
      kernel_rfl
    · have hx16 := hnb.2 x (List.mem_of_getElem? hx)
      refine side_byL (l := m ++ [byteOf x.length]) har rfl ?_ hxx (by simp; omega)
      have e := enc_wireL har hm hxx
      rw [wireL] at e
      refine Eq.trans e ?_
      rw [← hxx]; simp [encB]
    · have hlen := encN_len hn
      subst har; simp only [std, icmpS, decide_eq_true_eq, decide_eq_false_iff_not, Bool.not_eq_true', Bool.not_eq_false', bne_iff_ne, ne_eq, bne_eq_false_iff_eq, beq_iff_eq, beq_eq_false_iff_ne, Int.not_lt, Int.not_le, Bool.not_true, Bool.not_false, reduceCtorEq] at *
      refine ⟨⟨rfl, ?_⟩⟩
      rw [List.take_of_length_le (by omega)] at hmm
      rw [wireN, ← List.append_assoc, ← hmm, ← hm]; simp [encB]
end Go.TL.Tryz

/- TfRrD -/
namespace Go.TL.Tryz
open Go Go.TL Go.Proofs
variable {P : Program}

def namedB (t : Int) : Bool := decide (t = 2 ∨ t = 5 ∨ t = 6 ∨ t = 12)
set_option maxRecDepth 20000 in
theorem fn83 : Tryz.prog.funcs[83]? = some Tryz.f83 := rfl
set_option maxHeartbeats 40000000 in
set_option maxRecDepth 3000 in
theorem sNamed (hP : Prg P) {t : Int} : ACall P 83 [.one (.t (.int .i64 t))] [] (fun r ob => r = .one (.t (.bool (namedB t))) ∧ ob = []) := by
  refine acall_fn (md := md) [none] v83 hP.mixed hP.tab (fn_at hP fn83) 1 rfl (by decide +kernel) rfl ?_
  intro ar har
  cbv
  repeat' (first | (intro; cbv) | (with_reducible refine and_side ?_ ?_; rotate_left; try cbv) | (refine ChkP.mk (by rfl) ?_; cbv) | (refine br_intro ?_ ?_ <;> intro <;> cbv) | (refine get_at har (by assumption) (by assumption) (by assumption) (by assumption) ?_; cbv) | (refine get_lt har (by assumption) (by assumption) (by assumption) ?_; intro x xx hx hxx; cbv) | (refine get_atN har (by assumption) (by assumption) (by assumption) (by assumption) ?_; cbv) | (refine get_ltN har (by assumption) (by assumption) (by assumption) ?_; intro x xx hx hxx; cbv) | (refine get_atI har (by assumption) (by assumption) (by decide) ?_; cbv) | (refine get_twoA har (by assumption) (by assumption) (by decide) ?_; intro x hx; cbv) | (refine get_twoB har (by assumption) (by assumption) (by decide) ?_; intro x hx; cbv) | (refine bytes_intro (by assumption) ?_; cbv) | (exact side_lt har (by assumption) (by assumption)) | (exact side_inb har (by assumption) (by assumption) (by assumption)) | (exact side_sh har (by decide)) | (exact side_app har (by assumption) (by assumption) (by omega)) | (exact side_app0 har (by assumption) (by omega)) | (exact side_new har (by assumption) (by omega)) | (exact side_one har (by assumption) (by omega)) | (exact side_oneN har (by assumption) (by omega)) | (exact side_flat har (by assumption)) | (exact side_sbig har (by omega)) | (refine side_sbig har ?_; simp; done) | (exact side_oneI har (by assumption) (by omega)) | (refine side_ix har ?_; simp; done) | (refine side_ix har ?_; simp; omega))
  all_goals subst har; simp only [std, icmpS, decide_eq_true_eq, decide_eq_false_iff_not, Bool.not_eq_true', Bool.not_eq_false', bne_iff_ne, ne_eq, bne_eq_false_iff_eq, beq_iff_eq, beq_eq_false_iff_ne, Int.not_lt, Int.not_le, Bool.not_true, Bool.not_false, reduceCtorEq] at *
  · exact ⟨⟨by rw [namedB, decide_eq_true (by omega)], rfl⟩⟩
  · exact ⟨⟨by rw [namedB, decide_eq_true (by omega)], rfl⟩⟩
  · exact ⟨⟨by rw [namedB, decide_eq_true (by omega)], rfl⟩⟩
  · refine ⟨⟨?_, rfl⟩⟩
    rw [namedB]
    by_cases e : t = 12
    · rw [decide_eq_true (by omega)]; simp [e]
    · rw [decide_eq_false (by omega)]; simp [e]
set_option maxRecDepth 20000 in
theorem fn47 : Tryz.prog.funcs[47]? = some Tryz.f47 := rfl
set_option maxHeartbeats 40000000 in
set_option maxRecDepth 3000 in
theorem draw3_w (hP : Prg P) {b : List UInt8} {h ii : Int} {es : List (List T)} (hes : encB b = es) (hii : 0 ≤ ii) : ACall P 47 [.one (.ptr 0 0)] [(0, .box [.t (.sl es), .t (.int .i64 ii), .t (.int .i64 h)] false)]
    (fun r ob => ∃ (n : List (List UInt8)) (ns : List (List T)) (t ttl addr : Int) (to : List (List UInt8)) (tos : List (List T)) (tx : List UInt8) (txs : List (List T)) (nu : List Int) (nus : List (List T)) (ii' h' : Int),
      encN n = ns ∧ NmB n ∧ encN to = tos ∧ NmB to ∧ encB tx = txs ∧ tx.length ≤ 50 ∧ encI nu = nus ∧ nu.length ≤ 2 ∧ (t = 6 → nu.length = 2) ∧ 0 ≤ ii' ∧
        r = .agg [.row 32 0, .t (.int .i64 t), .t (.int .i64 ttl), .t (.int .i64 addr), .row 33 0, .row 34 0, .row 35 0] ∧
        ob = [(0, .box [.t (.sl es), .t (.int .i64 ii'), .t (.int .i64 h')] false), (32, .row 1 ns 0 [0] false), (33, .row 1 tos 0 [0] false), (34, .row 1 txs 0 [0] false), (35, .row 1 nus 0 [0] false)]) := by
  refine acall_fn (md := md) [some [(0, 1), (4, 1), (5, 1), (6, 1)]] v47 hP.mixed hP.tab (fn_at hP fn47) 1 rfl (by decide +kernel) rfl ?_
  intro ar har
  cbv
  repeat' (first | (intro; cbv) | (with_reducible refine and_side ?_ ?_; rotate_left; try cbv) | (refine ChkP.mk (by rfl) ?_; cbv) | (refine br_intro ?_ ?_ <;> intro <;> cbv) | (refine get_at har (by assumption) (by assumption) (by assumption) (by assumption) ?_; cbv) | (refine get_lt har (by assumption) (by assumption) (by assumption) ?_; intro x xx hx hxx; cbv) | (refine get_atN har (by assumption) (by assumption) (by assumption) (by assumption) ?_; cbv) | (refine get_ltN har (by assumption) (by assumption) (by assumption) ?_; intro x xx hx hxx; cbv) | (refine get_atI har (by assumption) (by assumption) (by decide) ?_; cbv) | (refine get_twoA har (by assumption) (by assumption) (by decide) ?_; intro x hx; cbv) | (refine get_twoB har (by assumption) (by assumption) (by decide) ?_; intro x hx; cbv) | (refine bytes_intro (by assumption) ?_; cbv) | (exact side_lt har (by assumption) (by assumption)) | (exact side_inb har (by assumption) (by assumption) (by assumption)) | (exact side_sh har (by decide)) | (exact side_app har (by assumption) (by assumption) (by omega)) | (exact side_app0 har (by assumption) (by omega)) | (exact side_new har (by assumption) (by omega)) | (exact side_one har (by assumption) (by omega)) | (exact side_oneN har (by assumption) (by omega)) | (exact side_flat har (by assumption)) | (exact side_sbig har (by omega)) | (refine side_sbig har ?_; simp; done) | (exact side_oneI har (by assumption) (by omega)) | (refine side_ix har ?_; simp; done) | (refine side_ix har ?_; simp; omega) | (refine call_intro (below_w hP (by assumption) (by omega)) ?_; rintro r ob ⟨v, ii, h, hv0, hv1, hii, rfl, rfl⟩; cbv) | (refine call_intro (pick_w hP (by assumption) (by omega) (by simp) (by simp)) ?_; rintro r ob ⟨v, ii, h, hv, hii, rfl, rfl⟩; cbv) | (refine call_intro (some_w hP (by assumption) (by omega) (by omega)) ?_; rintro r ob ⟨l, ls, ii, h, hl, hn, hii, rfl, rfl⟩; cbv) | (refine call_intro (draw2_w hP (by assumption) (by omega)) ?_; rintro r ob ⟨n, ns, ii, h, hn, hnb, hn6, hii, rfl, rfl⟩; cbv) | (refine call_intro (sNamed hP) ?_; rintro r ob ⟨rfl, rfl⟩; generalize hv : namedB _ = v; cbv) | (refine calld_intro (sNamed hP) ?_; generalize hv : namedB _ = v; cbv))
  all_goals subst har; simp only [std, icmpS, decide_eq_true_eq, decide_eq_false_iff_not, Bool.not_eq_true', Bool.not_eq_false', bne_iff_ne, ne_eq, bne_eq_false_iff_eq, beq_iff_eq, beq_eq_false_iff_ne, Int.not_lt, Int.not_le, Bool.not_true, Bool.not_false, reduceCtorEq] at *
  · exact ⟨⟨_, _, _, _, _, [], _, [], _, [], _, _, _, by assumption, by assumption, rfl, ⟨by simp, by simp⟩, rfl, by simp, rfl, by simp, by omega, by assumption, rfl, rfl⟩⟩
  · rename_i v4 _ _ _ _ _ v5 _ _ _ _ _ _ _ _ _
    exact ⟨⟨_, _, _, _, _, n, _, [], _, [_, _], _, _, _, by assumption, by assumption, hn, hnb, rfl, by simp, rfl, by simp, by simp, by assumption, rfl, rfl⟩⟩
  · exact ⟨⟨_, _, _, _, _, n, _, [], _, [], _, _, _, by assumption, by assumption, hn, hnb, rfl, by simp, rfl, by simp, by omega, by assumption, rfl, rfl⟩⟩
  · rename_i hnm
    exact ⟨⟨_, _, _, _, _, [], _, l, _, [], _, _, _, by assumption, by assumption, rfl, ⟨by simp, by simp⟩, hl, by omega, rfl, by simp, fun e => by subst e; simp_all [namedB], by assumption, rfl, rfl⟩⟩
set_option maxRecDepth 20000 in
theorem fn26 : Tryz.prog.funcs[26]? = some Tryz.f26 := rfl
set_option maxHeartbeats 40000000 in
set_option maxRecDepth 3000 in
theorem bent3_w (hP : Prg P) {b : List UInt8} {h ii : Int} {es : List (List T)} (hes : encB b = es) (hii : 0 ≤ ii) : ACall P 26 [.one (.ptr 0 0)] [(0, .box [.t (.sl es), .t (.int .i64 ii), .t (.int .i64 h)] false)]
    (fun r ob => ∃ (n : List (List UInt8)) (ns : List (List T)) (t ttl addr : Int) (to : List (List UInt8)) (tos : List (List T)) (tx : List UInt8) (txs : List (List T)) (nu : List Int) (nus : List (List T)) (ii' h' : Int),
      encN n = ns ∧ NmB n ∧ encN to = tos ∧ NmB to ∧ encB tx = txs ∧ tx.length ≤ 50 ∧ encI nu = nus ∧ nu.length ≤ 3 ∧ 0 ≤ ii' ∧
        r = .agg [.row 32 0, .t (.int .i64 t), .t (.int .i64 ttl), .t (.int .i64 addr), .row 33 0, .row 34 0, .row 35 0] ∧
        ob = [(0, .box [.t (.sl es), .t (.int .i64 ii'), .t (.int .i64 h')] false), (32, .row 1 ns 0 [0] false), (33, .row 1 tos 0 [0] false), (34, .row 1 txs 0 [0] false), (35, .row 1 nus 0 [0] false)]) := by
  refine acall_fn (md := md) [some [(0, 1), (4, 1), (5, 1), (6, 1)]] v26 hP.mixed hP.tab (fn_at hP fn26) 1 rfl (by decide +kernel) rfl ?_
  intro ar har
  cbv
  repeat' (first | (intro; cbv) | (with_reducible refine and_side ?_ ?_; rotate_left; try cbv) | (refine ChkP.mk (by rfl) ?_; cbv) | (refine br_intro ?_ ?_ <;> intro <;> cbv) | (refine get_at har (by assumption) (by assumption) (by assumption) (by assumption) ?_; cbv) | (refine get_lt har (by assumption) (by assumption) (by assumption) ?_; intro x xx hx hxx; cbv) | (refine get_atN har (by assumption) (by assumption) (by assumption) (by assumption) ?_; cbv) | (refine get_ltN har (by assumption) (by assumption) (by assumption) ?_; intro x xx hx hxx; cbv) | (refine get_atI har (by assumption) (by assumption) (by decide) ?_; cbv) | (refine get_twoA har (by assumption) (by assumption) (by decide) ?_; intro x hx; cbv) | (refine get_twoB har (by assumption) (by assumption) (by decide) ?_; intro x hx; cbv) | (refine bytes_intro (by assumption) ?_; cbv) | (exact side_lt har (by assumption) (by assumption)) | (exact side_inb har (by assumption) (by assumption) (by assumption)) | (exact side_sh har (by decide)) | (exact side_app har (by assumption) (by assumption) (by omega)) | (exact side_app0 har (by assumption) (by omega)) | (exact side_new har (by assumption) (by omega)) | (exact side_one har (by assumption) (by omega)) | (exact side_oneN har (by assumption) (by omega)) | (exact side_flat har (by assumption)) | (exact side_sbig har (by omega)) | (refine side_sbig har ?_; simp; done) | (exact side_oneI har (by assumption) (by omega)) | (refine side_ix har ?_; simp; done) | (refine side_ix har ?_; simp; omega) | (refine call_intro (below_w hP (by assumption) (by omega)) ?_; rintro r ob ⟨v, ii, h, hv0, hv1, hii, rfl, rfl⟩; cbv) | (refine call_intro (pick_w hP (by assumption) (by omega) (by simp) (by simp)) ?_; rintro r ob ⟨v, ii, h, hv, hii, rfl, rfl⟩; cbv) | (refine call_intro (once_w hP (by assumption) (by omega)) ?_; rintro r ob ⟨v, ii, h, hii, rfl, rfl⟩; cbv) | (refine call_intro (draw3_w hP (by assumption) (by omega)) ?_; rintro r ob ⟨n, ns, t, ttl, addr, to, tos, tx, txs, nu, nus, ii, h, hn, hnb, hto, htob, htx, htxl, hnu, hnul, hnu6, hii, rfl, rfl⟩; cbv) | (refine call_intro (bent2_w hP (by assumption) (by omega)) ?_; rintro r ob ⟨n, ns, ii, h, hn, hnb, hii, rfl, rfl⟩; cbv))
  iterate 5
    · exact ⟨⟨_, _, _, _, _, _, _, _, _, _, _, _, _, by assumption, by assumption, by assumption, by assumption, by assumption, by assumption, by assumption, by omega, by assumption, rfl, rfl⟩⟩
  · subst har
    refine ⟨⟨_, _, _, _, _, _, _, List.replicate (iopS .add .i64 40 v).toNat 0, _, _, _, _, _, by assumption, by assumption, by assumption, by assumption, ?_, ?_, by assumption, by omega, by assumption, rfl, rfl⟩⟩
    · simp [encB, std]
    · rw [addI (by omega) (by omega)]; simp; omega
  · have e : ar.iop .add .i64 40 v = 40 + v := add_std har (by omega) (by omega)
    exact side_make har (Int.le_trans (show 0 ≤ 40 + v by omega) (Int.le_of_eq e.symm)) (Int.le_trans (Int.le_of_eq e) (by omega))
  · obtain ⟨v2, ii2, h2, hii2, hv2, hc⟩ := below_d (P := P) (h := h) (n := 5) hP hes hii
    refine calld_intro hc ?_
    cbv
    repeat' (first | (intro; cbv) | (with_reducible refine and_side ?_ ?_; rotate_left; try cbv) | (refine ChkP.mk (by rfl) ?_; cbv) | (refine br_intro ?_ ?_ <;> intro <;> cbv) | (refine get_at har (by assumption) (by assumption) (by assumption) (by assumption) ?_; cbv) | (refine get_lt har (by assumption) (by assumption) (by assumption) ?_; intro x xx hx hxx; cbv) | (refine get_atN har (by assumption) (by assumption) (by assumption) (by assumption) ?_; cbv) | (refine get_ltN har (by assumption) (by assumption) (by assumption) ?_; intro x xx hx hxx; cbv) | (refine get_atI har (by assumption) (by assumption) (by decide) ?_; cbv) | (refine get_twoA har (by assumption) (by assumption) (by decide) ?_; intro x hx; cbv) | (refine get_twoB har (by assumption) (by assumption) (by decide) ?_; intro x hx; cbv) | (refine bytes_intro (by assumption) ?_; cbv) | (exact side_lt har (by assumption) (by assumption)) | (exact side_inb har (by assumption) (by assumption) (by assumption)) | (exact side_sh har (by decide)) | (exact side_app har (by assumption) (by assumption) (by omega)) | (exact side_app0 har (by assumption) (by omega)) | (exact side_new har (by assumption) (by omega)) | (exact side_one har (by assumption) (by omega)) | (exact side_oneN har (by assumption) (by omega)) | (exact side_flat har (by assumption)) | (exact side_sbig har (by omega)) | (refine side_sbig har ?_; simp; done) | (exact side_oneI har (by assumption) (by omega)) | (refine side_ix har ?_; simp; done) | (refine side_ix har ?_; simp; omega))
    subst har
    exact ⟨⟨_, _, _, _, _, _, _, _, _, nu ++ [v2], _, _, _, by assumption, by assumption, by assumption, by assumption, by assumption, by assumption, encI_app hnu rfl, by simp; omega, by assumption, rfl, rfl⟩⟩
  · exact ⟨⟨_, _, _, _, _, _, _, _, _, _, _, _, _, by assumption, by assumption, by assumption, by assumption, by assumption, by assumption, by assumption, by omega, by assumption, rfl, rfl⟩⟩
set_option maxRecDepth 20000 in
theorem fn5 : Tryz.prog.funcs[5]? = some Tryz.f5 := rfl
set_option maxHeartbeats 40000000 in
set_option maxRecDepth 3000 in
theorem drawRrPut_w (hP : Prg P) {code : List UInt8} {es : List (List T)} (hes : encB code = es) : ACall P 5 [.one (.t (.sl es))] []
    (fun r ob => ∃ (l : List UInt8) (ls : List (List T)) (n : List (List UInt8)) (ns : List (List T)) (t ttl addr : Int) (to : List (List UInt8)) (tos : List (List T)) (tx : List UInt8) (txs : List (List T)) (nu : List Int) (nus : List (List T)),
      encB l = ls ∧ l.length ≤ 3 ∧ encN n = ns ∧ NmB n ∧ encN to = tos ∧ NmB to ∧ encB tx = txs ∧ tx.length ≤ 50 ∧ encI nu = nus ∧ nu.length ≤ 3 ∧
        r = .tup [.one (.t (.sl ls)), .agg [.t (.sl ns), .t (.int .i64 t), .t (.int .i64 ttl), .t (.int .i64 addr), .t (.sl tos), .t (.sl txs), .t (.sl nus)]] ∧ ob = []) := by
  refine acall_fn (md := md) [none, none] v5 hP.mixed hP.tab (fn_at hP fn5) 1 rfl (by decide +kernel) rfl ?_
  intro ar har
  cbv
  repeat' (first | (intro; cbv) | (with_reducible refine and_side ?_ ?_; rotate_left; try cbv) | (refine ChkP.mk (by rfl) ?_; cbv) | (refine br_intro ?_ ?_ <;> intro <;> cbv) | (refine get_at har (by assumption) (by assumption) (by assumption) (by assumption) ?_; cbv) | (refine get_lt har (by assumption) (by assumption) (by assumption) ?_; intro x xx hx hxx; cbv) | (refine get_atN har (by assumption) (by assumption) (by assumption) (by assumption) ?_; cbv) | (refine get_ltN har (by assumption) (by assumption) (by assumption) ?_; intro x xx hx hxx; cbv) | (refine get_atI har (by assumption) (by assumption) (by decide) ?_; cbv) | (refine get_twoA har (by assumption) (by assumption) (by decide) ?_; intro x hx; cbv) | (refine get_twoB har (by assumption) (by assumption) (by decide) ?_; intro x hx; cbv) | (refine bytes_intro (by assumption) ?_; cbv) | (exact side_lt har (by assumption) (by assumption)) | (exact side_inb har (by assumption) (by assumption) (by assumption)) | (exact side_sh har (by decide)) | (exact side_app har (by assumption) (by assumption) (by omega)) | (exact side_app0 har (by assumption) (by omega)) | (exact side_new har (by assumption) (by omega)) | (exact side_one har (by assumption) (by omega)) | (exact side_oneN har (by assumption) (by omega)) | (exact side_flat har (by assumption)) | (exact side_sbig har (by omega)) | (refine side_sbig har ?_; simp; done) | (exact side_oneI har (by assumption) (by omega)) | (refine side_ix har ?_; simp; done) | (refine side_ix har ?_; simp; omega) | (refine call_intro (new_w hP (by assumption)) ?_; rintro r ob ⟨h, rfl, rfl⟩; cbv) | (refine call_intro (some_w hP (by assumption) (by omega) (by omega)) ?_; rintro r ob ⟨l, ls, ii, h, hl, hn, hii, rfl, rfl⟩; cbv) | (refine call_intro (bent3_w hP (by assumption) (by omega)) ?_; rintro r ob ⟨n, ns, t, ttl, addr, to, tos, tx, txs, nu, nus, ii, h, hn, hnb, hto, htob, htx, htxl, hnu, hnul, hii, rfl, rfl⟩; cbv))
  exact ⟨⟨_, _, _, _, _, _, _, _, _, _, _, _, _, by assumption, by omega, by assumption, by assumption, by assumption, by assumption, by assumption, by assumption, by assumption, by assumption, rfl, rfl⟩⟩
end Go.TL.Tryz

/- TfPutT -/
namespace Go.TL.Tryz
open Go Go.TL Go.Proofs
variable {P : Program}

structure Rec where
  name : List (List UInt8)
  type : Int
  ttl : Int
  addr : Int
  to : List (List UInt8)
  text : List UInt8
  nums : List Int
def dataS (t addr : Int) (to : List (List UInt8)) (tx : List UInt8) (nu : List Int) : List UInt8 :=
  if t = 1 then put32 addr else if t = 6 then wireN to ++ put32 (nu.getD 0 0) ++ put32 (nu.getD 1 0) else if namedB t then wireN to else byteOf tx.length :: tx
theorem wireN_len {n : List (List UInt8)} (h : NmB n) : (wireN n).length ≤ 200 := by
  have : ∀ m : List (List UInt8), (∀ l ∈ m, l.length ≤ 16) → (m.flatMap wireL).length ≤ 17 * m.length := by
    intro m
    induction m with
    | nil => simp
    | cons x r ih => intro h; have h1 := h x (.head _); have h2 := ih fun l hl => h l (.tail _ hl); simp [wireL] at *; omega
  have h1 := this n h.2
  have h2 := h.1
  simp only [wireN, List.length_append, List.length_singleton]; omega
theorem put16_len (n : Int) : (put16 n).length ≤ 2 := by unfold put16; split <;> simp
theorem put32_len (n : Int) : (put32 n).length ≤ 4 := by unfold put32; split <;> simp
set_option maxRecDepth 20000 in
theorem fn101 : Tryz.prog.funcs[101]? = some Tryz.f101 := rfl
set_option maxHeartbeats 40000000 in
set_option maxRecDepth 3000 in
theorem sl3put (hP : Prg P) {to : List (List UInt8)} {ns tos txs nus : List (List T)} {t ttl addr : Int} {tx : List UInt8} {nu : List Int} (hto : encN to = tos) (htob : NmB to) (htx : encB tx = txs) (htxl : tx.length ≤ 1000) (hnu : encI nu = nus) (hnu6 : t = 6 → nu.length = 2) :
    ACall P 101 [.agg [.t (.sl ns), .t (.int .i64 t), .t (.int .i64 ttl), .t (.int .i64 addr), .t (.sl tos), .t (.sl txs), .t (.sl nus)]] []
      (fun r ob => r = .one (.row 32 0) ∧ ob = [(32, .row 1 (encB (dataS t addr to tx nu)) 0 [0] false)]) := by
  have hnil : encB [] = [] := rfl
  refine acall_fn (md := md) [some [(0, 1)]] v101 hP.mixed hP.tab (fn_at hP fn101) 1 rfl (by decide +kernel) rfl ?_
  intro ar har
  cbv
  have hw := wireN_len htob
  repeat' (first | (intro; cbv) | (with_reducible refine and_side ?_ ?_; rotate_left; try cbv) | (refine ChkP.mk (by rfl) ?_; cbv) | (refine br_intro ?_ ?_ <;> intro <;> cbv) | (refine get_at har (by assumption) (by assumption) (by assumption) (by assumption) ?_; cbv) | (refine get_lt har (by assumption) (by assumption) (by assumption) ?_; intro x xx hx hxx; cbv) | (refine get_atN har (by assumption) (by assumption) (by assumption) (by assumption) ?_; cbv) | (refine get_ltN har (by assumption) (by assumption) (by assumption) ?_; intro x xx hx hxx; cbv) | (refine get_atI har (by assumption) (by assumption) (by decide) ?_; cbv) | (refine get_twoA har (by assumption) (by assumption) (by decide) ?_; intro x hx; cbv) | (refine get_twoB har (by assumption) (by assumption) (by decide) ?_; intro x hx; cbv) | (refine bytes_intro (by assumption) ?_; cbv) | (exact side_lt har (by assumption) (by assumption)) | (exact side_inb har (by assumption) (by assumption) (by assumption)) | (exact side_sh har (by decide)) | (exact side_app har (by assumption) (by assumption) (by omega)) | (exact side_app0 har (by assumption) (by omega)) | (exact side_new har (by assumption) (by omega)) | (exact side_one har (by assumption) (by omega)) | (exact side_oneN har (by assumption) (by omega)) | (exact side_flat har (by assumption)) | (exact side_sbig har (by omega)) | (refine side_sbig har ?_; simp; done) | (exact side_oneI har (by assumption) (by omega)) | (refine side_ix har ?_; simp; done) | (refine side_ix har ?_; simp; omega) | (refine call_intro (sPut32 hP (by assumption) (by first | omega | decide | (simp only [List.length_append, List.length_nil]; omega))) ?_; rintro r ob ⟨rfl, rfl⟩; generalize hls : encB (_ ++ put32 _) = ls; cbv) | (refine calld_intro (sPut32 hP (by assumption) (by first | omega | decide | (simp only [List.length_append, List.length_nil]; omega))) ?_; generalize hls : encB (_ ++ put32 _) = ls; cbv) | (refine call_intro (sl2put hP (by assumption) (by assumption) (by first | omega | decide | (simp only [List.length_append, List.length_nil]; omega)) (by assumption)) ?_; rintro r ob ⟨rfl, rfl⟩; generalize hls : encB (_ ++ wireN _) = ls; cbv) | (refine calld_intro (sl2put hP (by assumption) (by assumption) (by first | omega | decide | (simp only [List.length_append, List.length_nil]; omega)) (by assumption)) ?_; generalize hls : encB (_ ++ wireN _) = ls; cbv) | (refine call_intro (sNamed hP) ?_; rintro r ob ⟨rfl, rfl⟩; generalize hv : namedB _ = v; cbv) | (refine calld_intro (sNamed hP) ?_; generalize hv : namedB _ = v; cbv))
  · subst har; simp only [std, icmpS, decide_eq_true_eq, decide_eq_false_iff_not, Bool.not_eq_true', Bool.not_eq_false', bne_iff_ne, ne_eq, bne_eq_false_iff_eq, beq_iff_eq, beq_eq_false_iff_ne, Int.not_lt, Int.not_le, Bool.not_true, Bool.not_false, reduceCtorEq] at *
    rename_i h1
    exact ⟨⟨rfl, by rw [dataS, if_pos h1, ← hls]; rfl⟩⟩
  · have h6 : t = 6 := by subst har; simp [std, icmpS] at *; assumption
    obtain ⟨x, y, rfl⟩ : ∃ x y, nu = [x, y] := by
      match nu, hnu6 h6 with
      | [x, y], _ => exact ⟨x, y, rfl⟩
    have hx4 := put32_len x
    refine get_int har hnu ⟨by decide, by simp⟩ ?_
    intro z hz
    simp at hz; subst hz
    cbv
    repeat' (first | (intro; cbv) | (with_reducible refine and_side ?_ ?_; rotate_left; try cbv) | (refine ChkP.mk (by rfl) ?_; cbv) | (refine br_intro ?_ ?_ <;> intro <;> cbv) | (refine get_at har (by assumption) (by assumption) (by assumption) (by assumption) ?_; cbv) | (refine get_lt har (by assumption) (by assumption) (by assumption) ?_; intro x xx hx hxx; cbv) | (refine get_atN har (by assumption) (by assumption) (by assumption) (by assumption) ?_; cbv) | (refine get_ltN har (by assumption) (by assumption) (by assumption) ?_; intro x xx hx hxx; cbv) | (refine get_atI har (by assumption) (by assumption) (by decide) ?_; cbv) | (refine get_twoA har (by assumption) (by assumption) (by decide) ?_; intro x hx; cbv) | (refine get_twoB har (by assumption) (by assumption) (by decide) ?_; intro x hx; cbv) | (refine bytes_intro (by assumption) ?_; cbv) | (exact side_lt har (by assumption) (by assumption)) | (exact side_inb har (by assumption) (by assumption) (by assumption)) | (exact side_sh har (by decide)) | (exact side_app har (by assumption) (by assumption) (by omega)) | (exact side_app0 har (by assumption) (by omega)) | (exact side_new har (by assumption) (by omega)) | (exact side_one har (by assumption) (by omega)) | (exact side_oneN har (by assumption) (by omega)) | (exact side_flat har (by assumption)) | (exact side_sbig har (by omega)) | (refine side_sbig har ?_; simp; done) | (exact side_oneI har (by assumption) (by omega)) | (refine side_ix har ?_; simp; done) | (refine side_ix har ?_; simp; omega) | (refine call_intro (sPut32 hP (by assumption) (by first | omega | decide | (simp only [List.length_append, List.length_nil]; omega))) ?_; rintro r ob ⟨rfl, rfl⟩; generalize hls : encB (_ ++ put32 _) = ls; cbv) | (refine calld_intro (sPut32 hP (by assumption) (by first | omega | decide | (simp only [List.length_append, List.length_nil]; omega))) ?_; generalize hls : encB (_ ++ put32 _) = ls; cbv))
    refine get_int har hnu ⟨by decide, by simp⟩ ?_
    intro z hz
    simp at hz; subst hz
    cbv
    repeat' (first | (intro; cbv) | (with_reducible refine and_side ?_ ?_; rotate_left; try cbv) | (refine ChkP.mk (by rfl) ?_; cbv) | (refine br_intro ?_ ?_ <;> intro <;> cbv) | (refine get_at har (by assumption) (by assumption) (by assumption) (by assumption) ?_; cbv) | (refine get_lt har (by assumption) (by assumption) (by assumption) ?_; intro x xx hx hxx; cbv) | (refine get_atN har (by assumption) (by assumption) (by assumption) (by assumption) ?_; cbv) | (refine get_ltN har (by assumption) (by assumption) (by assumption) ?_; intro x xx hx hxx; cbv) | (refine get_atI har (by assumption) (by assumption) (by decide) ?_; cbv) | (refine get_twoA har (by assumption) (by assumption) (by decide) ?_; intro x hx; cbv) | (refine get_twoB har (by assumption) (by assumption) (by decide) ?_; intro x hx; cbv) | (refine bytes_intro (by assumption) ?_; cbv) | (exact side_lt har (by assumption) (by assumption)) | (exact side_inb har (by assumption) (by assumption) (by assumption)) | (exact side_sh har (by decide)) | (exact side_app har (by assumption) (by assumption) (by omega)) | (exact side_app0 har (by assumption) (by omega)) | (exact side_new har (by assumption) (by omega)) | (exact side_one har (by assumption) (by omega)) | (exact side_oneN har (by assumption) (by omega)) | (exact side_flat har (by assumption)) | (exact side_sbig har (by omega)) | (refine side_sbig har ?_; simp; done) | (exact side_oneI har (by assumption) (by omega)) | (refine side_ix har ?_; simp; done) | (refine side_ix har ?_; simp; omega) | (refine call_intro (sPut32 hP (by assumption) (by first | omega | decide | (simp only [List.length_append, List.length_nil]; omega))) ?_; rintro r ob ⟨rfl, rfl⟩; generalize hls : encB (_ ++ put32 _) = ls; cbv) | (refine calld_intro (sPut32 hP (by assumption) (by first | omega | decide | (simp only [List.length_append, List.length_nil]; omega))) ?_; generalize hls : encB (_ ++ put32 _) = ls; cbv))
    subst har
    refine ⟨⟨rfl, ?_⟩⟩
    subst h6
    rw [← hls]; rfl
  · subst har; simp only [std, icmpS, decide_eq_true_eq, decide_eq_false_iff_not, Bool.not_eq_true', Bool.not_eq_false', bne_iff_ne, ne_eq, bne_eq_false_iff_eq, beq_iff_eq, beq_eq_false_iff_ne, Int.not_lt, Int.not_le, Bool.not_true, Bool.not_false, reduceCtorEq] at *
    exact ⟨⟨rfl, by rw [dataS, if_neg (by assumption), if_neg (by assumption), hv, if_pos (by assumption), ← hls]; rfl⟩⟩
  · have e := enc_wireL har hnil htx
    rename_i h1 h2 h3 _ _
    refine ⟨⟨rfl, ?_⟩⟩
    have e2 : encB (dataS t addr to tx nu) = encB (wireL tx) := by
      rw [dataS, if_neg (by subst har; simpa [std, icmpS] using h1), if_neg (by subst har; simpa [std, icmpS] using h2), hv, if_neg (by rw [h3]; simp)]; rfl
    rw [e2]
    refine congrArg (fun x => [(32, Ob.row 1 x 0 [0] false)]) (Eq.trans ?_ e)
    subst har; rfl
  · refine side_byL (l := [byteOf tx.length]) har (enc_len har htx).symm (by subst har; rfl) htx (by simp; omega)
theorem dataS_len {t addr : Int} {to : List (List UInt8)} {tx : List UInt8} {nu : List Int} (h : NmB to) (hx : tx.length ≤ 1000) : (dataS t addr to tx nu).length ≤ 1001 := by
  have h1 := wireN_len h
  have h2 := put32_len addr
  have h3 := put32_len (nu.getD 0 0)
  have h4 := put32_len (nu.getD 1 0)
  unfold dataS
  split
  · omega
  · split
    · simp only [List.length_append]; omega
    · split
      · omega
      · simp; omega
def rrS (n : List (List UInt8)) (t ttl cls : Int) (d : List UInt8) : List UInt8 := wireN n ++ put16 t ++ put16 cls ++ put32 ttl ++ put16 d.length ++ d
set_option maxRecDepth 20000 in
theorem fn46 : Tryz.prog.funcs[46]? = some Tryz.f46 := rfl
set_option maxHeartbeats 40000000 in
set_option maxRecDepth 3000 in
theorem sl3rr (hP : Prg P) {l : List UInt8} {n to : List (List UInt8)} {ls ns tos txs nus : List (List T)} {t ttl addr cls : Int} {tx : List UInt8} {nu : List Int} (hl : encB l = ls) (hll : l.length ≤ 10000) (hn : encN n = ns) (hnb : NmB n) (hto : encN to = tos) (htob : NmB to) (htx : encB tx = txs) (htxl : tx.length ≤ 1000) (hnu : encI nu = nus) (hnu6 : t = 6 → nu.length = 2) :
    ACall P 46 [.one (.row 0 0), .agg [.t (.sl ns), .t (.int .i64 t), .t (.int .i64 ttl), .t (.int .i64 addr), .t (.sl tos), .t (.sl txs), .t (.sl nus)], .one (.t (.int .i64 cls))] [(0, .row 1 ls 0 [0] false)]
      (fun r ob => ∃ ls1 ls', r = .one (.row 32 0) ∧ ob = [(0, .row 1 ls1 0 [0] false), (32, .row 1 ls' 0 [0] false)] ∧ encB (l ++ rrS n t ttl cls (dataS t addr to tx nu)) = ls') := by
  refine acall_fn (md := md) [some [(0, 1)]] v46 hP.mixed hP.tab (fn_at hP fn46) 3 rfl (by decide +kernel) rfl ?_
  intro ar har
  cbv
  have hw := wireN_len hnb
  have hd := dataS_len (t := t) (addr := addr) (nu := nu) htob htxl
  have p1 := put16_len t
  have p2 := put16_len cls
  have p3 := put32_len ttl
  repeat' (first | (intro; cbv) | (with_reducible refine and_side ?_ ?_; rotate_left; try cbv) | (refine ChkP.mk (by rfl) ?_; cbv) | (refine br_intro ?_ ?_ <;> intro <;> cbv) | (refine get_at har (by assumption) (by assumption) (by assumption) (by assumption) ?_; cbv) | (refine get_lt har (by assumption) (by assumption) (by assumption) ?_; intro x xx hx hxx; cbv) | (refine get_atN har (by assumption) (by assumption) (by assumption) (by assumption) ?_; cbv) | (refine get_ltN har (by assumption) (by assumption) (by assumption) ?_; intro x xx hx hxx; cbv) | (refine get_atI har (by assumption) (by assumption) (by decide) ?_; cbv) | (refine get_twoA har (by assumption) (by assumption) (by decide) ?_; intro x hx; cbv) | (refine get_twoB har (by assumption) (by assumption) (by decide) ?_; intro x hx; cbv) | (refine bytes_intro (by assumption) ?_; cbv) | (exact side_lt har (by assumption) (by assumption)) | (exact side_inb har (by assumption) (by assumption) (by assumption)) | (exact side_sh har (by decide)) | (exact side_app har (by assumption) (by assumption) (by omega)) | (exact side_app0 har (by assumption) (by omega)) | (exact side_new har (by assumption) (by omega)) | (exact side_one har (by assumption) (by omega)) | (exact side_oneN har (by assumption) (by omega)) | (exact side_flat har (by assumption)) | (exact side_sbig har (by omega)) | (refine side_sbig har ?_; simp; done) | (exact side_oneI har (by assumption) (by omega)) | (refine side_ix har ?_; simp; done) | (refine side_ix har ?_; simp; omega) | (refine call_intro (sl3put hP (by assumption) (by assumption) (by assumption) (by omega) (by assumption) (by first | assumption | omega)) ?_; rintro r ob ⟨rfl, rfl⟩; generalize hld : encB (dataS _ _ _ _ _) = ld; cbv) | (refine calld_intro (sl3put hP (by assumption) (by assumption) (by assumption) (by omega) (by assumption) (by first | assumption | omega)) ?_; generalize hld : encB (dataS _ _ _ _ _) = ld; cbv) | (refine call_intro (sl2put hP (by assumption) (by assumption) (by first | omega | decide | (simp only [List.length_append, List.length_nil]; omega)) (by assumption)) ?_; rintro r ob ⟨rfl, rfl⟩; generalize hls : encB (_ ++ wireN _) = ls; cbv) | (refine calld_intro (sl2put hP (by assumption) (by assumption) (by first | omega | decide | (simp only [List.length_append, List.length_nil]; omega)) (by assumption)) ?_; generalize hls : encB (_ ++ wireN _) = ls; cbv) | (refine call_intro (sPut16 hP (by assumption) (by first | omega | decide | (simp only [List.length_append, List.length_nil]; omega))) ?_; rintro r ob ⟨rfl, rfl⟩; generalize hls : encB (_ ++ put16 _) = ls; cbv) | (refine calld_intro (sPut16 hP (by assumption) (by first | omega | decide | (simp only [List.length_append, List.length_nil]; omega))) ?_; generalize hls : encB (_ ++ put16 _) = ls; cbv) | (refine call_intro (sPut32 hP (by assumption) (by first | omega | decide | (simp only [List.length_append, List.length_nil]; omega))) ?_; rintro r ob ⟨rfl, rfl⟩; generalize hls : encB (_ ++ put32 _) = ls; cbv) | (refine calld_intro (sPut32 hP (by assumption) (by first | omega | decide | (simp only [List.length_append, List.length_nil]; omega))) ?_; generalize hls : encB (_ ++ put32 _) = ls; cbv))
  · have hlen := encB_len hld
    subst har
    refine ⟨⟨_, _, rfl, rfl, ?_⟩⟩
    rw [← hls, ← hld]
    simp [rrS, encB, std, List.append_assoc]
  · have q := put16_len (ar.len ld)
    refine side_byL har hls (by subst har; rfl) hld ?_
    simp only [List.length_append]; omega
end Go.TL.Tryz

/- TfImN -/
namespace Go.TL.Tryz
open Go Go.TL Go.Proofs
variable {P : Program}

def withinB (a b c : Int) : Bool := decide (b ≤ a ∧ a ≤ c)
set_option maxRecDepth 20000 in
theorem fn33 : Tryz.prog.funcs[33]? = some Tryz.f33 := rfl
set_option maxHeartbeats 40000000 in
set_option maxRecDepth 3000 in
theorem iWithin (hP : Prg P) {a b c : Int} : ACall P 33 [.one (.t (.int .i64 a)), .one (.t (.int .i64 b)), .one (.t (.int .i64 c))] [] (fun r ob => r = .one (.t (.bool (withinB a b c))) ∧ ob = []) := by
  refine acall_fn (md := md) [none] v33 hP.mixed hP.tab (fn_at hP fn33) 3 rfl (by decide +kernel) rfl ?_
  intro ar har
  cbv
  repeat' (first | (intro; cbv) | (with_reducible refine and_side ?_ ?_; rotate_left; try cbv) | (refine ChkP.mk (by rfl) ?_; cbv) | (refine br_intro ?_ ?_ <;> intro <;> cbv) | (refine get_at har (by assumption) (by assumption) (by assumption) (by assumption) ?_; cbv) | (refine get_lt har (by assumption) (by assumption) (by assumption) ?_; intro x xx hx hxx; cbv) | (refine get_atN har (by assumption) (by assumption) (by assumption) (by assumption) ?_; cbv) | (refine get_ltN har (by assumption) (by assumption) (by assumption) ?_; intro x xx hx hxx; cbv) | (refine get_atI har (by assumption) (by assumption) (by decide) ?_; cbv) | (refine get_twoA har (by assumption) (by assumption) (by decide) ?_; intro x hx; cbv) | (refine get_twoB har (by assumption) (by assumption) (by decide) ?_; intro x hx; cbv) | (refine bytes_intro (by assumption) ?_; cbv) | (exact side_lt har (by assumption) (by assumption)) | (exact side_inb har (by assumption) (by assumption) (by assumption)) | (exact side_sh har (by decide)) | (exact side_app har (by assumption) (by assumption) (by omega)) | (exact side_app0 har (by assumption) (by omega)) | (exact side_new har (by assumption) (by omega)) | (exact side_one har (by assumption) (by omega)) | (exact side_oneN har (by assumption) (by omega)) | (exact side_flat har (by assumption)) | (exact side_sbig har (by omega)) | (refine side_sbig har ?_; simp; done) | (exact side_oneI har (by assumption) (by omega)) | (refine side_ix har ?_; simp; done) | (refine side_ix har ?_; simp; omega))
  all_goals subst har; simp only [std, icmpS, decide_eq_true_eq, decide_eq_false_iff_not, Bool.not_eq_true', Bool.not_eq_false', bne_iff_ne, ne_eq, bne_eq_false_iff_eq, beq_iff_eq, beq_eq_false_iff_ne, Int.not_lt, Int.not_le, Bool.not_true, Bool.not_false, reduceCtorEq] at *
  · refine ⟨⟨?_, rfl⟩⟩
    rw [withinB]; congr 3; simp; omega
  · exact ⟨⟨by rw [withinB, decide_eq_false (by omega)], rfl⟩⟩
set_option maxRecDepth 20000 in
theorem fn146 : Tryz.prog.funcs[146]? = some Tryz.f146 := rfl
set_option maxHeartbeats 40000000 in
set_option maxRecDepth 3000 in
theorem iCh (hP : Prg P) {a : Int} : ACall P 146 [.one (.t (.int .u8 a))] [] (fun r ob => r = .one (.t (.bool (chOk a))) ∧ ob = []) := by
  refine acall_fn (md := md) [none] v146 hP.mixed hP.tab (fn_at hP fn146) 1 rfl (by decide +kernel) rfl ?_
  intro ar har
  cbv
  repeat' (first | (intro; cbv) | (with_reducible refine and_side ?_ ?_; rotate_left; try cbv) | (refine ChkP.mk (by rfl) ?_; cbv) | (refine br_intro ?_ ?_ <;> intro <;> cbv) | (refine get_at har (by assumption) (by assumption) (by assumption) (by assumption) ?_; cbv) | (refine get_lt har (by assumption) (by assumption) (by assumption) ?_; intro x xx hx hxx; cbv) | (refine get_atN har (by assumption) (by assumption) (by assumption) (by assumption) ?_; cbv) | (refine get_ltN har (by assumption) (by assumption) (by assumption) ?_; intro x xx hx hxx; cbv) | (refine get_atI har (by assumption) (by assumption) (by decide) ?_; cbv) | (refine get_twoA har (by assumption) (by assumption) (by decide) ?_; intro x hx; cbv) | (refine get_twoB har (by assumption) (by assumption) (by decide) ?_; intro x hx; cbv) | (refine bytes_intro (by assumption) ?_; cbv) | (exact side_lt har (by assumption) (by assumption)) | (exact side_inb har (by assumption) (by assumption) (by assumption)) | (exact side_sh har (by decide)) | (exact side_app har (by assumption) (by assumption) (by omega)) | (exact side_app0 har (by assumption) (by omega)) | (exact side_new har (by assumption) (by omega)) | (exact side_one har (by assumption) (by omega)) | (exact side_oneN har (by assumption) (by omega)) | (exact side_flat har (by assumption)) | (exact side_sbig har (by omega)) | (refine side_sbig har ?_; simp; done) | (exact side_oneI har (by assumption) (by omega)) | (refine side_ix har ?_; simp; done) | (refine side_ix har ?_; simp; omega))
  all_goals subst har; simp only [std, icmpS, decide_eq_true_eq, decide_eq_false_iff_not, Bool.not_eq_true', Bool.not_eq_false', bne_iff_ne, ne_eq, bne_eq_false_iff_eq, beq_iff_eq, beq_eq_false_iff_ne, Int.not_lt, Int.not_le, Bool.not_true, Bool.not_false, reduceCtorEq] at *
  all_goals refine ⟨⟨?_, rfl⟩⟩
  all_goals rw [chOk]
  all_goals first
    | (rw [decide_eq_true (by omega)]; done)
    | (by_cases e : a = 45
       · rw [decide_eq_true (by omega)]; simp [e]
       · rw [decide_eq_false (by omega)]; simp [e])
abbrev fCh : T := .fn (.func 178) [] [.pt [.fn (.func 146) [] []] 0]
set_option maxRecDepth 20000 in
theorem fn178 : Tryz.prog.funcs[178]? = some Tryz.f178 := rfl
set_option maxHeartbeats 40000000 in
set_option maxRecDepth 3000 in
theorem iAllB1 (hP : Prg P) {a : Int} : ACall P 178 [.one (.t (.int .u8 a)), .one (.t (.pt [.fn (.func 146) [] []] 0))] [] (fun r ob => r = .one (.t (.bool (!chOk a))) ∧ ob = []) := by
  refine acall_fn (md := md) [none] v178 hP.mixed hP.tab (fn_at hP fn178) 2 rfl (by decide +kernel) rfl ?_
  intro ar har
  cbv
  repeat' (first | (intro; cbv) | (with_reducible refine and_side ?_ ?_; rotate_left; try cbv) | (refine ChkP.mk (by rfl) ?_; cbv) | (refine br_intro ?_ ?_ <;> intro <;> cbv) | (refine get_at har (by assumption) (by assumption) (by assumption) (by assumption) ?_; cbv) | (refine get_lt har (by assumption) (by assumption) (by assumption) ?_; intro x xx hx hxx; cbv) | (refine get_atN har (by assumption) (by assumption) (by assumption) (by assumption) ?_; cbv) | (refine get_ltN har (by assumption) (by assumption) (by assumption) ?_; intro x xx hx hxx; cbv) | (refine get_atI har (by assumption) (by assumption) (by decide) ?_; cbv) | (refine get_twoA har (by assumption) (by assumption) (by decide) ?_; intro x hx; cbv) | (refine get_twoB har (by assumption) (by assumption) (by decide) ?_; intro x hx; cbv) | (refine bytes_intro (by assumption) ?_; cbv) | (exact side_lt har (by assumption) (by assumption)) | (exact side_inb har (by assumption) (by assumption) (by assumption)) | (exact side_sh har (by decide)) | (exact side_app har (by assumption) (by assumption) (by omega)) | (exact side_app0 har (by assumption) (by omega)) | (exact side_new har (by assumption) (by omega)) | (exact side_one har (by assumption) (by omega)) | (exact side_oneN har (by assumption) (by omega)) | (exact side_flat har (by assumption)) | (exact side_sbig har (by omega)) | (refine side_sbig har ?_; simp; done) | (exact side_oneI har (by assumption) (by omega)) | (refine side_ix har ?_; simp; done) | (refine side_ix har ?_; simp; omega) | (refine call_intro (iCh hP) ?_; rintro r ob ⟨rfl, rfl⟩; generalize hch : chOk _ = ch; cbv) | (refine calld_intro (iCh hP) ?_; generalize hch : chOk _ = ch; cbv))
  subst har; simp only [std, icmpS, decide_eq_true_eq, decide_eq_false_iff_not, Bool.not_eq_true', Bool.not_eq_false', bne_iff_ne, ne_eq, bne_eq_false_iff_eq, beq_iff_eq, beq_eq_false_iff_ne, Int.not_lt, Int.not_le, Bool.not_true, Bool.not_false, reduceCtorEq] at *
  exact ⟨⟨by first | rfl | rw [hch], rfl⟩⟩
set_option maxRecDepth 20000 in
theorem fn197 : Tryz.prog.funcs[197]? = some Tryz.f197 := rfl
set_option maxHeartbeats 40000000 in
set_option maxRecDepth 3000 in
theorem iIdxB (hP : Prg P) {l : List UInt8} {ls : List (List T)} (hl : encB l = ls) : ACall P 197 [.one (.t (.sl ls)), .one (.t (.fn (.func 178) [] [.pt [.fn (.func 146) [] []] 0]))] []
    (fun r ob => ∃ v, (0 ≤ v ↔ (l.all fun x => chOk (iB x)) = false) ∧ r = .one (.t (.int .i64 v)) ∧ ob = []) := by
  refine acall_fn (md := md) [none] v197 hP.mixed hP.tab (fn_at hP fn197) 2 rfl (by decide +kernel) rfl ?_
  intro ar har
  cbv
  repeat' (first | (intro; cbv) | (with_reducible refine and_side ?_ ?_; rotate_left; try cbv) | (refine ChkP.mk (by rfl) ?_; cbv) | (refine br_intro ?_ ?_ <;> intro <;> cbv) | (refine get_at har (by assumption) (by assumption) (by assumption) (by assumption) ?_; cbv) | (refine get_lt har (by assumption) (by assumption) (by assumption) ?_; intro x xx hx hxx; cbv) | (refine get_atN har (by assumption) (by assumption) (by assumption) (by assumption) ?_; cbv) | (refine get_ltN har (by assumption) (by assumption) (by assumption) ?_; intro x xx hx hxx; cbv) | (refine get_atI har (by assumption) (by assumption) (by decide) ?_; cbv) | (refine get_twoA har (by assumption) (by assumption) (by decide) ?_; intro x hx; cbv) | (refine get_twoB har (by assumption) (by assumption) (by decide) ?_; intro x hx; cbv) | (refine bytes_intro (by assumption) ?_; cbv) | (exact side_lt har (by assumption) (by assumption)) | (exact side_inb har (by assumption) (by assumption) (by assumption)) | (exact side_sh har (by decide)) | (exact side_app har (by assumption) (by assumption) (by omega)) | (exact side_app0 har (by assumption) (by omega)) | (exact side_new har (by assumption) (by omega)) | (exact side_one har (by assumption) (by omega)) | (exact side_oneN har (by assumption) (by omega)) | (exact side_flat har (by assumption)) | (exact side_sbig har (by omega)) | (refine side_sbig har ?_; simp; done) | (exact side_oneI har (by assumption) (by omega)) | (refine side_ix har ?_; simp; done) | (refine side_ix har ?_; simp; omega))
  refine LoopP.mk Int [0, 1, 7, 8] [] (fun i => ⟨[(0, .one (.t (.sl ls))), (1, .one (.t (.fn (.func 178) [] [.pt [.fn (.func 146) [] []] 0]))), (7, .one (.t (.int .i64 (ar.len ls)))), (8, .one (.t (.int .i64 i)))], []⟩)
    (fun i => 0 ≤ i ∧ ((l.take i.toNat).all fun x => chOk (iB x)) = true) (fun i => l.length - i.toNat) 0 ?e ?f ?g
  case e => kernel_rfl
  case f => simp
  case g =>
    intro i hi
    have hi0 : 0 ≤ i := hi.1
    have hi1 : ((l.take i.toNat).all fun x => chOk (iB x)) = true := hi.2
    clear hi
    cbv
    repeat' (first | (intro; cbv) | (with_reducible refine and_side ?_ ?_; rotate_left; try cbv) | (refine ChkP.mk (by rfl) ?_; cbv) | (refine br_intro ?_ ?_ <;> intro <;> cbv) | (refine get_at har (by assumption) (by assumption) (by assumption) (by assumption) ?_; cbv) | (refine get_lt har (by assumption) (by assumption) (by assumption) ?_; intro x xx hx hxx; cbv) | (refine get_atN har (by assumption) (by assumption) (by assumption) (by assumption) ?_; cbv) | (refine get_ltN har (by assumption) (by assumption) (by assumption) ?_; intro x xx hx hxx; cbv) | (refine get_atI har (by assumption) (by assumption) (by decide) ?_; cbv) | (refine get_twoA har (by assumption) (by assumption) (by decide) ?_; intro x hx; cbv) | (refine get_twoB har (by assumption) (by assumption) (by decide) ?_; intro x hx; cbv) | (refine bytes_intro (by assumption) ?_; cbv) | (exact side_lt har (by assumption) (by assumption)) | (exact side_inb har (by assumption) (by assumption) (by assumption)) | (exact side_sh har (by decide)) | (exact side_app har (by assumption) (by assumption) (by omega)) | (exact side_app0 har (by assumption) (by omega)) | (exact side_new har (by assumption) (by omega)) | (exact side_one har (by assumption) (by omega)) | (exact side_oneN har (by assumption) (by omega)) | (exact side_flat har (by assumption)) | (exact side_sbig har (by omega)) | (refine side_sbig har ?_; simp; done) | (exact side_oneI har (by assumption) (by omega)) | (refine side_ix har ?_; simp; done) | (refine side_ix har ?_; simp; omega) | (refine call_intro (iAllB1 hP) ?_; rintro r ob ⟨rfl, rfl⟩; generalize hch : (!chOk _) = ch; cbv) | (refine calld_intro (iAllB1 hP) ?_; generalize hch : (!chOk _) = ch; cbv))
    all_goals have hlen := encB_len hl
    all_goals subst har; simp only [std, icmpS, decide_eq_true_eq, decide_eq_false_iff_not, Bool.not_eq_true', Bool.not_eq_false', bne_iff_ne, ne_eq, bne_eq_false_iff_eq, beq_iff_eq, beq_eq_false_iff_ne, Int.not_lt, Int.not_le, Bool.not_true, Bool.not_false, reduceCtorEq] at *
    · exact ⟨⟨i, ⟨fun _ => all_bad (p := fun x => chOk (iB x)) hx (by rw [hxx]; simp_all), fun _ => hi0⟩, rfl, rfl⟩⟩
    · rw [addI (a := i) (b := 1) (by omega) (by omega)]
      exact ⟨i + 1, by kernel_rfl, ⟨by omega, by rw [show (i + 1).toNat = i.toNat + 1 by omega]; exact all_take_succ hx hi1 (by rw [hxx]; simp_all)⟩, by omega⟩
    · rw [take_all (by omega)] at hi1
      exact ⟨⟨-1, ⟨fun h => absurd h (by decide), fun h => by rw [hi1] at h; cases h⟩, rfl, rfl⟩⟩
set_option maxRecDepth 20000 in
theorem fn177 : Tryz.prog.funcs[177]? = some Tryz.f177 := rfl
set_option maxHeartbeats 40000000 in
set_option maxRecDepth 3000 in
theorem iConB (hP : Prg P) {l : List UInt8} {ls : List (List T)} (hl : encB l = ls) : ACall P 177 [.one (.t (.sl ls)), .one (.t (.fn (.func 178) [] [.pt [.fn (.func 146) [] []] 0]))] []
    (fun r ob => r = .one (.t (.bool (!l.all fun x => chOk (iB x)))) ∧ ob = []) := by
  refine acall_fn (md := md) [none] v177 hP.mixed hP.tab (fn_at hP fn177) 2 rfl (by decide +kernel) rfl ?_
  intro ar har
  cbv
  repeat' (first | (intro; cbv) | (with_reducible refine and_side ?_ ?_; rotate_left; try cbv) | (refine ChkP.mk (by rfl) ?_; cbv) | (refine br_intro ?_ ?_ <;> intro <;> cbv) | (refine get_at har (by assumption) (by assumption) (by assumption) (by assumption) ?_; cbv) | (refine get_lt har (by assumption) (by assumption) (by assumption) ?_; intro x xx hx hxx; cbv) | (refine get_atN har (by assumption) (by assumption) (by assumption) (by assumption) ?_; cbv) | (refine get_ltN har (by assumption) (by assumption) (by assumption) ?_; intro x xx hx hxx; cbv) | (refine get_atI har (by assumption) (by assumption) (by decide) ?_; cbv) | (refine get_twoA har (by assumption) (by assumption) (by decide) ?_; intro x hx; cbv) | (refine get_twoB har (by assumption) (by assumption) (by decide) ?_; intro x hx; cbv) | (refine bytes_intro (by assumption) ?_; cbv) | (exact side_lt har (by assumption) (by assumption)) | (exact side_inb har (by assumption) (by assumption) (by assumption)) | (exact side_sh har (by decide)) | (exact side_app har (by assumption) (by assumption) (by omega)) | (exact side_app0 har (by assumption) (by omega)) | (exact side_new har (by assumption) (by omega)) | (exact side_one har (by assumption) (by omega)) | (exact side_oneN har (by assumption) (by omega)) | (exact side_flat har (by assumption)) | (exact side_sbig har (by omega)) | (refine side_sbig har ?_; simp; done) | (exact side_oneI har (by assumption) (by omega)) | (refine side_ix har ?_; simp; done) | (refine side_ix har ?_; simp; omega) | (refine call_intro (iIdxB hP (by assumption)) ?_; rintro r ob ⟨v, hv, rfl, rfl⟩; cbv))
  subst har; simp only [std, icmpS, decide_eq_true_eq, decide_eq_false_iff_not, Bool.not_eq_true', Bool.not_eq_false', bne_iff_ne, ne_eq, bne_eq_false_iff_eq, beq_iff_eq, beq_eq_false_iff_ne, Int.not_lt, Int.not_le, Bool.not_true, Bool.not_false, reduceCtorEq] at *
  refine ⟨⟨?_, rfl⟩⟩
  by_cases h : (0 : Int) ≤ v
  · rw [hv.1 h]; simp [h]
  · have : (l.all fun x => chOk (iB x)) = true := by
      cases e : l.all fun x => chOk (iB x) with
      | true => rfl
      | false => exact absurd (hv.2 e) h
    rw [this]; simp [h]
set_option maxRecDepth 20000 in
theorem fn145 : Tryz.prog.funcs[145]? = some Tryz.f145 := rfl
set_option maxHeartbeats 40000000 in
set_option maxRecDepth 3000 in
theorem iAllB (hP : Prg P) {l : List UInt8} {ls : List (List T)} (hl : encB l = ls) : ACall P 145 [.one (.t (.sl ls)), .one (.t (.fn (.func 146) [] []))] []
    (fun r ob => r = .one (.t (.bool (l.all fun x => chOk (iB x)))) ∧ ob = []) := by
  refine acall_fn (md := md) [none] v145 hP.mixed hP.tab (fn_at hP fn145) 2 rfl (by decide +kernel) rfl ?_
  intro ar har
  cbv
  repeat' (first | (intro; cbv) | (with_reducible refine and_side ?_ ?_; rotate_left; try cbv) | (refine ChkP.mk (by rfl) ?_; cbv) | (refine br_intro ?_ ?_ <;> intro <;> cbv) | (refine get_at har (by assumption) (by assumption) (by assumption) (by assumption) ?_; cbv) | (refine get_lt har (by assumption) (by assumption) (by assumption) ?_; intro x xx hx hxx; cbv) | (refine get_atN har (by assumption) (by assumption) (by assumption) (by assumption) ?_; cbv) | (refine get_ltN har (by assumption) (by assumption) (by assumption) ?_; intro x xx hx hxx; cbv) | (refine get_atI har (by assumption) (by assumption) (by decide) ?_; cbv) | (refine get_twoA har (by assumption) (by assumption) (by decide) ?_; intro x hx; cbv) | (refine get_twoB har (by assumption) (by assumption) (by decide) ?_; intro x hx; cbv) | (refine bytes_intro (by assumption) ?_; cbv) | (exact side_lt har (by assumption) (by assumption)) | (exact side_inb har (by assumption) (by assumption) (by assumption)) | (exact side_sh har (by decide)) | (exact side_app har (by assumption) (by assumption) (by omega)) | (exact side_app0 har (by assumption) (by omega)) | (exact side_new har (by assumption) (by omega)) | (exact side_one har (by assumption) (by omega)) | (exact side_oneN har (by assumption) (by omega)) | (exact side_flat har (by assumption)) | (exact side_sbig har (by omega)) | (refine side_sbig har ?_; simp; done) | (exact side_oneI har (by assumption) (by omega)) | (refine side_ix har ?_; simp; done) | (refine side_ix har ?_; simp; omega) | (refine call_intro (iConB hP (by assumption)) ?_; rintro r ob ⟨rfl, rfl⟩; generalize hcb : (!List.all _ _) = cb; cbv) | (refine calld_intro (iConB hP (by assumption)) ?_; generalize hcb : (!List.all _ _) = cb; cbv))
  subst har; simp only [std, icmpS, decide_eq_true_eq, decide_eq_false_iff_not, Bool.not_eq_true', Bool.not_eq_false', bne_iff_ne, ne_eq, bne_eq_false_iff_eq, beq_iff_eq, beq_eq_false_iff_ne, Int.not_lt, Int.not_le, Bool.not_true, Bool.not_false, reduceCtorEq] at *
  exact ⟨⟨by rw [← hcb]; simp, rfl⟩⟩
set_option maxRecDepth 20000 in
theorem fn86 : Tryz.prog.funcs[86]? = some Tryz.f86 := rfl
set_option maxHeartbeats 40000000 in
set_option maxRecDepth 3000 in
theorem iLabelOk (hP : Prg P) {l : List UInt8} {ls : List (List T)} (hl : encB l = ls) : ACall P 86 [.one (.t (.sl ls))] [] (fun r ob => r = .one (.t (.bool (labelOk l))) ∧ ob = []) := by
  refine acall_fn (md := md) [none] v86 hP.mixed hP.tab (fn_at hP fn86) 1 rfl (by decide +kernel) rfl ?_
  intro ar har
  cbv
  repeat' (first | (intro; cbv) | (with_reducible refine and_side ?_ ?_; rotate_left; try cbv) | (refine ChkP.mk (by rfl) ?_; cbv) | (refine br_intro ?_ ?_ <;> intro <;> cbv) | (refine get_at har (by assumption) (by assumption) (by assumption) (by assumption) ?_; cbv) | (refine get_lt har (by assumption) (by assumption) (by assumption) ?_; intro x xx hx hxx; cbv) | (refine get_atN har (by assumption) (by assumption) (by assumption) (by assumption) ?_; cbv) | (refine get_ltN har (by assumption) (by assumption) (by assumption) ?_; intro x xx hx hxx; cbv) | (refine get_atI har (by assumption) (by assumption) (by decide) ?_; cbv) | (refine get_twoA har (by assumption) (by assumption) (by decide) ?_; intro x hx; cbv) | (refine get_twoB har (by assumption) (by assumption) (by decide) ?_; intro x hx; cbv) | (refine bytes_intro (by assumption) ?_; cbv) | (exact side_lt har (by assumption) (by assumption)) | (exact side_inb har (by assumption) (by assumption) (by assumption)) | (exact side_sh har (by decide)) | (exact side_app har (by assumption) (by assumption) (by omega)) | (exact side_app0 har (by assumption) (by omega)) | (exact side_new har (by assumption) (by omega)) | (exact side_one har (by assumption) (by omega)) | (exact side_oneN har (by assumption) (by omega)) | (exact side_flat har (by assumption)) | (exact side_sbig har (by omega)) | (refine side_sbig har ?_; simp; done) | (exact side_oneI har (by assumption) (by omega)) | (refine side_ix har ?_; simp; done) | (refine side_ix har ?_; simp; omega) | (refine call_intro (iWithin hP) ?_; rintro r ob ⟨rfl, rfl⟩; generalize hwi : withinB _ _ _ = wi; cbv) | (refine calld_intro (iWithin hP) ?_; generalize hwi : withinB _ _ _ = wi; cbv) | (refine call_intro (iAllB hP (by assumption)) ?_; rintro r ob ⟨rfl, rfl⟩; generalize hab : List.all _ _ = ab; cbv) | (refine calld_intro (iAllB hP (by assumption)) ?_; generalize hab : List.all _ _ = ab; cbv))
  all_goals have hlen := encB_len hl
  all_goals subst har; simp only [std, icmpS, decide_eq_true_eq, decide_eq_false_iff_not, Bool.not_eq_true', Bool.not_eq_false', bne_iff_ne, ne_eq, bne_eq_false_iff_eq, beq_iff_eq, beq_eq_false_iff_ne, Int.not_lt, Int.not_le, Bool.not_true, Bool.not_false, reduceCtorEq] at *
  · refine ⟨⟨?_, rfl⟩⟩
    rename_i hw _
    rw [hw] at hwi
    simp only [withinB, decide_eq_true_eq] at hwi
    rw [labelOk, hab, decide_eq_true (by omega), decide_eq_true (by omega)]; simp
  · refine ⟨⟨?_, rfl⟩⟩
    rename_i hw _
    rw [hw] at hwi
    simp only [withinB, decide_eq_false_iff_not] at hwi
    by_cases e : 1 ≤ l.length
    · rw [labelOk, decide_eq_false (p := l.length ≤ 15) (by omega)]; simp
    · rw [labelOk, decide_eq_false e]; simp
set_option maxRecDepth 20000 in
theorem fn144 : Tryz.prog.funcs[144]? = some Tryz.f144 := rfl
set_option maxHeartbeats 40000000 in
set_option maxRecDepth 3000 in
theorem iAllN1 (hP : Prg P) {l : List UInt8} {ls : List (List T)} (hl : encB l = ls) : ACall P 144 [.one (.t (.sl ls)), .one (.t (.pt [.fn (.func 86) [] []] 0))] [] (fun r ob => r = .one (.t (.bool (!labelOk l))) ∧ ob = []) := by
  refine acall_fn (md := md) [none] v144 hP.mixed hP.tab (fn_at hP fn144) 2 rfl (by decide +kernel) rfl ?_
  intro ar har
  cbv
  repeat' (first | (intro; cbv) | (with_reducible refine and_side ?_ ?_; rotate_left; try cbv) | (refine ChkP.mk (by rfl) ?_; cbv) | (refine br_intro ?_ ?_ <;> intro <;> cbv) | (refine get_at har (by assumption) (by assumption) (by assumption) (by assumption) ?_; cbv) | (refine get_lt har (by assumption) (by assumption) (by assumption) ?_; intro x xx hx hxx; cbv) | (refine get_atN har (by assumption) (by assumption) (by assumption) (by assumption) ?_; cbv) | (refine get_ltN har (by assumption) (by assumption) (by assumption) ?_; intro x xx hx hxx; cbv) | (refine get_atI har (by assumption) (by assumption) (by decide) ?_; cbv) | (refine get_twoA har (by assumption) (by assumption) (by decide) ?_; intro x hx; cbv) | (refine get_twoB har (by assumption) (by assumption) (by decide) ?_; intro x hx; cbv) | (refine bytes_intro (by assumption) ?_; cbv) | (exact side_lt har (by assumption) (by assumption)) | (exact side_inb har (by assumption) (by assumption) (by assumption)) | (exact side_sh har (by decide)) | (exact side_app har (by assumption) (by assumption) (by omega)) | (exact side_app0 har (by assumption) (by omega)) | (exact side_new har (by assumption) (by omega)) | (exact side_one har (by assumption) (by omega)) | (exact side_oneN har (by assumption) (by omega)) | (exact side_flat har (by assumption)) | (exact side_sbig har (by omega)) | (refine side_sbig har ?_; simp; done) | (exact side_oneI har (by assumption) (by omega)) | (refine side_ix har ?_; simp; done) | (refine side_ix har ?_; simp; omega) | (refine call_intro (iLabelOk hP (by assumption)) ?_; rintro r ob ⟨rfl, rfl⟩; generalize hlo : labelOk _ = lo; cbv) | (refine calld_intro (iLabelOk hP (by assumption)) ?_; generalize hlo : labelOk _ = lo; cbv))
  subst har; simp only [std, icmpS, decide_eq_true_eq, decide_eq_false_iff_not, Bool.not_eq_true', Bool.not_eq_false', bne_iff_ne, ne_eq, bne_eq_false_iff_eq, beq_iff_eq, beq_eq_false_iff_ne, Int.not_lt, Int.not_le, Bool.not_true, Bool.not_false, reduceCtorEq] at *
  exact ⟨⟨by first | rfl | rw [hlo], rfl⟩⟩
set_option maxRecDepth 20000 in
theorem fn176 : Tryz.prog.funcs[176]? = some Tryz.f176 := rfl
set_option maxHeartbeats 40000000 in
set_option maxRecDepth 3000 in
theorem iIdxN (hP : Prg P) {n : List (List UInt8)} {ns : List (List T)} (hn : encN n = ns) : ACall P 176 [.one (.t (.sl ns)), .one (.t (.fn (.func 144) [] [.pt [.fn (.func 86) [] []] 0]))] []
    (fun r ob => ∃ v, (0 ≤ v ↔ n.all labelOk = false) ∧ r = .one (.t (.int .i64 v)) ∧ ob = []) := by
  refine acall_fn (md := md) [none] v176 hP.mixed hP.tab (fn_at hP fn176) 2 rfl (by decide +kernel) rfl ?_
  intro ar har
  cbv
  repeat' (first | (intro; cbv) | (with_reducible refine and_side ?_ ?_; rotate_left; try cbv) | (refine ChkP.mk (by rfl) ?_; cbv) | (refine br_intro ?_ ?_ <;> intro <;> cbv) | (refine get_at har (by assumption) (by assumption) (by assumption) (by assumption) ?_; cbv) | (refine get_lt har (by assumption) (by assumption) (by assumption) ?_; intro x xx hx hxx; cbv) | (refine get_atN har (by assumption) (by assumption) (by assumption) (by assumption) ?_; cbv) | (refine get_ltN har (by assumption) (by assumption) (by assumption) ?_; intro x xx hx hxx; cbv) | (refine get_atI har (by assumption) (by assumption) (by decide) ?_; cbv) | (refine get_twoA har (by assumption) (by assumption) (by decide) ?_; intro x hx; cbv) | (refine get_twoB har (by assumption) (by assumption) (by decide) ?_; intro x hx; cbv) | (refine bytes_intro (by assumption) ?_; cbv) | (exact side_lt har (by assumption) (by assumption)) | (exact side_inb har (by assumption) (by assumption) (by assumption)) | (exact side_sh har (by decide)) | (exact side_app har (by assumption) (by assumption) (by omega)) | (exact side_app0 har (by assumption) (by omega)) | (exact side_new har (by assumption) (by omega)) | (exact side_one har (by assumption) (by omega)) | (exact side_oneN har (by assumption) (by omega)) | (exact side_flat har (by assumption)) | (exact side_sbig har (by omega)) | (refine side_sbig har ?_; simp; done) | (exact side_oneI har (by assumption) (by omega)) | (refine side_ix har ?_; simp; done) | (refine side_ix har ?_; simp; omega))
  refine LoopP.mk Int [0, 1, 7, 8] [] (fun i => ⟨[(0, .one (.t (.sl ns))), (1, .one (.t (.fn (.func 144) [] [.pt [.fn (.func 86) [] []] 0]))), (7, .one (.t (.int .i64 (ar.len ns)))), (8, .one (.t (.int .i64 i)))], []⟩)
    (fun i => 0 ≤ i ∧ (n.take i.toNat).all labelOk = true) (fun i => n.length - i.toNat) 0 ?e ?f ?g
  case e => kernel_rfl
  case f => simp
  case g =>
    intro i hi
    have hi0 : 0 ≤ i := hi.1
    have hi1 : (n.take i.toNat).all labelOk = true := hi.2
    clear hi
    cbv
    repeat' (first | (intro; cbv) | (with_reducible refine and_side ?_ ?_; rotate_left; try cbv) | (refine ChkP.mk (by rfl) ?_; cbv) | (refine br_intro ?_ ?_ <;> intro <;> cbv) | (refine get_at har (by assumption) (by assumption) (by assumption) (by assumption) ?_; cbv) | (refine get_lt har (by assumption) (by assumption) (by assumption) ?_; intro x xx hx hxx; cbv) | (refine get_atN har (by assumption) (by assumption) (by assumption) (by assumption) ?_; cbv) | (refine get_ltN har (by assumption) (by assumption) (by assumption) ?_; intro x xx hx hxx; cbv) | (refine get_atI har (by assumption) (by assumption) (by decide) ?_; cbv) | (refine get_twoA har (by assumption) (by assumption) (by decide) ?_; intro x hx; cbv) | (refine get_twoB har (by assumption) (by assumption) (by decide) ?_; intro x hx; cbv) | (refine bytes_intro (by assumption) ?_; cbv) | (exact side_lt har (by assumption) (by assumption)) | (exact side_inb har (by assumption) (by assumption) (by assumption)) | (exact side_sh har (by decide)) | (exact side_app har (by assumption) (by assumption) (by omega)) | (exact side_app0 har (by assumption) (by omega)) | (exact side_new har (by assumption) (by omega)) | (exact side_one har (by assumption) (by omega)) | (exact side_oneN har (by assumption) (by omega)) | (exact side_flat har (by assumption)) | (exact side_sbig har (by omega)) | (refine side_sbig har ?_; simp; done) | (exact side_oneI har (by assumption) (by omega)) | (refine side_ix har ?_; simp; done) | (refine side_ix har ?_; simp; omega) | (refine call_intro (iAllN1 hP (by assumption)) ?_; rintro r ob ⟨rfl, rfl⟩; generalize hlo : (!labelOk _) = lo; cbv) | (refine calld_intro (iAllN1 hP (by assumption)) ?_; generalize hlo : (!labelOk _) = lo; cbv))
    all_goals have hlen := encN_len hn
    all_goals subst har; simp only [std, icmpS, decide_eq_true_eq, decide_eq_false_iff_not, Bool.not_eq_true', Bool.not_eq_false', bne_iff_ne, ne_eq, bne_eq_false_iff_eq, beq_iff_eq, beq_eq_false_iff_ne, Int.not_lt, Int.not_le, Bool.not_true, Bool.not_false, reduceCtorEq] at *
    · exact ⟨⟨i, ⟨fun _ => all_bad (p := labelOk) hx (by simp_all), fun _ => hi0⟩, rfl, rfl⟩⟩
    · rw [addI (a := i) (b := 1) (by omega) (by omega)]
      exact ⟨i + 1, by kernel_rfl, ⟨by omega, by rw [show (i + 1).toNat = i.toNat + 1 by omega]; exact all_take_succ hx hi1 (by simp_all)⟩, by omega⟩
    · rw [take_all (by omega)] at hi1
      exact ⟨⟨-1, ⟨fun h => absurd h (by decide), fun h => by rw [hi1] at h; cases h⟩, rfl, rfl⟩⟩
set_option maxRecDepth 20000 in
theorem fn143 : Tryz.prog.funcs[143]? = some Tryz.f143 := rfl
set_option maxHeartbeats 40000000 in
set_option maxRecDepth 3000 in
theorem iConN (hP : Prg P) {n : List (List UInt8)} {ns : List (List T)} (hn : encN n = ns) : ACall P 143 [.one (.t (.sl ns)), .one (.t (.fn (.func 144) [] [.pt [.fn (.func 86) [] []] 0]))] []
    (fun r ob => r = .one (.t (.bool (!n.all labelOk))) ∧ ob = []) := by
  refine acall_fn (md := md) [none] v143 hP.mixed hP.tab (fn_at hP fn143) 2 rfl (by decide +kernel) rfl ?_
  intro ar har
  cbv
  repeat' (first | (intro; cbv) | (with_reducible refine and_side ?_ ?_; rotate_left; try cbv) | (refine ChkP.mk (by rfl) ?_; cbv) | (refine br_intro ?_ ?_ <;> intro <;> cbv) | (refine get_at har (by assumption) (by assumption) (by assumption) (by assumption) ?_; cbv) | (refine get_lt har (by assumption) (by assumption) (by assumption) ?_; intro x xx hx hxx; cbv) | (refine get_atN har (by assumption) (by assumption) (by assumption) (by assumption) ?_; cbv) | (refine get_ltN har (by assumption) (by assumption) (by assumption) ?_; intro x xx hx hxx; cbv) | (refine get_atI har (by assumption) (by assumption) (by decide) ?_; cbv) | (refine get_twoA har (by assumption) (by assumption) (by decide) ?_; intro x hx; cbv) | (refine get_twoB har (by assumption) (by assumption) (by decide) ?_; intro x hx; cbv) | (refine bytes_intro (by assumption) ?_; cbv) | (exact side_lt har (by assumption) (by assumption)) | (exact side_inb har (by assumption) (by assumption) (by assumption)) | (exact side_sh har (by decide)) | (exact side_app har (by assumption) (by assumption) (by omega)) | (exact side_app0 har (by assumption) (by omega)) | (exact side_new har (by assumption) (by omega)) | (exact side_one har (by assumption) (by omega)) | (exact side_oneN har (by assumption) (by omega)) | (exact side_flat har (by assumption)) | (exact side_sbig har (by omega)) | (refine side_sbig har ?_; simp; done) | (exact side_oneI har (by assumption) (by omega)) | (refine side_ix har ?_; simp; done) | (refine side_ix har ?_; simp; omega) | (refine call_intro (iIdxN hP (by assumption)) ?_; rintro r ob ⟨v, hv, rfl, rfl⟩; cbv))
  subst har; simp only [std, icmpS, decide_eq_true_eq, decide_eq_false_iff_not, Bool.not_eq_true', Bool.not_eq_false', bne_iff_ne, ne_eq, bne_eq_false_iff_eq, beq_iff_eq, beq_eq_false_iff_ne, Int.not_lt, Int.not_le, Bool.not_true, Bool.not_false, reduceCtorEq] at *
  refine ⟨⟨?_, rfl⟩⟩
  by_cases h : (0 : Int) ≤ v
  · rw [hv.1 h]; simp [h]
  · have : n.all labelOk = true := by
      cases e : n.all labelOk with
      | true => rfl
      | false => exact absurd (hv.2 e) h
    rw [this]; simp [h]
set_option maxRecDepth 20000 in
theorem fn85 : Tryz.prog.funcs[85]? = some Tryz.f85 := rfl
set_option maxHeartbeats 40000000 in
set_option maxRecDepth 3000 in
theorem iAllN (hP : Prg P) {n : List (List UInt8)} {ns : List (List T)} (hn : encN n = ns) : ACall P 85 [.one (.t (.sl ns)), .one (.t (.fn (.func 86) [] []))] []
    (fun r ob => r = .one (.t (.bool (n.all labelOk))) ∧ ob = []) := by
  refine acall_fn (md := md) [none] v85 hP.mixed hP.tab (fn_at hP fn85) 2 rfl (by decide +kernel) rfl ?_
  intro ar har
  cbv
  repeat' (first | (intro; cbv) | (with_reducible refine and_side ?_ ?_; rotate_left; try cbv) | (refine ChkP.mk (by rfl) ?_; cbv) | (refine br_intro ?_ ?_ <;> intro <;> cbv) | (refine get_at har (by assumption) (by assumption) (by assumption) (by assumption) ?_; cbv) | (refine get_lt har (by assumption) (by assumption) (by assumption) ?_; intro x xx hx hxx; cbv) | (refine get_atN har (by assumption) (by assumption) (by assumption) (by assumption) ?_; cbv) | (refine get_ltN har (by assumption) (by assumption) (by assumption) ?_; intro x xx hx hxx; cbv) | (refine get_atI har (by assumption) (by assumption) (by decide) ?_; cbv) | (refine get_twoA har (by assumption) (by assumption) (by decide) ?_; intro x hx; cbv) | (refine get_twoB har (by assumption) (by assumption) (by decide) ?_; intro x hx; cbv) | (refine bytes_intro (by assumption) ?_; cbv) | (exact side_lt har (by assumption) (by assumption)) | (exact side_inb har (by assumption) (by assumption) (by assumption)) | (exact side_sh har (by decide)) | (exact side_app har (by assumption) (by assumption) (by omega)) | (exact side_app0 har (by assumption) (by omega)) | (exact side_new har (by assumption) (by omega)) | (exact side_one har (by assumption) (by omega)) | (exact side_oneN har (by assumption) (by omega)) | (exact side_flat har (by assumption)) | (exact side_sbig har (by omega)) | (refine side_sbig har ?_; simp; done) | (exact side_oneI har (by assumption) (by omega)) | (refine side_ix har ?_; simp; done) | (refine side_ix har ?_; simp; omega) | (refine call_intro (iConN hP (by assumption)) ?_; rintro r ob ⟨rfl, rfl⟩; generalize hcb : (!List.all _ _) = cb; cbv) | (refine calld_intro (iConN hP (by assumption)) ?_; generalize hcb : (!List.all _ _) = cb; cbv))
  subst har; simp only [std, icmpS, decide_eq_true_eq, decide_eq_false_iff_not, Bool.not_eq_true', Bool.not_eq_false', bne_iff_ne, ne_eq, bne_eq_false_iff_eq, beq_iff_eq, beq_eq_false_iff_ne, Int.not_lt, Int.not_le, Bool.not_true, Bool.not_false, reduceCtorEq] at *
  exact ⟨⟨by rw [← hcb]; simp, rfl⟩⟩
set_option maxRecDepth 20000 in
theorem fn32 : Tryz.prog.funcs[32]? = some Tryz.f32 := rfl
set_option maxHeartbeats 40000000 in
set_option maxRecDepth 3000 in
theorem iNameOk (hP : Prg P) {n : List (List UInt8)} {ns : List (List T)} (hn : encN n = ns) : ACall P 32 [.agg [.t (.sl ns)]] [] (fun r ob => r = .one (.t (.bool (nameOk n))) ∧ ob = []) := by
  refine acall_fn (md := md) [none] v32 hP.mixed hP.tab (fn_at hP fn32) 1 rfl (by decide +kernel) rfl ?_
  intro ar har
  cbv
  repeat' (first | (intro; cbv) | (with_reducible refine and_side ?_ ?_; rotate_left; try cbv) | (refine ChkP.mk (by rfl) ?_; cbv) | (refine br_intro ?_ ?_ <;> intro <;> cbv) | (refine get_at har (by assumption) (by assumption) (by assumption) (by assumption) ?_; cbv) | (refine get_lt har (by assumption) (by assumption) (by assumption) ?_; intro x xx hx hxx; cbv) | (refine get_atN har (by assumption) (by assumption) (by assumption) (by assumption) ?_; cbv) | (refine get_ltN har (by assumption) (by assumption) (by assumption) ?_; intro x xx hx hxx; cbv) | (refine get_atI har (by assumption) (by assumption) (by decide) ?_; cbv) | (refine get_twoA har (by assumption) (by assumption) (by decide) ?_; intro x hx; cbv) | (refine get_twoB har (by assumption) (by assumption) (by decide) ?_; intro x hx; cbv) | (refine bytes_intro (by assumption) ?_; cbv) | (exact side_lt har (by assumption) (by assumption)) | (exact side_inb har (by assumption) (by assumption) (by assumption)) | (exact side_sh har (by decide)) | (exact side_app har (by assumption) (by assumption) (by omega)) | (exact side_app0 har (by assumption) (by omega)) | (exact side_new har (by assumption) (by omega)) | (exact side_one har (by assumption) (by omega)) | (exact side_oneN har (by assumption) (by omega)) | (exact side_flat har (by assumption)) | (exact side_sbig har (by omega)) | (refine side_sbig har ?_; simp; done) | (exact side_oneI har (by assumption) (by omega)) | (refine side_ix har ?_; simp; done) | (refine side_ix har ?_; simp; omega) | (refine call_intro (iAllN hP (by assumption)) ?_; rintro r ob ⟨rfl, rfl⟩; generalize hab : List.all _ _ = ab; cbv) | (refine calld_intro (iAllN hP (by assumption)) ?_; generalize hab : List.all _ _ = ab; cbv))
  all_goals have hlen := encN_len hn
  all_goals subst har; simp only [std, icmpS, decide_eq_true_eq, decide_eq_false_iff_not, Bool.not_eq_true', Bool.not_eq_false', bne_iff_ne, ne_eq, bne_eq_false_iff_eq, beq_iff_eq, beq_eq_false_iff_ne, Int.not_lt, Int.not_le, Bool.not_true, Bool.not_false, reduceCtorEq] at *
  · exact ⟨⟨by rw [nameOk, hab, decide_eq_true (by omega)]; simp, rfl⟩⟩
  · exact ⟨⟨by rw [nameOk, decide_eq_false (by omega)]; simp, rfl⟩⟩
def isWordB (n : Int) : Bool := withinB n 0 4294967295
set_option maxRecDepth 20000 in
theorem fn34 : Tryz.prog.funcs[34]? = some Tryz.f34 := rfl
set_option maxHeartbeats 40000000 in
set_option maxRecDepth 3000 in
theorem iIsWord (hP : Prg P) {n : Int} : ACall P 34 [.one (.t (.int .i64 n))] [] (fun r ob => r = .one (.t (.bool (isWordB n))) ∧ ob = []) := by
  refine acall_fn (md := md) [none] v34 hP.mixed hP.tab (fn_at hP fn34) 1 rfl (by decide +kernel) rfl ?_
  intro ar har
  cbv
  repeat' (first | (intro; cbv) | (with_reducible refine and_side ?_ ?_; rotate_left; try cbv) | (refine ChkP.mk (by rfl) ?_; cbv) | (refine br_intro ?_ ?_ <;> intro <;> cbv) | (refine get_at har (by assumption) (by assumption) (by assumption) (by assumption) ?_; cbv) | (refine get_lt har (by assumption) (by assumption) (by assumption) ?_; intro x xx hx hxx; cbv) | (refine get_atN har (by assumption) (by assumption) (by assumption) (by assumption) ?_; cbv) | (refine get_ltN har (by assumption) (by assumption) (by assumption) ?_; intro x xx hx hxx; cbv) | (refine get_atI har (by assumption) (by assumption) (by decide) ?_; cbv) | (refine get_twoA har (by assumption) (by assumption) (by decide) ?_; intro x hx; cbv) | (refine get_twoB har (by assumption) (by assumption) (by decide) ?_; intro x hx; cbv) | (refine bytes_intro (by assumption) ?_; cbv) | (exact side_lt har (by assumption) (by assumption)) | (exact side_inb har (by assumption) (by assumption) (by assumption)) | (exact side_sh har (by decide)) | (exact side_app har (by assumption) (by assumption) (by omega)) | (exact side_app0 har (by assumption) (by omega)) | (exact side_new har (by assumption) (by omega)) | (exact side_one har (by assumption) (by omega)) | (exact side_oneN har (by assumption) (by omega)) | (exact side_flat har (by assumption)) | (exact side_sbig har (by omega)) | (refine side_sbig har ?_; simp; done) | (exact side_oneI har (by assumption) (by omega)) | (refine side_ix har ?_; simp; done) | (refine side_ix har ?_; simp; omega) | (refine call_intro (iWithin hP) ?_; rintro r ob ⟨rfl, rfl⟩; generalize hwi : withinB _ _ _ = wi; cbv) | (refine calld_intro (iWithin hP) ?_; generalize hwi : withinB _ _ _ = wi; cbv))
  exact ⟨⟨by rw [isWordB, hwi], rfl⟩⟩
set_option maxRecDepth 20000 in
theorem fn35 : Tryz.prog.funcs[35]? = some Tryz.f35 := rfl
set_option maxHeartbeats 40000000 in
set_option maxRecDepth 3000 in
theorem iHasTo (hP : Prg P) {t : Int} : ACall P 35 [.one (.t (.int .i64 t))] [] (fun r ob => r = .one (.t (.bool (namedB t))) ∧ ob = []) := by
  refine acall_fn (md := md) [none] v35 hP.mixed hP.tab (fn_at hP fn35) 1 rfl (by decide +kernel) rfl ?_
  intro ar har
  cbv
  repeat' (first | (intro; cbv) | (with_reducible refine and_side ?_ ?_; rotate_left; try cbv) | (refine ChkP.mk (by rfl) ?_; cbv) | (refine br_intro ?_ ?_ <;> intro <;> cbv) | (refine get_at har (by assumption) (by assumption) (by assumption) (by assumption) ?_; cbv) | (refine get_lt har (by assumption) (by assumption) (by assumption) ?_; intro x xx hx hxx; cbv) | (refine get_atN har (by assumption) (by assumption) (by assumption) (by assumption) ?_; cbv) | (refine get_ltN har (by assumption) (by assumption) (by assumption) ?_; intro x xx hx hxx; cbv) | (refine get_atI har (by assumption) (by assumption) (by decide) ?_; cbv) | (refine get_twoA har (by assumption) (by assumption) (by decide) ?_; intro x hx; cbv) | (refine get_twoB har (by assumption) (by assumption) (by decide) ?_; intro x hx; cbv) | (refine bytes_intro (by assumption) ?_; cbv) | (exact side_lt har (by assumption) (by assumption)) | (exact side_inb har (by assumption) (by assumption) (by assumption)) | (exact side_sh har (by decide)) | (exact side_app har (by assumption) (by assumption) (by omega)) | (exact side_app0 har (by assumption) (by omega)) | (exact side_new har (by assumption) (by omega)) | (exact side_one har (by assumption) (by omega)) | (exact side_oneN har (by assumption) (by omega)) | (exact side_flat har (by assumption)) | (exact side_sbig har (by omega)) | (refine side_sbig har ?_; simp; done) | (exact side_oneI har (by assumption) (by omega)) | (refine side_ix har ?_; simp; done) | (refine side_ix har ?_; simp; omega))
  all_goals subst har; simp only [std, icmpS, decide_eq_true_eq, decide_eq_false_iff_not, Bool.not_eq_true', Bool.not_eq_false', bne_iff_ne, ne_eq, bne_eq_false_iff_eq, beq_iff_eq, beq_eq_false_iff_ne, Int.not_lt, Int.not_le, Bool.not_true, Bool.not_false, reduceCtorEq] at *
  · exact ⟨⟨by rw [namedB, decide_eq_true (by omega)], rfl⟩⟩
  · exact ⟨⟨by rw [namedB, decide_eq_true (by omega)], rfl⟩⟩
  · exact ⟨⟨by rw [namedB, decide_eq_true (by omega)], rfl⟩⟩
  · refine ⟨⟨?_, rfl⟩⟩
    rw [namedB]
    by_cases e : t = 12
    · rw [decide_eq_true (by omega)]; simp [e]
    · rw [decide_eq_false (by omega)]; simp [e]
def textB (t : Int) : Bool := decide (t = 16 ∨ t = 49)
set_option maxRecDepth 20000 in
theorem fn36 : Tryz.prog.funcs[36]? = some Tryz.f36 := rfl
set_option maxHeartbeats 40000000 in
set_option maxRecDepth 3000 in
theorem iHasText (hP : Prg P) {t : Int} : ACall P 36 [.one (.t (.int .i64 t))] [] (fun r ob => r = .one (.t (.bool (textB t))) ∧ ob = []) := by
  refine acall_fn (md := md) [none] v36 hP.mixed hP.tab (fn_at hP fn36) 1 rfl (by decide +kernel) rfl ?_
  intro ar har
  cbv
  repeat' (first | (intro; cbv) | (with_reducible refine and_side ?_ ?_; rotate_left; try cbv) | (refine ChkP.mk (by rfl) ?_; cbv) | (refine br_intro ?_ ?_ <;> intro <;> cbv) | (refine get_at har (by assumption) (by assumption) (by assumption) (by assumption) ?_; cbv) | (refine get_lt har (by assumption) (by assumption) (by assumption) ?_; intro x xx hx hxx; cbv) | (refine get_atN har (by assumption) (by assumption) (by assumption) (by assumption) ?_; cbv) | (refine get_ltN har (by assumption) (by assumption) (by assumption) ?_; intro x xx hx hxx; cbv) | (refine get_atI har (by assumption) (by assumption) (by decide) ?_; cbv) | (refine get_twoA har (by assumption) (by assumption) (by decide) ?_; intro x hx; cbv) | (refine get_twoB har (by assumption) (by assumption) (by decide) ?_; intro x hx; cbv) | (refine bytes_intro (by assumption) ?_; cbv) | (exact side_lt har (by assumption) (by assumption)) | (exact side_inb har (by assumption) (by assumption) (by assumption)) | (exact side_sh har (by decide)) | (exact side_app har (by assumption) (by assumption) (by omega)) | (exact side_app0 har (by assumption) (by omega)) | (exact side_new har (by assumption) (by omega)) | (exact side_one har (by assumption) (by omega)) | (exact side_oneN har (by assumption) (by omega)) | (exact side_flat har (by assumption)) | (exact side_sbig har (by omega)) | (refine side_sbig har ?_; simp; done) | (exact side_oneI har (by assumption) (by omega)) | (refine side_ix har ?_; simp; done) | (refine side_ix har ?_; simp; omega))
  all_goals subst har; simp only [std, icmpS, decide_eq_true_eq, decide_eq_false_iff_not, Bool.not_eq_true', Bool.not_eq_false', bne_iff_ne, ne_eq, bne_eq_false_iff_eq, beq_iff_eq, beq_eq_false_iff_ne, Int.not_lt, Int.not_le, Bool.not_true, Bool.not_false, reduceCtorEq] at *
  · exact ⟨⟨by rw [textB, decide_eq_true (by omega)], rfl⟩⟩
  · refine ⟨⟨?_, rfl⟩⟩
    rw [textB]
    by_cases e : t = 49
    · rw [decide_eq_true (by omega)]; simp [e]
    · rw [decide_eq_false (by omega)]; simp [e]
set_option maxRecDepth 20000 in
theorem fn84 : Tryz.prog.funcs[84]? = some Tryz.f84 := rfl
set_option maxHeartbeats 40000000 in
set_option maxRecDepth 3000 in
theorem sTexted (hP : Prg P) {t : Int} : ACall P 84 [.one (.t (.int .i64 t))] [] (fun r ob => r = .one (.t (.bool (textB t))) ∧ ob = []) := by
  refine acall_fn (md := md) [none] v84 hP.mixed hP.tab (fn_at hP fn84) 1 rfl (by decide +kernel) rfl ?_
  intro ar har
  cbv
  repeat' (first | (intro; cbv) | (with_reducible refine and_side ?_ ?_; rotate_left; try cbv) | (refine ChkP.mk (by rfl) ?_; cbv) | (refine br_intro ?_ ?_ <;> intro <;> cbv) | (refine get_at har (by assumption) (by assumption) (by assumption) (by assumption) ?_; cbv) | (refine get_lt har (by assumption) (by assumption) (by assumption) ?_; intro x xx hx hxx; cbv) | (refine get_atN har (by assumption) (by assumption) (by assumption) (by assumption) ?_; cbv) | (refine get_ltN har (by assumption) (by assumption) (by assumption) ?_; intro x xx hx hxx; cbv) | (refine get_atI har (by assumption) (by assumption) (by decide) ?_; cbv) | (refine get_twoA har (by assumption) (by assumption) (by decide) ?_; intro x hx; cbv) | (refine get_twoB har (by assumption) (by assumption) (by decide) ?_; intro x hx; cbv) | (refine bytes_intro (by assumption) ?_; cbv) | (exact side_lt har (by assumption) (by assumption)) | (exact side_inb har (by assumption) (by assumption) (by assumption)) | (exact side_sh har (by decide)) | (exact side_app har (by assumption) (by assumption) (by omega)) | (exact side_app0 har (by assumption) (by omega)) | (exact side_new har (by assumption) (by omega)) | (exact side_one har (by assumption) (by omega)) | (exact side_oneN har (by assumption) (by omega)) | (exact side_flat har (by assumption)) | (exact side_sbig har (by omega)) | (refine side_sbig har ?_; simp; done) | (exact side_oneI har (by assumption) (by omega)) | (refine side_ix har ?_; simp; done) | (refine side_ix har ?_; simp; omega))
  all_goals subst har; simp only [std, icmpS, decide_eq_true_eq, decide_eq_false_iff_not, Bool.not_eq_true', Bool.not_eq_false', bne_iff_ne, ne_eq, bne_eq_false_iff_eq, beq_iff_eq, beq_eq_false_iff_ne, Int.not_lt, Int.not_le, Bool.not_true, Bool.not_false, reduceCtorEq] at *
  · exact ⟨⟨by rw [textB, decide_eq_true (by omega)], rfl⟩⟩
  · refine ⟨⟨?_, rfl⟩⟩
    rw [textB]
    by_cases e : t = 49
    · rw [decide_eq_true (by omega)]; simp [e]
    · rw [decide_eq_false (by omega)]; simp [e]
def typeB (t : Int) : Bool := decide (t = 1 ∨ t = 2 ∨ t = 5 ∨ t = 6 ∨ t = 12 ∨ t = 16 ∨ t = 49)
set_option maxRecDepth 20000 in
theorem fn30 : Tryz.prog.funcs[30]? = some Tryz.f30 := rfl
set_option maxHeartbeats 40000000 in
set_option maxRecDepth 3000 in
theorem sTypeOk (hP : Prg P) {t : Int} : ACall P 30 [.one (.t (.int .i64 t))] [] (fun r ob => r = .one (.t (.bool (typeB t))) ∧ ob = []) := by
  refine acall_fn (md := md) [none] v30 hP.mixed hP.tab (fn_at hP fn30) 1 rfl (by decide +kernel) rfl ?_
  intro ar har
  cbv
  repeat' (first | (intro; cbv) | (with_reducible refine and_side ?_ ?_; rotate_left; try cbv) | (refine ChkP.mk (by rfl) ?_; cbv) | (refine br_intro ?_ ?_ <;> intro <;> cbv) | (refine get_at har (by assumption) (by assumption) (by assumption) (by assumption) ?_; cbv) | (refine get_lt har (by assumption) (by assumption) (by assumption) ?_; intro x xx hx hxx; cbv) | (refine get_atN har (by assumption) (by assumption) (by assumption) (by assumption) ?_; cbv) | (refine get_ltN har (by assumption) (by assumption) (by assumption) ?_; intro x xx hx hxx; cbv) | (refine get_atI har (by assumption) (by assumption) (by decide) ?_; cbv) | (refine get_twoA har (by assumption) (by assumption) (by decide) ?_; intro x hx; cbv) | (refine get_twoB har (by assumption) (by assumption) (by decide) ?_; intro x hx; cbv) | (refine bytes_intro (by assumption) ?_; cbv) | (exact side_lt har (by assumption) (by assumption)) | (exact side_inb har (by assumption) (by assumption) (by assumption)) | (exact side_sh har (by decide)) | (exact side_app har (by assumption) (by assumption) (by omega)) | (exact side_app0 har (by assumption) (by omega)) | (exact side_new har (by assumption) (by omega)) | (exact side_one har (by assumption) (by omega)) | (exact side_oneN har (by assumption) (by omega)) | (exact side_flat har (by assumption)) | (exact side_sbig har (by omega)) | (refine side_sbig har ?_; simp; done) | (exact side_oneI har (by assumption) (by omega)) | (refine side_ix har ?_; simp; done) | (refine side_ix har ?_; simp; omega))
  all_goals subst har; simp only [std, icmpS, decide_eq_true_eq, decide_eq_false_iff_not, Bool.not_eq_true', Bool.not_eq_false', bne_iff_ne, ne_eq, bne_eq_false_iff_eq, beq_iff_eq, beq_eq_false_iff_ne, Int.not_lt, Int.not_le, Bool.not_true, Bool.not_false, reduceCtorEq] at *
  all_goals first
    | (exfalso; omega)
    | exact ⟨⟨by rw [typeB, decide_eq_true (by omega)], rfl⟩⟩
    | exact ⟨⟨by rw [typeB, decide_eq_false (by omega)], rfl⟩⟩
end Go.TL.Tryz

/- TfRrOk -/
namespace Go.TL.Tryz
open Go Go.TL Go.Proofs
variable {P : Program}

theorem get_twoA {ar : Ar} (har : ar = std) {b : List Int} {es : List (List T)} {i : Int} {K : List T → Prop} (hes : encI b = es) (h : ar.icmp .neq (ar.len es) 2 = false) (hi : 0 ≤ i ∧ i < 2)
    (k : ∀ (x : Int), b[i.toNat]? = some x → K [.int .i64 x]) : GetP ar es i K := by
  refine get_int har hes ⟨hi.1, ?_⟩ k
  have := encI_len hes
  subst har; simp [std, icmpS] at h; omega
theorem get_twoB {ar : Ar} (har : ar = std) {b : List Int} {es : List (List T)} {i : Int} {K : List T → Prop} (hes : encI b = es) (h : ar.icmp .eql (ar.len es) 2 = true) (hi : 0 ≤ i ∧ i < 2)
    (k : ∀ (x : Int), b[i.toNat]? = some x → K [.int .i64 x]) : GetP ar es i K := by
  refine get_int har hes ⟨hi.1, ?_⟩ k
  have := encI_len hes
  subst har; simp [std, icmpS] at h; omega
theorem get_atI {ar : Ar} (har : ar = std) {b : List Int} {es : List (List T)} {i x : Int} {K : List T → Prop} (hes : encI b = es) (hx : b[i.toNat]? = some x) (hi : 0 ≤ i) (k : K [.int .i64 x]) : GetP ar es i K :=
  get_int har hes ⟨hi, (List.getElem?_eq_some_iff.1 hx).1⟩ fun y h => by rw [hx] at h; injection h with h; subst h; exact k
def numsOk (t : Int) (nu : List Int) : Bool :=
  if t = 6 then decide (nu.length = 2) && (isWordB (nu.getD 0 0) && withinB (nu.getD 1 0) 0 100000) else decide (nu.length = 0)
def dataOk (t addr : Int) (to : List (List UInt8)) (tx : List UInt8) (nu : List Int) : Bool :=
  (if t = 1 then isWordB addr else decide (addr = 0)) && ((if namedB t then nameOk to else decide (to.length = 0)) && ((if textB t then decide (tx.length ≤ 40) else decide (tx.length = 0)) && numsOk t nu))
def rrOk (n : List (List UInt8)) (t ttl addr : Int) (to : List (List UInt8)) (tx : List UInt8) (nu : List Int) : Bool :=
  nameOk n && (typeB t && (withinB ttl 0 100000 && dataOk t addr to tx nu))
theorem two_of {nu : List Int} {x y : Int} (h : nu.length = 2) (h0 : nu[0]? = some x) (h1 : nu[1]? = some y) : nu = [x, y] := by
  match nu, h with
  | [a, b], _ => simp at h0 h1; rw [h0, h1]
set_option maxRecDepth 20000 in
theorem fn31 : Tryz.prog.funcs[31]? = some Tryz.f31 := rfl
set_option maxHeartbeats 40000000 in
set_option maxRecDepth 3000 in
theorem sl3data (hP : Prg P) {to : List (List UInt8)} {ns tos txs nus : List (List T)} {t ttl addr : Int} {tx : List UInt8} {nu : List Int} (hto : encN to = tos) (htx : encB tx = txs) (hnu : encI nu = nus) :
    ACall P 31 [.agg [.t (.sl ns), .t (.int .i64 t), .t (.int .i64 ttl), .t (.int .i64 addr), .t (.sl tos), .t (.sl txs), .t (.sl nus)]] []
      (fun r ob => r = .one (.t (.bool (dataOk t addr to tx nu))) ∧ ob = []) := by
  refine acall_fn (md := md) [none] v31 hP.mixed hP.tab (fn_at hP fn31) 1 rfl (by decide +kernel) rfl ?_
  intro ar har
  cbv
  repeat' (first | (intro; cbv) | (with_reducible refine and_side ?_ ?_; rotate_left; try cbv) | (refine ChkP.mk (by rfl) ?_; cbv) | (refine br_intro ?_ ?_ <;> intro <;> cbv) | (refine get_at har (by assumption) (by assumption) (by assumption) (by assumption) ?_; cbv) | (refine get_lt har (by assumption) (by assumption) (by assumption) ?_; intro x xx hx hxx; cbv) | (refine get_atN har (by assumption) (by assumption) (by assumption) (by assumption) ?_; cbv) | (refine get_ltN har (by assumption) (by assumption) (by assumption) ?_; intro x xx hx hxx; cbv) | (refine get_atI har (by assumption) (by assumption) (by decide) ?_; cbv) | (refine get_twoA har (by assumption) (by assumption) (by decide) ?_; intro x hx; cbv) | (refine get_twoB har (by assumption) (by assumption) (by decide) ?_; intro x hx; cbv) | (refine bytes_intro (by assumption) ?_; cbv) | (exact side_lt har (by assumption) (by assumption)) | (exact side_inb har (by assumption) (by assumption) (by assumption)) | (exact side_sh har (by decide)) | (exact side_app har (by assumption) (by assumption) (by omega)) | (exact side_app0 har (by assumption) (by omega)) | (exact side_new har (by assumption) (by omega)) | (exact side_one har (by assumption) (by omega)) | (exact side_oneN har (by assumption) (by omega)) | (exact side_flat har (by assumption)) | (exact side_sbig har (by omega)) | (refine side_sbig har ?_; simp; done) | (exact side_oneI har (by assumption) (by omega)) | (refine side_ix har ?_; simp; done) | (refine side_ix har ?_; simp; omega) | (refine call_intro (sNamed hP) ?_; rintro r ob ⟨rfl, rfl⟩; generalize hv : namedB _ = v; cbv) | (refine calld_intro (sNamed hP) ?_; generalize hv : namedB _ = v; cbv) | (refine call_intro (sTexted hP) ?_; rintro r ob ⟨rfl, rfl⟩; generalize hhx : textB _ = hx1; cbv) | (refine calld_intro (sTexted hP) ?_; generalize hhx : textB _ = hx1; cbv) | (refine call_intro (sNameOk hP (by assumption)) ?_; rintro r ob ⟨rfl, rfl⟩; generalize hv : nameOk _ = v; cbv) | (refine calld_intro (sNameOk hP (by assumption)) ?_; generalize hv : nameOk _ = v; cbv))
  all_goals have hlen1 := encN_len hto
  all_goals have hlen2 := encB_len htx
  all_goals have hlen3 := encI_len hnu
  all_goals subst har; simp only [std, icmpS, decide_eq_true_eq, decide_eq_false_iff_not, Bool.not_eq_true', Bool.not_eq_false', bne_iff_ne, ne_eq, bne_eq_false_iff_eq, beq_iff_eq, beq_eq_false_iff_ne, Int.not_lt, Int.not_le, Bool.not_true, Bool.not_false, reduceCtorEq] at *
  all_goals (refine ⟨⟨?_, rfl⟩⟩; simp_all [dataOk, numsOk, isWordB, withinB, List.getD, -List.length_eq_zero_iff])
  all_goals first
    | (intros; omega)
    | (rw [Bool.eq_iff_iff]; simp [-List.length_eq_zero_iff]; omega)
    | grind
set_option maxRecDepth 20000 in
theorem fn7 : Tryz.prog.funcs[7]? = some Tryz.f7 := rfl
set_option maxHeartbeats 40000000 in
set_option maxRecDepth 3000 in
theorem sRrOk (hP : Prg P) {n to : List (List UInt8)} {ns tos txs nus : List (List T)} {t ttl addr : Int} {tx : List UInt8} {nu : List Int} (hn : encN n = ns) (hto : encN to = tos) (htx : encB tx = txs) (hnu : encI nu = nus) :
    ACall P 7 [.agg [.t (.sl ns), .t (.int .i64 t), .t (.int .i64 ttl), .t (.int .i64 addr), .t (.sl tos), .t (.sl txs), .t (.sl nus)]] []
      (fun r ob => r = .one (.t (.bool (rrOk n t ttl addr to tx nu))) ∧ ob = []) := by
  refine acall_fn (md := md) [none] v7 hP.mixed hP.tab (fn_at hP fn7) 1 rfl (by decide +kernel) rfl ?_
  intro ar har
  cbv
  repeat' (first | (intro; cbv) | (with_reducible refine and_side ?_ ?_; rotate_left; try cbv) | (refine ChkP.mk (by rfl) ?_; cbv) | (refine br_intro ?_ ?_ <;> intro <;> cbv) | (refine get_at har (by assumption) (by assumption) (by assumption) (by assumption) ?_; cbv) | (refine get_lt har (by assumption) (by assumption) (by assumption) ?_; intro x xx hx hxx; cbv) | (refine get_atN har (by assumption) (by assumption) (by assumption) (by assumption) ?_; cbv) | (refine get_ltN har (by assumption) (by assumption) (by assumption) ?_; intro x xx hx hxx; cbv) | (refine get_atI har (by assumption) (by assumption) (by decide) ?_; cbv) | (refine get_twoA har (by assumption) (by assumption) (by decide) ?_; intro x hx; cbv) | (refine get_twoB har (by assumption) (by assumption) (by decide) ?_; intro x hx; cbv) | (refine bytes_intro (by assumption) ?_; cbv) | (exact side_lt har (by assumption) (by assumption)) | (exact side_inb har (by assumption) (by assumption) (by assumption)) | (exact side_sh har (by decide)) | (exact side_app har (by assumption) (by assumption) (by omega)) | (exact side_app0 har (by assumption) (by omega)) | (exact side_new har (by assumption) (by omega)) | (exact side_one har (by assumption) (by omega)) | (exact side_oneN har (by assumption) (by omega)) | (exact side_flat har (by assumption)) | (exact side_sbig har (by omega)) | (refine side_sbig har ?_; simp; done) | (exact side_oneI har (by assumption) (by omega)) | (refine side_ix har ?_; simp; done) | (refine side_ix har ?_; simp; omega) | (refine call_intro (sNameOk hP (by assumption)) ?_; rintro r ob ⟨rfl, rfl⟩; generalize hv : nameOk _ = v; cbv) | (refine calld_intro (sNameOk hP (by assumption)) ?_; generalize hv : nameOk _ = v; cbv) | (refine call_intro (sTypeOk hP) ?_; rintro r ob ⟨rfl, rfl⟩; generalize hty : typeB _ = ty; cbv) | (refine calld_intro (sTypeOk hP) ?_; generalize hty : typeB _ = ty; cbv) | (refine call_intro (sl3data hP (by assumption) (by assumption) (by assumption)) ?_; rintro r ob ⟨rfl, rfl⟩; generalize hdo : dataOk _ _ _ _ _ = do1; cbv) | (refine calld_intro (sl3data hP (by assumption) (by assumption) (by assumption)) ?_; generalize hdo : dataOk _ _ _ _ _ = do1; cbv))
  all_goals try (subst har; simp only [std, icmpS, decide_eq_true_eq, decide_eq_false_iff_not, Bool.not_eq_true', Bool.not_eq_false', bne_iff_ne, ne_eq, bne_eq_false_iff_eq, beq_iff_eq, beq_eq_false_iff_ne, Int.not_lt, Int.not_le, Bool.not_true, Bool.not_false, reduceCtorEq] at *)
  all_goals refine ⟨⟨?_, rfl⟩⟩
  all_goals simp_all [rrOk, withinB]
  all_goals first
    | (intros; omega)
    | grind
end Go.TL.Tryz

/- TfTyN -/
namespace Go.TL.Tryz
open Go Go.TL Go.Proofs Go.RowKit Go.MapKept
set_option maxRecDepth 20000
theorem run_mk {P : Program} (w : World) (t : TypeId) : (Instr.makeMap t none).run P w = .ok (.map (some w.heap.size)) (w.alloc (.map #[] 0)) := rfl
theorem run_ck {P : Program} (w : World) (e : Bool) (t : TypeId) (n : Int) (ht : P.underlying t = some (.int .i64)) : (Instr.checkKey e 10000 t (.int .i64 n)).run P w = .ok () w := by
  rw [show (10000 : Nat) = 9999 + 1 from rfl, Instr.checkKey]
  simp [run_underlying ht]
theorem set_push {α : Type} (h : Array α) (a b : α) : (h.push a).setIfInBounds h.size b = h.push b := by
  apply Array.ext
  · simp
  · intro i h1 h2
    rw [Array.getElem_setIfInBounds (by simpa using h2)]
    by_cases e : h.size = i
    · subst e; simp
    · have : i < h.size := by simp at h2; omega
      simp [e, Array.getElem_push, this]
theorem set_alloc (w : World) (o o' : Obj) : { w.alloc o with heap := (w.alloc o).heap.setIfInBounds w.heap.size o' } = w.alloc o' := by
  show ({ w with heap := (w.heap.push o).setIfInBounds w.heap.size o' } : World) = { w with heap := w.heap.push o' }
  rw [set_push]
theorem run_ins {P : Program} (w : World) (t kt vt : TypeId) (ht : P.underlying t = some (.map kt vt)) (hk : P.underlying kt = some (.int .i64)) (es : Array MapEntry) (k : Nat) (n : Int) (v : Value)
    (hf : Instr.findNow (.int .i64) (.int .i64 n) es.toList 0 = some none) :
    (Instr.mapUpdate t (.map (some w.heap.size)) (.int .i64 n) v).run P (w.alloc (.map es k)) = .ok () (w.alloc (.map (es.push { key := .int .i64 n, val := v, born := k }) (k + 1))) := by
  have hg : (w.alloc (.map es k)).heap[w.heap.size]? = some (.map es k) := (MapKept.heap_alloc w _).1
  unfold Instr.mapUpdate
  simp only [Sem.run_bind, run_underlying ht, Result.andThen_ok]
  have hgo : (getObj w.heap.size).run P (w.alloc (.map es k)) = .ok (.map es k) (w.alloc (.map es k)) := Go.MapKept.run_getObj_map hg
  simp only [Sem.run_bind, hgo, Result.andThen_ok, run_ck _ _ _ _ hk, Instr.findKey, run_underlying hk, hf, Sem.run_pure]
  rw [Go.MapKept.run_setObj_map _ hg, set_alloc]
def valOf : Option (Nat × Value) → Value → Value
  | some (_, v), _ => v
  | none, z => z
theorem run_look {P : Program} (w : World) (t kt vt : TypeId) (ht : P.underlying t = some (.map kt vt)) (hk : P.underlying kt = some (.int .i64)) (es : Array MapEntry) (k : Nat) (n : Int) (z : Value) (hz : ∀ w, (zeroValue vt).run P w = .ok z w) (r : Option (Nat × Value))
    (hf : Instr.findNow (.int .i64) (.int .i64 n) es.toList 0 = some r) :
    (Instr.lookup t (.map (some w.heap.size)) (.int .i64 n) false).run P (w.alloc (.map es k)) = .ok (valOf r z) (w.alloc (.map es k)) := by
  have hg : (w.alloc (.map es k)).heap[w.heap.size]? = some (.map es k) := (MapKept.heap_alloc w _).1
  have hgo : (getObj w.heap.size).run P (w.alloc (.map es k)) = .ok (.map es k) (w.alloc (.map es k)) := Go.MapKept.run_getObj_map hg
  unfold Instr.lookup
  cases r with
  | none => simp only [Sem.run_bind, run_underlying ht, Result.andThen_ok, hgo, run_ck _ _ _ _ hk, Instr.findKey, run_underlying hk, hf, Sem.run_pure, hz]; rfl
  | some p => simp only [Sem.run_bind, run_underlying ht, Result.andThen_ok, hgo, run_ck _ _ _ _ hk, Instr.findKey, run_underlying hk, hf, Sem.run_pure]; rfl
def ba (l : List UInt8) : ByteArray := ⟨l.toArray⟩
def tyFind (t : Int) : Option (Nat × Value) :=
  if t = 1 then some (0, .string ⟨#[65]⟩) else if t = 2 then some (1, .string ⟨#[78, 83]⟩) else if t = 5 then some (2, .string ⟨#[67, 78, 65, 77, 69]⟩) else if t = 6 then some (3, .string ⟨#[83, 79, 65]⟩) else
  if t = 12 then some (4, .string ⟨#[80, 84, 82]⟩) else if t = 16 then some (5, .string ⟨#[84, 88, 84]⟩) else if t = 49 then some (6, .string ⟨#[68, 72, 67, 73, 68]⟩) else none
def tyName (t : Int) : List UInt8 :=
  if t = 1 then [65] else if t = 2 then [78, 83] else if t = 5 then [67, 78, 65, 77, 69] else if t = 6 then [83, 79, 65] else
  if t = 12 then [80, 84, 82] else if t = 16 then [84, 88, 84] else if t = 49 then [68, 72, 67, 73, 68] else []
theorem zero9 (w : World) : (zeroValue 9).run Tryz.prog w = .ok (.string ⟨#[]⟩) w := by kernel_rfl
theorem beqf {a b : Int} (h : ¬ a = b) : (a == b) = false := by simpa using h
theorem find_eq (t : Int) : Instr.findNow (.int .i64) (.int .i64 t) [{ key := Value.int IntKind.i64 1, val := Value.string { data := #[65] }, born := 0 },
                { key := Value.int IntKind.i64 2, val := Value.string { data := #[78, 83] }, born := 1 },
                { key := Value.int IntKind.i64 5, val := Value.string { data := #[67, 78, 65, 77, 69] }, born := 2 },
                { key := Value.int IntKind.i64 6, val := Value.string { data := #[83, 79, 65] }, born := 3 },
                { key := Value.int IntKind.i64 12, val := Value.string { data := #[80, 84, 82] }, born := 4 },
                { key := Value.int IntKind.i64 16, val := Value.string { data := #[84, 88, 84] }, born := 5 },
                { key := Value.int IntKind.i64 49, val := Value.string { data := #[68, 72, 67, 73, 68] }, born := 6 }] 0 = some (tyFind t) := by
  unfold tyFind
  repeat' split
  all_goals simp [Instr.findNow, Instr.sameNow, beqf, *]
theorem find_val (t : Int) : valOf (tyFind t) (.string ⟨#[]⟩) = .string ⟨(tyName t).toArray⟩ := by
  by_cases h1 : t = 1
  · subst h1; rfl
  by_cases h2 : t = 2
  · subst h2; rfl
  by_cases h3 : t = 5
  · subst h3; rfl
  by_cases h4 : t = 6
  · subst h4; rfl
  by_cases h5 : t = 12
  · subst h5; rfl
  by_cases h6 : t = 16
  · subst h6; rfl
  by_cases h7 : t = 49
  · subst h7; rfl
  simp [tyFind, tyName, valOf, *]
theorem typeName_walk (t : Int) (w : World) :
    Calls Tryz.prog 45 #[.int .i64 t] w fun e w' => e = .returned (.string ⟨(tyName t).toArray⟩) ∧ Below w.heap.size w w' := by
  have u := Tryz.underlying122
  have u3 := Tryz.underlying3
  go_enter Tryz.func45, Tryz.ntmps45
  go_wp2
  rw [run_mk]
  go_wp2
  iterate 7
    rw [run_ins w 122 3 9 u u3 _ _ _ _ (by rfl)]
    go_wp2
  have hl := run_look w 122 3 9 u u3 _ 7 t (.string ⟨#[]⟩) zero9 (tyFind t) (find_eq t)
  rw [find_val] at hl
  rw [hl]
  go_wp2
  go_ret
  exact ⟨rfl, ⟨rfl, rfl, rfl, by simp, fun k hk => heap_alloc_old w _ hk⟩⟩
theorem iTypeName {P : Program} (hP : Prg P) (t : Int) : TL.ACall P 45 [.one (.t (.int .i64 t))] [] (fun r ob => r = .one (.t (.str (tyName t))) ∧ ob = []) := by
  have hP := hP.eq
  subst hP
  refine TL.acall_calls Tryz.func45 (by rfl) (by decide) ?_
  intro w ok hd vs G R hl ha
  obtain ⟨v, rfl⟩ : ∃ v, vs = [v] := by
    match vs, hl with
    | [v], _ => exact ⟨v, rfl⟩
  have hv := (ha 0 v _ rfl rfl).one_inv
  cases hv with
  | int _ _ hk =>
    refine (typeName_walk t w).mono ?_
    rintro e w' ⟨rfl, hb⟩
    refine ⟨_, rfl, ok, hd, _, [], ⟨rfl, rfl⟩, ?_, .one _ _ ?_⟩
    · refine ⟨⟨fun b hb' => Nat.lt_of_lt_of_le (R.okLt b hb') hb.size, fun n b h => absurd rfl h, fun n m b _ h => absurd rfl h, fun n o h => by cases h⟩, hb.os, hb.tape, hb.output, hb.size, fun b h1 _ => hb.block b h1, fun _ h => h, fun _ h => .inl h, fun n b h => absurd rfl h, TL.Keep.refl _ _⟩
    · have := TL.Rep.str (w := w') (ok := ok) ⟨(tyName t).toArray⟩ (by show (tyName t).toArray.size ≤ _; unfold tyName; repeat' (first | decide | split))
      exact (show TL.Rep _ _ _ _ by simpa using this)
theorem tyName_type (t : Int) : (tyName t == []) = !typeB t := by
  by_cases h1 : t = 1
  · subst h1; rfl
  by_cases h2 : t = 2
  · subst h2; rfl
  by_cases h3 : t = 5
  · subst h3; rfl
  by_cases h4 : t = 6
  · subst h4; rfl
  by_cases h5 : t = 12
  · subst h5; rfl
  by_cases h6 : t = 16
  · subst h6; rfl
  by_cases h7 : t = 49
  · subst h7; rfl
  simp [tyName, typeB, *]
theorem tyName_len (t : Int) : (tyName t).length ≤ 5 := by
  unfold tyName; repeat' (first | decide | split)
set_option maxRecDepth 20000 in
theorem fn16 : Tryz.prog.funcs[16]? = some Tryz.f16 := rfl
set_option maxHeartbeats 40000000 in
set_option maxRecDepth 3000 in
theorem iTypeOk {P : Program} (hP : Prg P) {t : Int} : ACall P 16 [.one (.t (.int .i64 t))] [] (fun r ob => r = .one (.t (.bool (typeB t))) ∧ ob = []) := by
  refine acall_fn (md := md) [none] v16 hP.mixed hP.tab (fn_at hP fn16) 1 rfl (by decide +kernel) rfl ?_
  intro ar har
  cbv
  repeat' (first | (intro; cbv) | (with_reducible refine and_side ?_ ?_; rotate_left; try cbv) | (refine ChkP.mk (by rfl) ?_; cbv) | (refine br_intro ?_ ?_ <;> intro <;> cbv) | (refine get_at har (by assumption) (by assumption) (by assumption) (by assumption) ?_; cbv) | (refine get_lt har (by assumption) (by assumption) (by assumption) ?_; intro x xx hx hxx; cbv) | (refine get_atN har (by assumption) (by assumption) (by assumption) (by assumption) ?_; cbv) | (refine get_ltN har (by assumption) (by assumption) (by assumption) ?_; intro x xx hx hxx; cbv) | (refine get_atI har (by assumption) (by assumption) (by decide) ?_; cbv) | (refine get_twoA har (by assumption) (by assumption) (by decide) ?_; intro x hx; cbv) | (refine get_twoB har (by assumption) (by assumption) (by decide) ?_; intro x hx; cbv) | (refine bytes_intro (by assumption) ?_; cbv) | (exact side_lt har (by assumption) (by assumption)) | (exact side_inb har (by assumption) (by assumption) (by assumption)) | (exact side_sh har (by decide)) | (exact side_app har (by assumption) (by assumption) (by omega)) | (exact side_app0 har (by assumption) (by omega)) | (exact side_new har (by assumption) (by omega)) | (exact side_one har (by assumption) (by omega)) | (exact side_oneN har (by assumption) (by omega)) | (exact side_flat har (by assumption)) | (exact side_sbig har (by omega)) | (refine side_sbig har ?_; simp; done) | (exact side_oneI har (by assumption) (by omega)) | (refine side_ix har ?_; simp; done) | (refine side_ix har ?_; simp; omega) | (refine call_intro (iTypeName hP _) ?_; rintro r ob ⟨rfl, rfl⟩; generalize htn : tyName _ = tn; cbv) | (refine calld_intro (iTypeName hP _) ?_; generalize htn : tyName _ = tn; cbv))
  have e := tyName_type t
  rw [htn] at e
  subst har
  refine ⟨⟨?_, rfl⟩⟩
  show A.one (V.t (T.bool (!(tn == [])))) = _
  rw [e]; simp
end Go.TL.Tryz
