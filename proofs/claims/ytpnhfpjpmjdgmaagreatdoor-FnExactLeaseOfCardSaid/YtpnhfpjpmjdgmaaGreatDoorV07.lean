/- Texts of a proof, joined by a program (merge.py): TfPutS TfRrD TfPutT TfImN TfRrOk TfTyN TfImW TfImX TfGrowI TfCat TfDatI TfGetI TfTakI TfNgP TfEndB TfRecV TfOpnA. -/
import Derived.Test.YtpnhfpjpmjdgmaaGreatDoorV06
import Derived.WalkKit
import Derived.RowKit3
import Derived.Below
import Derived.MapKept
import Derived.Lib.AppendZeros
import Derived.Test.YtpnhfpjpmjdgmaaGreatDoorCards
import Derived.Test.YtpnhfpjpmjdgmaaGreatDoorTie
import Derived.ProofKit
import Derived.OpenShut
import Derived.Carry
import Derived.ChangeSlices
import Derived.Deep.DeepHandedRow
import Derived.Lib.LaidTab
import Derived.Deep.Slices
set_option linter.all false
/- TfPutS -/
namespace Go.TL.Tryz
open Go Go.TL Go.Proofs
variable {P : Program}

def shr8 (n : Int) (k : Int) : Int := iopS .shr .i64 n k
def put16 (n : Int) : List UInt8 := if 0 ≤ n ∧ n ≤ 65535 then [byteOf (shr8 n 8), byteOf n] else []
def put32 (n : Int) : List UInt8 := if 0 ≤ n ∧ n < 4294967296 then [byteOf (shr8 n 24), byteOf (shr8 n 16), byteOf (shr8 n 8), byteOf n] else []
theorem side_byL {ar : Ar} (har : ar = std) {l m : List UInt8} {es fs gs : List (List T)} (h : encB l = gs) (e : es = gs ++ fs) (k : encB m = fs) (hn : l.length + m.length ≤ 1000000000) : Side (ar.room 1 es ∧ ar.wid 1 fs) := by
  subst har; subst h; subst k; subst e
  exact ⟨by simp [std, encB]; omega, wid_byte m⟩
set_option maxRecDepth 20000 in
theorem fn140 : Tryz.prog.funcs[140]? = some Tryz.f140 := rfl
set_option maxHeartbeats 40000000 in
set_option maxRecDepth 3000 in
theorem sPut32 (hP : Prg P) {l : List UInt8} {ls : List (List T)} {n : Int} (hl : encB l = ls) (hb : l.length ≤ 1000000) :
    ACall P 140 [.one (.t (.sl ls)), .one (.t (.int .i64 n))] [] (fun r ob => r = .one (.row 32 0) ∧ ob = [(32, .row 1 (encB (l ++ put32 n)) 0 [0] false)]) := by
  refine acall_fn (md := md) [some [(0, 1)]] v140 hP.mixed hP.tab (fn_at hP fn140) 2 rfl (by decide +kernel) rfl ?_
  intro ar har
  cbv
  repeat' (first | (intro; cbv) | (with_reducible refine and_side ?_ ?_; rotate_left; try cbv) | (refine br_intro ?_ ?_ <;> intro <;> cbv) | (exact side_sh har (by decide)) | (exact side_app0 har (by assumption) (by omega)))
  all_goals first
    | (refine side_byL (l := l) (m := [byteOf (shr8 n 24), byteOf (shr8 n 16), byteOf (shr8 n 8), byteOf n]) har hl ?_ ?_ (by simp; omega) <;> (subst har; first | rfl | (simp [encB, byteOf_wrap, std, shr8]; done)))
    | (subst har; simp only [std, icmpS, decide_eq_true_eq, decide_eq_false_iff_not, Bool.not_eq_true', Bool.not_eq_false', bne_iff_ne, ne_eq, bne_eq_false_iff_eq, beq_iff_eq, beq_eq_false_iff_ne, Int.not_lt, Int.not_le, Bool.not_true, Bool.not_false, reduceCtorEq] at *
       subst hl
       refine ⟨⟨rfl, ?_⟩⟩
       first
         | (rw [put32, if_neg (by omega)]; simp [encB]; done)
         | (rw [put32, if_pos (by omega)]; simp [encB, byteOf_wrap, shr8]; done))

def wireL (l : List UInt8) : List UInt8 := byteOf l.length :: l
def wireN (n : List (List UInt8)) : List UInt8 := n.flatMap wireL ++ [0]
theorem put_step {l : List UInt8} {n : List (List UInt8)} {i : Nat} {x : List UInt8} (hx : n[i]? = some x) : l ++ (n.take i).flatMap wireL ++ wireL x = l ++ (n.take (i + 1)).flatMap wireL := by
  rw [List.take_add_one, hx]; simp
theorem enc_len {ar : Ar} (har : ar = std) {x : List UInt8} {xx : List (List T)} (hxx : encB x = xx) : [[T.int .u8 (ar.conv .u8 (ar.len xx))]] = encB [byteOf x.length] := by
  subst har; rw [enc_byteOf, ← encB_len hxx]; rfl
theorem enc_wireL {ar : Ar} (har : ar = std) {m x : List UInt8} {ms xx : List (List T)} (hm : encB m = ms) (hxx : encB x = xx) : ar.app (ar.app ms [[T.int .u8 (ar.conv .u8 (ar.len xx))]]) xx = encB (m ++ wireL x) := by
  rw [enc_len har hxx]; subst har; subst hm; subst hxx; simp [encB, std, wireL]
set_option maxRecDepth 20000 in
theorem fn105 : Tryz.prog.funcs[105]? = some Tryz.f105 := rfl
set_option maxHeartbeats 40000000 in
set_option maxRecDepth 3000 in
theorem sl2put (hP : Prg P) {l : List UInt8} {ls : List (List T)} {n : List (List UInt8)} {ns : List (List T)} (hl : encB l = ls) (hn : encN n = ns) (hb : l.length ≤ 1000000) (hnb : NmB n) :
    ACall P 105 [.one (.row 0 0), .agg [.t (.sl ns)]] [(0, .row 1 ls 0 [0] false)] (fun r ob => r = .one (.row 0 0) ∧ ob = [(0, .row 1 (encB (l ++ wireN n)) 0 [0] false)]) := by
  refine acall_fn (md := md) [some [(0, 1)]] v105 hP.mixed hP.tab (fn_at hP fn105) 2 rfl (by decide +kernel) rfl ?_
  intro ar har
  cbv
  refine LoopP.mk (List UInt8 × List (List T) × Int) [0, 3, 5] []
    (fun x => ⟨[(0, .one (.row 0 0)), (3, .one (.ptr 16 0)), (5, .one (.t (.int .i64 x.2.2)))], [(0, .row 1 x.2.1 0 [0] false), (16, .box [.t (.sl ns)] false)]⟩)
    (fun x => encB x.1 = x.2.1 ∧ 0 ≤ x.2.2 ∧ x.1 = l ++ (n.take x.2.2.toNat).flatMap wireL ∧ x.1.length ≤ 1000000 + 17 * x.2.2.toNat ∧ x.2.2.toNat ≤ n.length) (fun x => n.length - x.2.2.toNat) (l, ls, 0) ?e ?f ?g
  case e => kernel_rfl
  case f => exact ⟨hl, Int.le_refl _, by simp, by simp; omega, by simp⟩
  case g =>
    intro x hx
    obtain ⟨m, ms, i⟩ := x
    have hm : encB m = ms := hx.1
    have hi0 : 0 ≤ i := hx.2.1
    have hmm : m = l ++ (n.take i.toNat).flatMap wireL := hx.2.2.1
    have hmb : m.length ≤ 1000000 + 17 * i.toNat := hx.2.2.2.1
    have hib : i.toNat ≤ n.length := hx.2.2.2.2
    have hnl : n.length ≤ 7 := hnb.1
    clear hx
    cbv
    repeat' (first | (intro; cbv) | (with_reducible refine and_side ?_ ?_; rotate_left; try cbv) | (refine ChkP.mk (by decide +kernel) ?_; cbv) | (refine br_intro ?_ ?_ <;> intro <;> cbv) | (refine get_atN har (by assumption) (by assumption) (by assumption) (by assumption) ?_; cbv) | (refine get_ltN har (by assumption) (by assumption) (by assumption) ?_; intro x xx hx hxx; cbv) | (exact side_one har (by assumption) (by omega)))
    · have e : ar.app (ar.app ms [[T.int .u8 (ar.conv .u8 (ar.len xx))]]) xx = encB (m ++ wireL x) := enc_wireL har hm hxx
      have hx16 := hnb.2 x (List.mem_of_getElem? hx)
      have hlt := (List.getElem?_eq_some_iff.1 hx).1
      subst har
      refine ⟨(m ++ wireL x, encB (m ++ wireL x), i + 1), ?_, ⟨rfl, by dsimp only; omega, by dsimp only; rw [hmm, put_step hx, show (i + 1).toNat = i.toNat + 1 by omega], by simp [wireL]; omega, by dsimp only; omega⟩, by dsimp only; omega⟩
      rw [← e, show i + 1 = std.iop .add .i64 i 1 from (addI (by omega) (by omega)).symm]
      kernel_rfl
    · have hx16 := hnb.2 x (List.mem_of_getElem? hx)
      refine side_byL (l := m ++ [byteOf x.length]) har rfl ?_ hxx (by simp; omega)
      have e := enc_wireL har hm hxx
      rw [wireL] at e
      refine Eq.trans e ?_
      rw [← hxx]; simp [encB]
    · have hlen := encN_len hn
      subst har; simp only [std, icmpS, decide_eq_true_eq, decide_eq_false_iff_not, Bool.not_eq_true', Bool.not_eq_false', bne_iff_ne, ne_eq, bne_eq_false_iff_eq, beq_iff_eq, beq_eq_false_iff_ne, Int.not_lt, Int.not_le, Bool.not_true, Bool.not_false, reduceCtorEq] at *
      refine ⟨⟨rfl, ?_⟩⟩
      rw [List.take_of_length_le (by omega)] at hmm
      rw [wireN, ← List.append_assoc, ← hmm, ← hm]; simp [encB]
end Go.TL.Tryz

/- TfRrD -/
namespace Go.TL.Tryz
open Go Go.TL Go.Proofs
variable {P : Program}

def namedB (t : Int) : Bool := decide (t = 2 ∨ t = 5 ∨ t = 6 ∨ t = 12)
set_option maxRecDepth 20000 in
theorem fn138 : Tryz.prog.funcs[138]? = some Tryz.f138 := rfl
set_option maxHeartbeats 40000000 in
set_option maxRecDepth 3000 in
theorem sNamed (hP : Prg P) {t : Int} : ACall P 138 [.one (.t (.int .i64 t))] [] (fun r ob => r = .one (.t (.bool (namedB t))) ∧ ob = []) := by
  refine acall_fn (md := md) [none] v138 hP.mixed hP.tab (fn_at hP fn138) 1 rfl (by decide +kernel) rfl ?_
  intro ar har
  cbv
  repeat' (first | (refine br_intro ?_ ?_ <;> intro <;> cbv))
  all_goals subst har; simp only [std, icmpS, decide_eq_true_eq, decide_eq_false_iff_not, Bool.not_eq_true', Bool.not_eq_false', bne_iff_ne, ne_eq, bne_eq_false_iff_eq, beq_iff_eq, beq_eq_false_iff_ne, Int.not_lt, Int.not_le, Bool.not_true, Bool.not_false, reduceCtorEq] at *
  · exact ⟨⟨by rw [namedB, decide_eq_true (by omega)], rfl⟩⟩
  · exact ⟨⟨by rw [namedB, decide_eq_true (by omega)], rfl⟩⟩
  · exact ⟨⟨by rw [namedB, decide_eq_true (by omega)], rfl⟩⟩
  · refine ⟨⟨?_, rfl⟩⟩
    rw [namedB]
    by_cases e : t = 12
    · rw [decide_eq_true (by omega)]; simp [e]
    · rw [decide_eq_false (by omega)]; simp [e]
end Go.TL.Tryz

/- TfPutT -/
namespace Go.TL.Tryz
open Go Go.TL Go.Proofs
variable {P : Program}

structure Rec where
  name : List (List UInt8)
  type : Int
  ttl : Int
  addr : Int
  to : List (List UInt8)
  text : List UInt8
  nums : List Int
def dataS (t addr : Int) (to : List (List UInt8)) (tx : List UInt8) (nu : List Int) : List UInt8 :=
  if t = 1 then put32 addr else if t = 6 then wireN to ++ put32 (nu.getD 0 0) ++ put32 (nu.getD 1 0) else if namedB t then wireN to else byteOf tx.length :: tx
theorem wireN_len {n : List (List UInt8)} (h : NmB n) : (wireN n).length ≤ 200 := by
  have : ∀ m : List (List UInt8), (∀ l ∈ m, l.length ≤ 16) → (m.flatMap wireL).length ≤ 17 * m.length := by
    intro m
    induction m with
    | nil => simp
    | cons x r ih => intro h; have h1 := h x (.head _); have h2 := ih fun l hl => h l (.tail _ hl); simp [wireL] at *; omega
  have h1 := this n h.2
  have h2 := h.1
  simp only [wireN, List.length_append, List.length_singleton]; omega
theorem put16_len (n : Int) : (put16 n).length ≤ 2 := by unfold put16; split <;> simp
theorem put32_len (n : Int) : (put32 n).length ≤ 4 := by unfold put32; split <;> simp
set_option maxRecDepth 20000 in
theorem fn101 : Tryz.prog.funcs[101]? = some Tryz.f101 := rfl
set_option maxHeartbeats 40000000 in
set_option maxRecDepth 3000 in
theorem sl3put (hP : Prg P) {to : List (List UInt8)} {ns tos txs nus : List (List T)} {t ttl addr : Int} {tx : List UInt8} {nu : List Int} (hto : encN to = tos) (htob : NmB to) (htx : encB tx = txs) (htxl : tx.length ≤ 1000) (hnu : encI nu = nus) (hnu6 : t = 6 → nu.length = 2) :
    ACall P 101 [.agg [.t (.sl ns), .t (.int .i64 t), .t (.int .i64 ttl), .t (.int .i64 addr), .t (.sl tos), .t (.sl txs), .t (.sl nus)]] []
      (fun r ob => r = .one (.row 32 0) ∧ ob = [(32, .row 1 (encB (dataS t addr to tx nu)) 0 [0] false)]) := by
  have hnil : encB [] = [] := rfl
  refine acall_fn (md := md) [some [(0, 1)]] v101 hP.mixed hP.tab (fn_at hP fn101) 1 rfl (by decide +kernel) rfl ?_
  intro ar har
  cbv
  have hw := wireN_len htob
  repeat' (first | (intro; cbv) | (with_reducible refine and_side ?_ ?_; rotate_left; try cbv) | (refine br_intro ?_ ?_ <;> intro <;> cbv) | (exact side_flat har (by assumption)) | (refine call_intro (sPut32 hP (by assumption) (by first | omega | decide | (simp only [List.length_append, List.length_nil]; omega))) ?_; rintro r ob ⟨rfl, rfl⟩; generalize hls : encB (_ ++ put32 _) = ls; cbv) | (refine call_intro (sl2put hP (by assumption) (by assumption) (by first | omega | decide | (simp only [List.length_append, List.length_nil]; omega)) (by assumption)) ?_; rintro r ob ⟨rfl, rfl⟩; generalize hls : encB (_ ++ wireN _) = ls; cbv) | (refine calld_intro (sl2put hP (by assumption) (by assumption) (by first | omega | decide | (simp only [List.length_append, List.length_nil]; omega)) (by assumption)) ?_; generalize hls : encB (_ ++ wireN _) = ls; cbv) | (refine call_intro (sNamed hP) ?_; rintro r ob ⟨rfl, rfl⟩; generalize hv : namedB _ = v; cbv))
  · subst har; simp only [std, icmpS, decide_eq_true_eq, decide_eq_false_iff_not, Bool.not_eq_true', Bool.not_eq_false', bne_iff_ne, ne_eq, bne_eq_false_iff_eq, beq_iff_eq, beq_eq_false_iff_ne, Int.not_lt, Int.not_le, Bool.not_true, Bool.not_false, reduceCtorEq] at *
    rename_i h1
    exact ⟨⟨rfl, by rw [dataS, if_pos h1, ← hls]; rfl⟩⟩
  · have h6 : t = 6 := by subst har; simp [std, icmpS] at *; assumption
    obtain ⟨x, y, rfl⟩ : ∃ x y, nu = [x, y] := by
      match nu, hnu6 h6 with
      | [x, y], _ => exact ⟨x, y, rfl⟩
    have hx4 := put32_len x
    refine get_int har hnu ⟨by decide, by simp⟩ ?_
    intro z hz
    simp at hz; subst hz
    cbv
    repeat' (first | (with_reducible refine and_side ?_ ?_; rotate_left; try cbv) | (exact side_flat har (by assumption)) | (refine calld_intro (sPut32 hP (by assumption) (by first | omega | decide | (simp only [List.length_append, List.length_nil]; omega))) ?_; generalize hls : encB (_ ++ put32 _) = ls; cbv))
    refine get_int har hnu ⟨by decide, by simp⟩ ?_
    intro z hz
    simp at hz; subst hz
    cbv
    repeat' (first | (intro; cbv) | (with_reducible refine and_side ?_ ?_; rotate_left; try cbv) | (refine ChkP.mk (by decide +kernel) ?_; cbv) | (exact side_flat har (by assumption)) | (refine calld_intro (sPut32 hP (by assumption) (by first | omega | decide | (simp only [List.length_append, List.length_nil]; omega))) ?_; generalize hls : encB (_ ++ put32 _) = ls; cbv))
    subst har
    refine ⟨⟨rfl, ?_⟩⟩
    subst h6
    rw [← hls]; rfl
  · subst har; simp only [std, icmpS, decide_eq_true_eq, decide_eq_false_iff_not, Bool.not_eq_true', Bool.not_eq_false', bne_iff_ne, ne_eq, bne_eq_false_iff_eq, beq_iff_eq, beq_eq_false_iff_ne, Int.not_lt, Int.not_le, Bool.not_true, Bool.not_false, reduceCtorEq] at *
    exact ⟨⟨rfl, by rw [dataS, if_neg (by assumption), if_neg (by assumption), hv, if_pos (by assumption), ← hls]; rfl⟩⟩
  · have e := enc_wireL har hnil htx
    rename_i h1 h2 h3 _ _
    refine ⟨⟨rfl, ?_⟩⟩
    have e2 : encB (dataS t addr to tx nu) = encB (wireL tx) := by
      rw [dataS, if_neg (by subst har; simpa [std, icmpS] using h1), if_neg (by subst har; simpa [std, icmpS] using h2), hv, if_neg (by rw [h3]; simp)]; rfl
    rw [e2]
    refine congrArg (fun x => [(32, Ob.row 1 x 0 [0] false)]) (Eq.trans ?_ e)
    subst har; rfl
  · refine side_byL (l := [byteOf tx.length]) har (enc_len har htx).symm (by subst har; rfl) htx (by simp; omega)
theorem dataS_len {t addr : Int} {to : List (List UInt8)} {tx : List UInt8} {nu : List Int} (h : NmB to) (hx : tx.length ≤ 1000) : (dataS t addr to tx nu).length ≤ 1001 := by
  have h1 := wireN_len h
  have h2 := put32_len addr
  have h3 := put32_len (nu.getD 0 0)
  have h4 := put32_len (nu.getD 1 0)
  unfold dataS
  split
  · omega
  · split
    · simp only [List.length_append]; omega
    · split
      · omega
      · simp; omega
def rrS (n : List (List UInt8)) (t ttl cls : Int) (d : List UInt8) : List UInt8 := wireN n ++ put16 t ++ put16 cls ++ put32 ttl ++ put16 d.length ++ d
end Go.TL.Tryz

/- TfImN -/
namespace Go.TL.Tryz
open Go Go.TL Go.Proofs
variable {P : Program}

def withinB (a b c : Int) : Bool := decide (b ≤ a ∧ a ≤ c)
set_option maxRecDepth 20000 in
theorem fn29 : Tryz.prog.funcs[29]? = some Tryz.f29 := rfl
set_option maxHeartbeats 40000000 in
set_option maxRecDepth 3000 in
theorem iWithin (hP : Prg P) {a b c : Int} : ACall P 29 [.one (.t (.int .i64 a)), .one (.t (.int .i64 b)), .one (.t (.int .i64 c))] [] (fun r ob => r = .one (.t (.bool (withinB a b c))) ∧ ob = []) := by
  refine acall_fn (md := md) [none] v29 hP.mixed hP.tab (fn_at hP fn29) 3 rfl (by decide +kernel) rfl ?_
  intro ar har
  cbv
  repeat' (first | (refine br_intro ?_ ?_ <;> intro <;> cbv))
  all_goals subst har; simp only [std, icmpS, decide_eq_true_eq, decide_eq_false_iff_not, Bool.not_eq_true', Bool.not_eq_false', bne_iff_ne, ne_eq, bne_eq_false_iff_eq, beq_iff_eq, beq_eq_false_iff_ne, Int.not_lt, Int.not_le, Bool.not_true, Bool.not_false, reduceCtorEq] at *
  · refine ⟨⟨?_, rfl⟩⟩
    rw [withinB]; congr 3; simp; omega
  · exact ⟨⟨by rw [withinB, decide_eq_false (by omega)], rfl⟩⟩
set_option maxRecDepth 20000 in
theorem fn123 : Tryz.prog.funcs[123]? = some Tryz.f123 := rfl
set_option maxHeartbeats 40000000 in
set_option maxRecDepth 3000 in
theorem iCh (hP : Prg P) {a : Int} : ACall P 123 [.one (.t (.int .u8 a))] [] (fun r ob => r = .one (.t (.bool (chOk a))) ∧ ob = []) := by
  refine acall_fn (md := md) [none] v123 hP.mixed hP.tab (fn_at hP fn123) 1 rfl (by decide +kernel) rfl ?_
  intro ar har
  cbv
  repeat' (first | (refine br_intro ?_ ?_ <;> intro <;> cbv))
  all_goals subst har; simp only [std, icmpS, decide_eq_true_eq, decide_eq_false_iff_not, Bool.not_eq_true', Bool.not_eq_false', bne_iff_ne, ne_eq, bne_eq_false_iff_eq, beq_iff_eq, beq_eq_false_iff_ne, Int.not_lt, Int.not_le, Bool.not_true, Bool.not_false, reduceCtorEq] at *
  all_goals refine ⟨⟨?_, rfl⟩⟩
  all_goals rw [chOk]
  all_goals first
    | (rw [decide_eq_true (by omega)]; done)
    | (by_cases e : a = 45
       · rw [decide_eq_true (by omega)]; simp [e]
       · rw [decide_eq_false (by omega)]; simp [e])
abbrev fCh : T := .fn (.func 152) [] [.pt [.fn (.func 123) [] []] 0]
set_option maxRecDepth 20000 in
theorem fn152 : Tryz.prog.funcs[152]? = some Tryz.f152 := rfl
set_option maxHeartbeats 40000000 in
set_option maxRecDepth 3000 in
theorem iAllB1 (hP : Prg P) {a : Int} : ACall P 152 [.one (.t (.int .u8 a)), .one (.t (.pt [.fn (.func 123) [] []] 0))] [] (fun r ob => r = .one (.t (.bool (!chOk a))) ∧ ob = []) := by
  refine acall_fn (md := md) [none] v152 hP.mixed hP.tab (fn_at hP fn152) 2 rfl (by decide +kernel) rfl ?_
  intro ar har
  cbv
  repeat' (first | (refine call_intro (iCh hP) ?_; rintro r ob ⟨rfl, rfl⟩; generalize hch : chOk _ = ch; cbv))
  subst har; simp only [std, icmpS, decide_eq_true_eq, decide_eq_false_iff_not, Bool.not_eq_true', Bool.not_eq_false', bne_iff_ne, ne_eq, bne_eq_false_iff_eq, beq_iff_eq, beq_eq_false_iff_ne, Int.not_lt, Int.not_le, Bool.not_true, Bool.not_false, reduceCtorEq] at *
  exact ⟨⟨by first | rfl | rw [hch], rfl⟩⟩
set_option maxRecDepth 20000 in
theorem fn165 : Tryz.prog.funcs[165]? = some Tryz.f165 := rfl
set_option maxHeartbeats 40000000 in
set_option maxRecDepth 3000 in
theorem iIdxB (hP : Prg P) {l : List UInt8} {ls : List (List T)} (hl : encB l = ls) : ACall P 165 [.one (.t (.sl ls)), .one (.t (.fn (.func 152) [] [.pt [.fn (.func 123) [] []] 0]))] []
    (fun r ob => ∃ v, (0 ≤ v ↔ (l.all fun x => chOk (iB x)) = false) ∧ r = .one (.t (.int .i64 v)) ∧ ob = []) := by
  refine acall_fn (md := md) [none] v165 hP.mixed hP.tab (fn_at hP fn165) 2 rfl (by decide +kernel) rfl ?_
  intro ar har
  cbv
  repeat' (first | (intro; cbv))
  refine LoopP.mk Int [0, 1, 7, 8] [] (fun i => ⟨[(0, .one (.t (.sl ls))), (1, .one (.t (.fn (.func 152) [] [.pt [.fn (.func 123) [] []] 0]))), (7, .one (.t (.int .i64 (ar.len ls)))), (8, .one (.t (.int .i64 i)))], []⟩)
    (fun i => 0 ≤ i ∧ ((l.take i.toNat).all fun x => chOk (iB x)) = true) (fun i => l.length - i.toNat) 0 ?e ?f ?g
  case e => kernel_rfl
  case f => simp
  case g =>
    intro i hi
    have hi0 : 0 ≤ i := hi.1
    have hi1 : ((l.take i.toNat).all fun x => chOk (iB x)) = true := hi.2
    clear hi
    cbv
    repeat' (first | (intro; cbv) | (refine br_intro ?_ ?_ <;> intro <;> cbv) | (refine get_lt har (by assumption) (by assumption) (by assumption) ?_; intro x xx hx hxx; cbv) | (refine call_intro (iAllB1 hP) ?_; rintro r ob ⟨rfl, rfl⟩; generalize hch : (!chOk _) = ch; cbv))
    all_goals have hlen := encB_len hl
    all_goals subst har; simp only [std, icmpS, decide_eq_true_eq, decide_eq_false_iff_not, Bool.not_eq_true', Bool.not_eq_false', bne_iff_ne, ne_eq, bne_eq_false_iff_eq, beq_iff_eq, beq_eq_false_iff_ne, Int.not_lt, Int.not_le, Bool.not_true, Bool.not_false, reduceCtorEq] at *
    · exact ⟨⟨i, ⟨fun _ => all_bad (p := fun x => chOk (iB x)) hx (by rw [hxx]; simp_all), fun _ => hi0⟩, rfl, rfl⟩⟩
    · rw [addI (a := i) (b := 1) (by omega) (by omega)]
      exact ⟨i + 1, by kernel_rfl, ⟨by omega, by rw [show (i + 1).toNat = i.toNat + 1 by omega]; exact all_take_succ hx hi1 (by rw [hxx]; simp_all)⟩, by omega⟩
    · rw [take_all (by omega)] at hi1
      exact ⟨⟨-1, ⟨fun h => absurd h (by decide), fun h => by rw [hi1] at h; cases h⟩, rfl, rfl⟩⟩
set_option maxRecDepth 20000 in
theorem fn151 : Tryz.prog.funcs[151]? = some Tryz.f151 := rfl
set_option maxHeartbeats 40000000 in
set_option maxRecDepth 3000 in
theorem iConB (hP : Prg P) {l : List UInt8} {ls : List (List T)} (hl : encB l = ls) : ACall P 151 [.one (.t (.sl ls)), .one (.t (.fn (.func 152) [] [.pt [.fn (.func 123) [] []] 0]))] []
    (fun r ob => r = .one (.t (.bool (!l.all fun x => chOk (iB x)))) ∧ ob = []) := by
  refine acall_fn (md := md) [none] v151 hP.mixed hP.tab (fn_at hP fn151) 2 rfl (by decide +kernel) rfl ?_
  intro ar har
  cbv
  repeat' (first | (refine call_intro (iIdxB hP (by assumption)) ?_; rintro r ob ⟨v, hv, rfl, rfl⟩; cbv))
  subst har; simp only [std, icmpS, decide_eq_true_eq, decide_eq_false_iff_not, Bool.not_eq_true', Bool.not_eq_false', bne_iff_ne, ne_eq, bne_eq_false_iff_eq, beq_iff_eq, beq_eq_false_iff_ne, Int.not_lt, Int.not_le, Bool.not_true, Bool.not_false, reduceCtorEq] at *
  refine ⟨⟨?_, rfl⟩⟩
  by_cases h : (0 : Int) ≤ v
  · rw [hv.1 h]; simp [h]
  · have : (l.all fun x => chOk (iB x)) = true := by
      cases e : l.all fun x => chOk (iB x) with
      | true => rfl
      | false => exact absurd (hv.2 e) h
    rw [this]; simp [h]
set_option maxRecDepth 20000 in
theorem fn122 : Tryz.prog.funcs[122]? = some Tryz.f122 := rfl
set_option maxHeartbeats 40000000 in
set_option maxRecDepth 3000 in
theorem iAllB (hP : Prg P) {l : List UInt8} {ls : List (List T)} (hl : encB l = ls) : ACall P 122 [.one (.t (.sl ls)), .one (.t (.fn (.func 123) [] []))] []
    (fun r ob => r = .one (.t (.bool (l.all fun x => chOk (iB x)))) ∧ ob = []) := by
  refine acall_fn (md := md) [none] v122 hP.mixed hP.tab (fn_at hP fn122) 2 rfl (by decide +kernel) rfl ?_
  intro ar har
  cbv
  repeat' (first | (refine call_intro (iConB hP (by assumption)) ?_; rintro r ob ⟨rfl, rfl⟩; generalize hcb : (!List.all _ _) = cb; cbv))
  subst har; simp only [std, icmpS, decide_eq_true_eq, decide_eq_false_iff_not, Bool.not_eq_true', Bool.not_eq_false', bne_iff_ne, ne_eq, bne_eq_false_iff_eq, beq_iff_eq, beq_eq_false_iff_ne, Int.not_lt, Int.not_le, Bool.not_true, Bool.not_false, reduceCtorEq] at *
  exact ⟨⟨by rw [← hcb]; simp, rfl⟩⟩
set_option maxRecDepth 20000 in
theorem fn80 : Tryz.prog.funcs[80]? = some Tryz.f80 := rfl
set_option maxHeartbeats 40000000 in
set_option maxRecDepth 3000 in
theorem iLabelOk (hP : Prg P) {l : List UInt8} {ls : List (List T)} (hl : encB l = ls) : ACall P 80 [.one (.t (.sl ls))] [] (fun r ob => r = .one (.t (.bool (labelOk l))) ∧ ob = []) := by
  refine acall_fn (md := md) [none] v80 hP.mixed hP.tab (fn_at hP fn80) 1 rfl (by decide +kernel) rfl ?_
  intro ar har
  cbv
  repeat' (first | (intro; cbv) | (refine br_intro ?_ ?_ <;> intro <;> cbv) | (refine call_intro (iWithin hP) ?_; rintro r ob ⟨rfl, rfl⟩; generalize hwi : withinB _ _ _ = wi; cbv) | (refine call_intro (iAllB hP (by assumption)) ?_; rintro r ob ⟨rfl, rfl⟩; generalize hab : List.all _ _ = ab; cbv))
  all_goals have hlen := encB_len hl
  all_goals subst har; simp only [std, icmpS, decide_eq_true_eq, decide_eq_false_iff_not, Bool.not_eq_true', Bool.not_eq_false', bne_iff_ne, ne_eq, bne_eq_false_iff_eq, beq_iff_eq, beq_eq_false_iff_ne, Int.not_lt, Int.not_le, Bool.not_true, Bool.not_false, reduceCtorEq] at *
  · refine ⟨⟨?_, rfl⟩⟩
    rename_i hw _
    rw [hw] at hwi
    simp only [withinB, decide_eq_true_eq] at hwi
    rw [labelOk, hab, decide_eq_true (by omega), decide_eq_true (by omega)]; simp
  · refine ⟨⟨?_, rfl⟩⟩
    rename_i hw _
    rw [hw] at hwi
    simp only [withinB, decide_eq_false_iff_not] at hwi
    by_cases e : 1 ≤ l.length
    · rw [labelOk, decide_eq_false (p := l.length ≤ 15) (by omega)]; simp
    · rw [labelOk, decide_eq_false e]; simp
set_option maxRecDepth 20000 in
theorem fn146 : Tryz.prog.funcs[146]? = some Tryz.f146 := rfl
set_option maxHeartbeats 40000000 in
set_option maxRecDepth 3000 in
theorem iAllN1 (hP : Prg P) {l : List UInt8} {ls : List (List T)} (hl : encB l = ls) : ACall P 146 [.one (.t (.sl ls)), .one (.t (.pt [.fn (.func 80) [] []] 0))] [] (fun r ob => r = .one (.t (.bool (!labelOk l))) ∧ ob = []) := by
  refine acall_fn (md := md) [none] v146 hP.mixed hP.tab (fn_at hP fn146) 2 rfl (by decide +kernel) rfl ?_
  intro ar har
  cbv
  repeat' (first | (refine call_intro (iLabelOk hP (by assumption)) ?_; rintro r ob ⟨rfl, rfl⟩; generalize hlo : labelOk _ = lo; cbv))
  subst har; simp only [std, icmpS, decide_eq_true_eq, decide_eq_false_iff_not, Bool.not_eq_true', Bool.not_eq_false', bne_iff_ne, ne_eq, bne_eq_false_iff_eq, beq_iff_eq, beq_eq_false_iff_ne, Int.not_lt, Int.not_le, Bool.not_true, Bool.not_false, reduceCtorEq] at *
  exact ⟨⟨by first | rfl | rw [hlo], rfl⟩⟩
set_option maxRecDepth 20000 in
theorem fn163 : Tryz.prog.funcs[163]? = some Tryz.f163 := rfl
set_option maxHeartbeats 40000000 in
set_option maxRecDepth 3000 in
theorem iIdxN (hP : Prg P) {n : List (List UInt8)} {ns : List (List T)} (hn : encN n = ns) : ACall P 163 [.one (.t (.sl ns)), .one (.t (.fn (.func 146) [] [.pt [.fn (.func 80) [] []] 0]))] []
    (fun r ob => ∃ v, (0 ≤ v ↔ n.all labelOk = false) ∧ r = .one (.t (.int .i64 v)) ∧ ob = []) := by
  refine acall_fn (md := md) [none] v163 hP.mixed hP.tab (fn_at hP fn163) 2 rfl (by decide +kernel) rfl ?_
  intro ar har
  cbv
  repeat' (first | (intro; cbv))
  refine LoopP.mk Int [0, 1, 7, 8] [] (fun i => ⟨[(0, .one (.t (.sl ns))), (1, .one (.t (.fn (.func 146) [] [.pt [.fn (.func 80) [] []] 0]))), (7, .one (.t (.int .i64 (ar.len ns)))), (8, .one (.t (.int .i64 i)))], []⟩)
    (fun i => 0 ≤ i ∧ (n.take i.toNat).all labelOk = true) (fun i => n.length - i.toNat) 0 ?e ?f ?g
  case e => kernel_rfl
  case f => simp
  case g =>
    intro i hi
    have hi0 : 0 ≤ i := hi.1
    have hi1 : (n.take i.toNat).all labelOk = true := hi.2
    clear hi
    cbv
    repeat' (first | (intro; cbv) | (refine br_intro ?_ ?_ <;> intro <;> cbv) | (refine get_ltN har (by assumption) (by assumption) (by assumption) ?_; intro x xx hx hxx; cbv) | (refine call_intro (iAllN1 hP (by assumption)) ?_; rintro r ob ⟨rfl, rfl⟩; generalize hlo : (!labelOk _) = lo; cbv))
    all_goals have hlen := encN_len hn
    all_goals subst har; simp only [std, icmpS, decide_eq_true_eq, decide_eq_false_iff_not, Bool.not_eq_true', Bool.not_eq_false', bne_iff_ne, ne_eq, bne_eq_false_iff_eq, beq_iff_eq, beq_eq_false_iff_ne, Int.not_lt, Int.not_le, Bool.not_true, Bool.not_false, reduceCtorEq] at *
    · exact ⟨⟨i, ⟨fun _ => all_bad (p := labelOk) hx (by simp_all), fun _ => hi0⟩, rfl, rfl⟩⟩
    · rw [addI (a := i) (b := 1) (by omega) (by omega)]
      exact ⟨i + 1, by kernel_rfl, ⟨by omega, by rw [show (i + 1).toNat = i.toNat + 1 by omega]; exact all_take_succ hx hi1 (by simp_all)⟩, by omega⟩
    · rw [take_all (by omega)] at hi1
      exact ⟨⟨-1, ⟨fun h => absurd h (by decide), fun h => by rw [hi1] at h; cases h⟩, rfl, rfl⟩⟩
set_option maxRecDepth 20000 in
theorem fn145 : Tryz.prog.funcs[145]? = some Tryz.f145 := rfl
set_option maxHeartbeats 40000000 in
set_option maxRecDepth 3000 in
theorem iConN (hP : Prg P) {n : List (List UInt8)} {ns : List (List T)} (hn : encN n = ns) : ACall P 145 [.one (.t (.sl ns)), .one (.t (.fn (.func 146) [] [.pt [.fn (.func 80) [] []] 0]))] []
    (fun r ob => r = .one (.t (.bool (!n.all labelOk))) ∧ ob = []) := by
  refine acall_fn (md := md) [none] v145 hP.mixed hP.tab (fn_at hP fn145) 2 rfl (by decide +kernel) rfl ?_
  intro ar har
  cbv
  repeat' (first | (refine call_intro (iIdxN hP (by assumption)) ?_; rintro r ob ⟨v, hv, rfl, rfl⟩; cbv))
  subst har; simp only [std, icmpS, decide_eq_true_eq, decide_eq_false_iff_not, Bool.not_eq_true', Bool.not_eq_false', bne_iff_ne, ne_eq, bne_eq_false_iff_eq, beq_iff_eq, beq_eq_false_iff_ne, Int.not_lt, Int.not_le, Bool.not_true, Bool.not_false, reduceCtorEq] at *
  refine ⟨⟨?_, rfl⟩⟩
  by_cases h : (0 : Int) ≤ v
  · rw [hv.1 h]; simp [h]
  · have : n.all labelOk = true := by
      cases e : n.all labelOk with
      | true => rfl
      | false => exact absurd (hv.2 e) h
    rw [this]; simp [h]
set_option maxRecDepth 20000 in
theorem fn110 : Tryz.prog.funcs[110]? = some Tryz.f110 := rfl
set_option maxHeartbeats 40000000 in
set_option maxRecDepth 3000 in
theorem iAllN (hP : Prg P) {n : List (List UInt8)} {ns : List (List T)} (hn : encN n = ns) : ACall P 110 [.one (.t (.sl ns)), .one (.t (.fn (.func 80) [] []))] []
    (fun r ob => r = .one (.t (.bool (n.all labelOk))) ∧ ob = []) := by
  refine acall_fn (md := md) [none] v110 hP.mixed hP.tab (fn_at hP fn110) 2 rfl (by decide +kernel) rfl ?_
  intro ar har
  cbv
  repeat' (first | (refine call_intro (iConN hP (by assumption)) ?_; rintro r ob ⟨rfl, rfl⟩; generalize hcb : (!List.all _ _) = cb; cbv))
  subst har; simp only [std, icmpS, decide_eq_true_eq, decide_eq_false_iff_not, Bool.not_eq_true', Bool.not_eq_false', bne_iff_ne, ne_eq, bne_eq_false_iff_eq, beq_iff_eq, beq_eq_false_iff_ne, Int.not_lt, Int.not_le, Bool.not_true, Bool.not_false, reduceCtorEq] at *
  exact ⟨⟨by rw [← hcb]; simp, rfl⟩⟩
set_option maxRecDepth 20000 in
theorem fn70 : Tryz.prog.funcs[70]? = some Tryz.f70 := rfl
set_option maxHeartbeats 40000000 in
set_option maxRecDepth 3000 in
theorem iNameOk (hP : Prg P) {n : List (List UInt8)} {ns : List (List T)} (hn : encN n = ns) : ACall P 70 [.agg [.t (.sl ns)]] [] (fun r ob => r = .one (.t (.bool (nameOk n))) ∧ ob = []) := by
  refine acall_fn (md := md) [none] v70 hP.mixed hP.tab (fn_at hP fn70) 1 rfl (by decide +kernel) rfl ?_
  intro ar har
  cbv
  repeat' (first | (intro; cbv) | (refine br_intro ?_ ?_ <;> intro <;> cbv) | (refine call_intro (iAllN hP (by assumption)) ?_; rintro r ob ⟨rfl, rfl⟩; generalize hab : List.all _ _ = ab; cbv))
  all_goals have hlen := encN_len hn
  all_goals subst har; simp only [std, icmpS, decide_eq_true_eq, decide_eq_false_iff_not, Bool.not_eq_true', Bool.not_eq_false', bne_iff_ne, ne_eq, bne_eq_false_iff_eq, beq_iff_eq, beq_eq_false_iff_ne, Int.not_lt, Int.not_le, Bool.not_true, Bool.not_false, reduceCtorEq] at *
  · exact ⟨⟨by rw [nameOk, hab, decide_eq_true (by omega)]; simp, rfl⟩⟩
  · exact ⟨⟨by rw [nameOk, decide_eq_false (by omega)]; simp, rfl⟩⟩
def isWordB (n : Int) : Bool := withinB n 0 4294967295
set_option maxRecDepth 20000 in
theorem fn113 : Tryz.prog.funcs[113]? = some Tryz.f113 := rfl
set_option maxHeartbeats 40000000 in
set_option maxRecDepth 3000 in
theorem iIsWord (hP : Prg P) {n : Int} : ACall P 113 [.one (.t (.int .i64 n))] [] (fun r ob => r = .one (.t (.bool (isWordB n))) ∧ ob = []) := by
  refine acall_fn (md := md) [none] v113 hP.mixed hP.tab (fn_at hP fn113) 1 rfl (by decide +kernel) rfl ?_
  intro ar har
  cbv
  repeat' (first | (refine call_intro (iWithin hP) ?_; rintro r ob ⟨rfl, rfl⟩; generalize hwi : withinB _ _ _ = wi; cbv))
  exact ⟨⟨by rw [isWordB, hwi], rfl⟩⟩
set_option maxRecDepth 20000 in
theorem fn114 : Tryz.prog.funcs[114]? = some Tryz.f114 := rfl
set_option maxHeartbeats 40000000 in
set_option maxRecDepth 3000 in
theorem iHasTo (hP : Prg P) {t : Int} : ACall P 114 [.one (.t (.int .i64 t))] [] (fun r ob => r = .one (.t (.bool (namedB t))) ∧ ob = []) := by
  refine acall_fn (md := md) [none] v114 hP.mixed hP.tab (fn_at hP fn114) 1 rfl (by decide +kernel) rfl ?_
  intro ar har
  cbv
  repeat' (first | (refine br_intro ?_ ?_ <;> intro <;> cbv))
  all_goals subst har; simp only [std, icmpS, decide_eq_true_eq, decide_eq_false_iff_not, Bool.not_eq_true', Bool.not_eq_false', bne_iff_ne, ne_eq, bne_eq_false_iff_eq, beq_iff_eq, beq_eq_false_iff_ne, Int.not_lt, Int.not_le, Bool.not_true, Bool.not_false, reduceCtorEq] at *
  · exact ⟨⟨by rw [namedB, decide_eq_true (by omega)], rfl⟩⟩
  · exact ⟨⟨by rw [namedB, decide_eq_true (by omega)], rfl⟩⟩
  · exact ⟨⟨by rw [namedB, decide_eq_true (by omega)], rfl⟩⟩
  · refine ⟨⟨?_, rfl⟩⟩
    rw [namedB]
    by_cases e : t = 12
    · rw [decide_eq_true (by omega)]; simp [e]
    · rw [decide_eq_false (by omega)]; simp [e]
def textB (t : Int) : Bool := decide (t = 16 ∨ t = 49)
set_option maxRecDepth 20000 in
theorem fn115 : Tryz.prog.funcs[115]? = some Tryz.f115 := rfl
set_option maxHeartbeats 40000000 in
set_option maxRecDepth 3000 in
theorem iHasText (hP : Prg P) {t : Int} : ACall P 115 [.one (.t (.int .i64 t))] [] (fun r ob => r = .one (.t (.bool (textB t))) ∧ ob = []) := by
  refine acall_fn (md := md) [none] v115 hP.mixed hP.tab (fn_at hP fn115) 1 rfl (by decide +kernel) rfl ?_
  intro ar har
  cbv
  repeat' (first | (refine br_intro ?_ ?_ <;> intro <;> cbv))
  all_goals subst har; simp only [std, icmpS, decide_eq_true_eq, decide_eq_false_iff_not, Bool.not_eq_true', Bool.not_eq_false', bne_iff_ne, ne_eq, bne_eq_false_iff_eq, beq_iff_eq, beq_eq_false_iff_ne, Int.not_lt, Int.not_le, Bool.not_true, Bool.not_false, reduceCtorEq] at *
  · exact ⟨⟨by rw [textB, decide_eq_true (by omega)], rfl⟩⟩
  · refine ⟨⟨?_, rfl⟩⟩
    rw [textB]
    by_cases e : t = 49
    · rw [decide_eq_true (by omega)]; simp [e]
    · rw [decide_eq_false (by omega)]; simp [e]
set_option maxRecDepth 20000 in
theorem fn139 : Tryz.prog.funcs[139]? = some Tryz.f139 := rfl
set_option maxHeartbeats 40000000 in
set_option maxRecDepth 3000 in
theorem sTexted (hP : Prg P) {t : Int} : ACall P 139 [.one (.t (.int .i64 t))] [] (fun r ob => r = .one (.t (.bool (textB t))) ∧ ob = []) := by
  refine acall_fn (md := md) [none] v139 hP.mixed hP.tab (fn_at hP fn139) 1 rfl (by decide +kernel) rfl ?_
  intro ar har
  cbv
  repeat' (first | (refine br_intro ?_ ?_ <;> intro <;> cbv))
  all_goals subst har; simp only [std, icmpS, decide_eq_true_eq, decide_eq_false_iff_not, Bool.not_eq_true', Bool.not_eq_false', bne_iff_ne, ne_eq, bne_eq_false_iff_eq, beq_iff_eq, beq_eq_false_iff_ne, Int.not_lt, Int.not_le, Bool.not_true, Bool.not_false, reduceCtorEq] at *
  · exact ⟨⟨by rw [textB, decide_eq_true (by omega)], rfl⟩⟩
  · refine ⟨⟨?_, rfl⟩⟩
    rw [textB]
    by_cases e : t = 49
    · rw [decide_eq_true (by omega)]; simp [e]
    · rw [decide_eq_false (by omega)]; simp [e]
def typeB (t : Int) : Bool := decide (t = 1 ∨ t = 2 ∨ t = 5 ∨ t = 6 ∨ t = 12 ∨ t = 16 ∨ t = 49)
set_option maxRecDepth 20000 in
theorem fn98 : Tryz.prog.funcs[98]? = some Tryz.f98 := rfl
set_option maxHeartbeats 40000000 in
set_option maxRecDepth 3000 in
theorem sTypeOk (hP : Prg P) {t : Int} : ACall P 98 [.one (.t (.int .i64 t))] [] (fun r ob => r = .one (.t (.bool (typeB t))) ∧ ob = []) := by
  refine acall_fn (md := md) [none] v98 hP.mixed hP.tab (fn_at hP fn98) 1 rfl (by decide +kernel) rfl ?_
  intro ar har
  cbv
  repeat' (first | (refine br_intro ?_ ?_ <;> intro <;> cbv))
  all_goals subst har; simp only [std, icmpS, decide_eq_true_eq, decide_eq_false_iff_not, Bool.not_eq_true', Bool.not_eq_false', bne_iff_ne, ne_eq, bne_eq_false_iff_eq, beq_iff_eq, beq_eq_false_iff_ne, Int.not_lt, Int.not_le, Bool.not_true, Bool.not_false, reduceCtorEq] at *
  all_goals first
    | (exfalso; omega)
    | exact ⟨⟨by rw [typeB, decide_eq_true (by omega)], rfl⟩⟩
    | exact ⟨⟨by rw [typeB, decide_eq_false (by omega)], rfl⟩⟩
end Go.TL.Tryz

/- TfRrOk -/
namespace Go.TL.Tryz
open Go Go.TL Go.Proofs
variable {P : Program}

theorem get_twoA {ar : Ar} (har : ar = std) {b : List Int} {es : List (List T)} {i : Int} {K : List T → Prop} (hes : encI b = es) (h : ar.icmp .neq (ar.len es) 2 = false) (hi : 0 ≤ i ∧ i < 2)
    (k : ∀ (x : Int), b[i.toNat]? = some x → K [.int .i64 x]) : GetP ar es i K := by
  refine get_int har hes ⟨hi.1, ?_⟩ k
  have := encI_len hes
  subst har; simp [std, icmpS] at h; omega
theorem get_twoB {ar : Ar} (har : ar = std) {b : List Int} {es : List (List T)} {i : Int} {K : List T → Prop} (hes : encI b = es) (h : ar.icmp .eql (ar.len es) 2 = true) (hi : 0 ≤ i ∧ i < 2)
    (k : ∀ (x : Int), b[i.toNat]? = some x → K [.int .i64 x]) : GetP ar es i K := by
  refine get_int har hes ⟨hi.1, ?_⟩ k
  have := encI_len hes
  subst har; simp [std, icmpS] at h; omega
theorem get_atI {ar : Ar} (har : ar = std) {b : List Int} {es : List (List T)} {i x : Int} {K : List T → Prop} (hes : encI b = es) (hx : b[i.toNat]? = some x) (hi : 0 ≤ i) (k : K [.int .i64 x]) : GetP ar es i K :=
  get_int har hes ⟨hi, (List.getElem?_eq_some_iff.1 hx).1⟩ fun y h => by rw [hx] at h; injection h with h; subst h; exact k
def numsOk (t : Int) (nu : List Int) : Bool :=
  if t = 6 then decide (nu.length = 2) && (isWordB (nu.getD 0 0) && withinB (nu.getD 1 0) 0 100000) else decide (nu.length = 0)
def dataOk (t addr : Int) (to : List (List UInt8)) (tx : List UInt8) (nu : List Int) : Bool :=
  (if t = 1 then isWordB addr else decide (addr = 0)) && ((if namedB t then nameOk to else decide (to.length = 0)) && ((if textB t then decide (tx.length ≤ 40) else decide (tx.length = 0)) && numsOk t nu))
def rrOk (n : List (List UInt8)) (t ttl addr : Int) (to : List (List UInt8)) (tx : List UInt8) (nu : List Int) : Bool :=
  nameOk n && (typeB t && (withinB ttl 0 100000 && dataOk t addr to tx nu))
theorem two_of {nu : List Int} {x y : Int} (h : nu.length = 2) (h0 : nu[0]? = some x) (h1 : nu[1]? = some y) : nu = [x, y] := by
  match nu, h with
  | [a, b], _ => simp at h0 h1; rw [h0, h1]
set_option maxRecDepth 20000 in
theorem fn99 : Tryz.prog.funcs[99]? = some Tryz.f99 := rfl
set_option maxHeartbeats 40000000 in
set_option maxRecDepth 3000 in
theorem sl3data (hP : Prg P) {to : List (List UInt8)} {ns tos txs nus : List (List T)} {t ttl addr : Int} {tx : List UInt8} {nu : List Int} (hto : encN to = tos) (htx : encB tx = txs) (hnu : encI nu = nus) :
    ACall P 99 [.agg [.t (.sl ns), .t (.int .i64 t), .t (.int .i64 ttl), .t (.int .i64 addr), .t (.sl tos), .t (.sl txs), .t (.sl nus)]] []
      (fun r ob => r = .one (.t (.bool (dataOk t addr to tx nu))) ∧ ob = []) := by
  refine acall_fn (md := md) [none] v99 hP.mixed hP.tab (fn_at hP fn99) 1 rfl (by decide +kernel) rfl ?_
  intro ar har
  cbv
  repeat' (first | (intro; cbv) | (refine br_intro ?_ ?_ <;> intro <;> cbv) | (refine get_atI har (by assumption) (by assumption) (by decide) ?_; cbv) | (refine get_twoA har (by assumption) (by assumption) (by decide) ?_; intro x hx; cbv) | (refine call_intro (sNamed hP) ?_; rintro r ob ⟨rfl, rfl⟩; generalize hv : namedB _ = v; cbv) | (refine call_intro (sTexted hP) ?_; rintro r ob ⟨rfl, rfl⟩; generalize hhx : textB _ = hx1; cbv) | (refine call_intro (sNameOk hP (by assumption)) ?_; rintro r ob ⟨rfl, rfl⟩; generalize hv : nameOk _ = v; cbv))
  all_goals have hlen1 := encN_len hto
  all_goals have hlen2 := encB_len htx
  all_goals have hlen3 := encI_len hnu
  all_goals subst har; simp only [std, icmpS, decide_eq_true_eq, decide_eq_false_iff_not, Bool.not_eq_true', Bool.not_eq_false', bne_iff_ne, ne_eq, bne_eq_false_iff_eq, beq_iff_eq, beq_eq_false_iff_ne, Int.not_lt, Int.not_le, Bool.not_true, Bool.not_false, reduceCtorEq] at *
  all_goals (refine ⟨⟨?_, rfl⟩⟩; simp_all [dataOk, numsOk, isWordB, withinB, List.getD, -List.length_eq_zero_iff])
  all_goals first
    | (intros; omega)
    | (rw [Bool.eq_iff_iff]; simp [-List.length_eq_zero_iff]; omega)
    | grind
set_option maxRecDepth 20000 in
theorem fn54 : Tryz.prog.funcs[54]? = some Tryz.f54 := rfl
set_option maxHeartbeats 40000000 in
set_option maxRecDepth 3000 in
theorem sRrOk (hP : Prg P) {n to : List (List UInt8)} {ns tos txs nus : List (List T)} {t ttl addr : Int} {tx : List UInt8} {nu : List Int} (hn : encN n = ns) (hto : encN to = tos) (htx : encB tx = txs) (hnu : encI nu = nus) :
    ACall P 54 [.agg [.t (.sl ns), .t (.int .i64 t), .t (.int .i64 ttl), .t (.int .i64 addr), .t (.sl tos), .t (.sl txs), .t (.sl nus)]] []
      (fun r ob => r = .one (.t (.bool (rrOk n t ttl addr to tx nu))) ∧ ob = []) := by
  refine acall_fn (md := md) [none] v54 hP.mixed hP.tab (fn_at hP fn54) 1 rfl (by decide +kernel) rfl ?_
  intro ar har
  cbv
  repeat' (first | (refine br_intro ?_ ?_ <;> intro <;> cbv) | (refine call_intro (sNameOk hP (by assumption)) ?_; rintro r ob ⟨rfl, rfl⟩; generalize hv : nameOk _ = v; cbv) | (refine call_intro (sTypeOk hP) ?_; rintro r ob ⟨rfl, rfl⟩; generalize hty : typeB _ = ty; cbv) | (refine call_intro (sl3data hP (by assumption) (by assumption) (by assumption)) ?_; rintro r ob ⟨rfl, rfl⟩; generalize hdo : dataOk _ _ _ _ _ = do1; cbv))
  all_goals try (subst har; simp only [std, icmpS, decide_eq_true_eq, decide_eq_false_iff_not, Bool.not_eq_true', Bool.not_eq_false', bne_iff_ne, ne_eq, bne_eq_false_iff_eq, beq_iff_eq, beq_eq_false_iff_ne, Int.not_lt, Int.not_le, Bool.not_true, Bool.not_false, reduceCtorEq] at *)
  all_goals refine ⟨⟨?_, rfl⟩⟩
  all_goals simp_all [rrOk, withinB]
  all_goals first
    | (intros; omega)
    | grind
end Go.TL.Tryz

/- TfTyN -/
namespace Go.TL.Tryz
open Go Go.TL Go.Proofs Go.RowKit Go.MapKept
set_option maxRecDepth 20000
theorem run_mk {P : Program} (w : World) (t : TypeId) : (Instr.makeMap t none).run P w = .ok (.map (some w.heap.size)) (w.alloc (.map #[] 0)) := rfl
theorem run_ck {P : Program} (w : World) (e : Bool) (t : TypeId) (n : Int) (ht : P.underlying t = some (.int .i64)) : (Instr.checkKey e 10000 t (.int .i64 n)).run P w = .ok () w := by
  rw [show (10000 : Nat) = 9999 + 1 from rfl, Instr.checkKey]
  simp [run_underlying ht]
theorem set_push {α : Type} (h : Array α) (a b : α) : (h.push a).setIfInBounds h.size b = h.push b := by
  apply Array.ext
  · simp
  · intro i h1 h2
    rw [Array.getElem_setIfInBounds (by simpa using h2)]
    by_cases e : h.size = i
    · subst e; simp
    · have : i < h.size := by simp at h2; omega
      simp [e, Array.getElem_push, this]
theorem set_alloc (w : World) (o o' : Obj) : { w.alloc o with heap := (w.alloc o).heap.setIfInBounds w.heap.size o' } = w.alloc o' := by
  show ({ w with heap := (w.heap.push o).setIfInBounds w.heap.size o' } : World) = { w with heap := w.heap.push o' }
  rw [set_push]
theorem run_ins {P : Program} (w : World) (t kt vt : TypeId) (ht : P.underlying t = some (.map kt vt)) (hk : P.underlying kt = some (.int .i64)) (es : Array MapEntry) (k : Nat) (n : Int) (v : Value)
    (hf : Instr.findNow (.int .i64) (.int .i64 n) es.toList 0 = some none) :
    (Instr.mapUpdate t (.map (some w.heap.size)) (.int .i64 n) v).run P (w.alloc (.map es k)) = .ok () (w.alloc (.map (es.push { key := .int .i64 n, val := v, born := k }) (k + 1))) := by
  have hg : (w.alloc (.map es k)).heap[w.heap.size]? = some (.map es k) := (MapKept.heap_alloc w _).1
  unfold Instr.mapUpdate
  simp only [Sem.run_bind, run_underlying ht, Result.andThen_ok]
  have hgo : (getObj w.heap.size).run P (w.alloc (.map es k)) = .ok (.map es k) (w.alloc (.map es k)) := Go.MapKept.run_getObj_map hg
  simp only [Sem.run_bind, hgo, Result.andThen_ok, run_ck _ _ _ _ hk, Instr.findKey, run_underlying hk, hf, Sem.run_pure]
  rw [Go.MapKept.run_setObj_map _ hg, set_alloc]
def valOf : Option (Nat × Value) → Value → Value
  | some (_, v), _ => v
  | none, z => z
theorem run_look {P : Program} (w : World) (t kt vt : TypeId) (ht : P.underlying t = some (.map kt vt)) (hk : P.underlying kt = some (.int .i64)) (es : Array MapEntry) (k : Nat) (n : Int) (z : Value) (hz : ∀ w, (zeroValue vt).run P w = .ok z w) (r : Option (Nat × Value))
    (hf : Instr.findNow (.int .i64) (.int .i64 n) es.toList 0 = some r) :
    (Instr.lookup t (.map (some w.heap.size)) (.int .i64 n) false).run P (w.alloc (.map es k)) = .ok (valOf r z) (w.alloc (.map es k)) := by
  have hg : (w.alloc (.map es k)).heap[w.heap.size]? = some (.map es k) := (MapKept.heap_alloc w _).1
  have hgo : (getObj w.heap.size).run P (w.alloc (.map es k)) = .ok (.map es k) (w.alloc (.map es k)) := Go.MapKept.run_getObj_map hg
  unfold Instr.lookup
  cases r with
  | none => simp only [Sem.run_bind, run_underlying ht, Result.andThen_ok, hgo, run_ck _ _ _ _ hk, Instr.findKey, run_underlying hk, hf, Sem.run_pure, hz]; rfl
  | some p => simp only [Sem.run_bind, run_underlying ht, Result.andThen_ok, hgo, run_ck _ _ _ _ hk, Instr.findKey, run_underlying hk, hf, Sem.run_pure]; rfl
def ba (l : List UInt8) : ByteArray := ⟨l.toArray⟩
def tyFind (t : Int) : Option (Nat × Value) :=
  if t = 1 then some (0, .string ⟨#[65]⟩) else if t = 2 then some (1, .string ⟨#[78, 83]⟩) else if t = 5 then some (2, .string ⟨#[67, 78, 65, 77, 69]⟩) else if t = 6 then some (3, .string ⟨#[83, 79, 65]⟩) else
  if t = 12 then some (4, .string ⟨#[80, 84, 82]⟩) else if t = 16 then some (5, .string ⟨#[84, 88, 84]⟩) else if t = 49 then some (6, .string ⟨#[68, 72, 67, 73, 68]⟩) else none
def tyName (t : Int) : List UInt8 :=
  if t = 1 then [65] else if t = 2 then [78, 83] else if t = 5 then [67, 78, 65, 77, 69] else if t = 6 then [83, 79, 65] else
  if t = 12 then [80, 84, 82] else if t = 16 then [84, 88, 84] else if t = 49 then [68, 72, 67, 73, 68] else []
theorem zero9 (w : World) : (zeroValue 9).run Tryz.prog w = .ok (.string ⟨#[]⟩) w := by kernel_rfl
theorem beqf {a b : Int} (h : ¬ a = b) : (a == b) = false := by simpa using h
theorem find_eq (t : Int) : Instr.findNow (.int .i64) (.int .i64 t) [{ key := Value.int IntKind.i64 1, val := Value.string { data := #[65] }, born := 0 },
                { key := Value.int IntKind.i64 2, val := Value.string { data := #[78, 83] }, born := 1 },
                { key := Value.int IntKind.i64 5, val := Value.string { data := #[67, 78, 65, 77, 69] }, born := 2 },
                { key := Value.int IntKind.i64 6, val := Value.string { data := #[83, 79, 65] }, born := 3 },
                { key := Value.int IntKind.i64 12, val := Value.string { data := #[80, 84, 82] }, born := 4 },
                { key := Value.int IntKind.i64 16, val := Value.string { data := #[84, 88, 84] }, born := 5 },
                { key := Value.int IntKind.i64 49, val := Value.string { data := #[68, 72, 67, 73, 68] }, born := 6 }] 0 = some (tyFind t) := by
  unfold tyFind
  repeat' split
  all_goals simp [Instr.findNow, Instr.sameNow, beqf, *]
theorem find_val (t : Int) : valOf (tyFind t) (.string ⟨#[]⟩) = .string ⟨(tyName t).toArray⟩ := by
  by_cases h1 : t = 1
  · subst h1; rfl
  by_cases h2 : t = 2
  · subst h2; rfl
  by_cases h3 : t = 5
  · subst h3; rfl
  by_cases h4 : t = 6
  · subst h4; rfl
  by_cases h5 : t = 12
  · subst h5; rfl
  by_cases h6 : t = 16
  · subst h6; rfl
  by_cases h7 : t = 49
  · subst h7; rfl
  simp [tyFind, tyName, valOf, *]
theorem typeName_walk (t : Int) (w : World) :
    Calls Tryz.prog 147 #[.int .i64 t] w fun e w' => e = .returned (.string ⟨(tyName t).toArray⟩) ∧ Below w.heap.size w w' := by
  have u := Tryz.underlying160
  have u3 := Tryz.underlying3
  go_enter Tryz.func147, Tryz.ntmps147
  go_wp2
  rw [run_mk]
  go_wp2
  iterate 7
    rw [run_ins w 160 3 9 u u3 _ _ _ _ (by rfl)]
    go_wp2
  have hl := run_look w 160 3 9 u u3 _ 7 t (.string ⟨#[]⟩) zero9 (tyFind t) (find_eq t)
  rw [find_val] at hl
  rw [hl]
  go_wp2
  go_ret
  exact ⟨rfl, ⟨rfl, rfl, rfl, by simp, fun k hk => heap_alloc_old w _ hk⟩⟩
theorem iTypeName {P : Program} (hP : Prg P) (t : Int) : TL.ACall P 147 [.one (.t (.int .i64 t))] [] (fun r ob => r = .one (.t (.str (tyName t))) ∧ ob = []) := by
  have hP := hP.eq
  subst hP
  refine TL.acall_calls Tryz.func147 (by rfl) (by decide) ?_
  intro w ok hd vs G R hl ha
  obtain ⟨v, rfl⟩ : ∃ v, vs = [v] := by
    match vs, hl with
    | [v], _ => exact ⟨v, rfl⟩
  have hv := (ha 0 v _ rfl rfl).one_inv
  cases hv with
  | int _ _ hk =>
    refine (typeName_walk t w).mono ?_
    rintro e w' ⟨rfl, hb⟩
    refine ⟨_, rfl, ok, hd, _, [], ⟨rfl, rfl⟩, ?_, .one _ _ ?_⟩
    · refine ⟨⟨fun b hb' => Nat.lt_of_lt_of_le (R.okLt b hb') hb.size, fun n b h => absurd rfl h, fun n m b _ h => absurd rfl h, fun n o h => by cases h⟩, hb.os, hb.tape, hb.output, hb.size, fun b h1 _ => hb.block b h1, fun _ h => h, fun _ h => .inl h, fun n b h => absurd rfl h, TL.Keep.refl _ _⟩
    · have := TL.Rep.str (w := w') (ok := ok) ⟨(tyName t).toArray⟩ (by show (tyName t).toArray.size ≤ _; unfold tyName; repeat' (first | decide | split))
      exact (show TL.Rep _ _ _ _ by simpa using this)
theorem tyName_type (t : Int) : (tyName t == []) = !typeB t := by
  by_cases h1 : t = 1
  · subst h1; rfl
  by_cases h2 : t = 2
  · subst h2; rfl
  by_cases h3 : t = 5
  · subst h3; rfl
  by_cases h4 : t = 6
  · subst h4; rfl
  by_cases h5 : t = 12
  · subst h5; rfl
  by_cases h6 : t = 16
  · subst h6; rfl
  by_cases h7 : t = 49
  · subst h7; rfl
  simp [tyName, typeB, *]
theorem tyName_len (t : Int) : (tyName t).length ≤ 5 := by
  unfold tyName; repeat' (first | decide | split)
set_option maxRecDepth 20000 in
theorem fn112 : Tryz.prog.funcs[112]? = some Tryz.f112 := rfl
set_option maxHeartbeats 40000000 in
set_option maxRecDepth 3000 in
theorem iTypeOk {P : Program} (hP : Prg P) {t : Int} : ACall P 112 [.one (.t (.int .i64 t))] [] (fun r ob => r = .one (.t (.bool (typeB t))) ∧ ob = []) := by
  refine acall_fn (md := md) [none] v112 hP.mixed hP.tab (fn_at hP fn112) 1 rfl (by decide +kernel) rfl ?_
  intro ar har
  cbv
  repeat' (first | (refine call_intro (iTypeName hP _) ?_; rintro r ob ⟨rfl, rfl⟩; generalize htn : tyName _ = tn; cbv))
  have e := tyName_type t
  rw [htn] at e
  subst har
  refine ⟨⟨?_, rfl⟩⟩
  show A.one (V.t (T.bool (!(tn == [])))) = _
  rw [e]; simp
end Go.TL.Tryz

/- TfImW -/
namespace Go.TL.Tryz
open Go Go.TL Go.Proofs
variable {P : Program}

def twoB (n : Int) : List UInt8 := [byteOf (shr8 n 8), byteOf n]
def fourB (n : Int) : List UInt8 := twoB (shr8 n 16) ++ twoB n
set_option maxRecDepth 20000 in
theorem fn164 : Tryz.prog.funcs[164]? = some Tryz.f164 := rfl
set_option maxHeartbeats 40000000 in
set_option maxRecDepth 3000 in
theorem iTwo (hP : Prg P) {n : Int} : ACall P 164 [.one (.t (.int .i64 n))] [] (fun r ob => r = .one (.row 32 0) ∧ ob = [(32, .row 1 (encB (twoB n)) 0 [0] false)]) := by
  refine acall_fn (md := md) [some [(0, 1)]] v164 hP.mixed hP.tab (fn_at hP fn164) 1 rfl (by decide +kernel) rfl ?_
  intro ar har
  cbv
  repeat' (first | (intro; cbv) | (with_reducible refine and_side ?_ ?_; rotate_left; try cbv) | (exact side_sh har (by decide)))
  subst har
  exact ⟨⟨rfl, by simp [encB, twoB, byteOf_wrap, std, shr8]⟩⟩
set_option maxRecDepth 20000 in
theorem fn150 : Tryz.prog.funcs[150]? = some Tryz.f150 := rfl
set_option maxHeartbeats 40000000 in
set_option maxRecDepth 3000 in
theorem iFour (hP : Prg P) {n : Int} : ACall P 150 [.one (.t (.int .i64 n))] [] (fun r ob => r = .one (.row 32 0) ∧ ob = [(32, .row 1 (encB (fourB n)) 0 [0] false)]) := by
  have q1 : (twoB (shr8 n 16)).length = 2 := rfl
  have q2 : (twoB n).length = 2 := rfl
  refine acall_fn (md := md) [some [(0, 1)]] v150 hP.mixed hP.tab (fn_at hP fn150) 1 rfl (by decide +kernel) rfl ?_
  intro ar har
  cbv
  repeat' (first | (intro; cbv) | (with_reducible refine and_side ?_ ?_; rotate_left; try cbv) | (exact side_sh har (by decide)) | (exact side_flat har (by assumption)) | (refine call_intro (iTwo hP) ?_; rintro r ob ⟨rfl, rfl⟩; generalize htw : encB (twoB _) = tw; cbv))
  · rename_i h0 tw1 h1
    exact ⟨⟨rfl, by rw [fourB, enc_app (l := twoB (shr8 n 16)) (by subst har; exact h1) htw]; subst har; rfl⟩⟩
  · rename_i h0 tw1 h1
    exact side_app har (l := twoB (shr8 n 16)) (by subst har; exact h1) htw (by omega)
set_option maxRecDepth 20000 in
theorem fn92 : Tryz.prog.funcs[92]? = some Tryz.f92 := rfl
set_option maxHeartbeats 40000000 in
set_option maxRecDepth 3000 in
theorem iClone (hP : Prg P) {l : List UInt8} {ls : List (List T)} (hl : encB l = ls) (hb : l.length ≤ 1000000) : ACall P 92 [.one (.t (.sl ls))] [] (fun r ob => r = .one (.row 32 0) ∧ ob = [(32, .row 1 (encB l) 0 [0] false)]) := by
  refine acall_fn (md := md) [some [(0, 1)]] v92 hP.mixed hP.tab (fn_at hP fn92) 1 rfl (by decide +kernel) rfl ?_
  intro ar har
  cbv
  repeat' (first | (intro; cbv) | (with_reducible refine and_side ?_ ?_; rotate_left; try cbv) | (refine br_intro ?_ ?_ <;> intro <;> cbv) | (exact side_app0 har (by assumption) (by omega)))
  all_goals subst har
  · rename_i b h1 h2
    exact ⟨⟨rfl, by rw [hl, show ls = [] from h2 h1]⟩⟩
  · exact ⟨⟨rfl, by rw [hl]; rfl⟩⟩
set_option maxRecDepth 20000 in
theorem fn128 : Tryz.prog.funcs[128]? = some Tryz.f128 := rfl
set_option maxHeartbeats 40000000 in
set_option maxRecDepth 3000 in
theorem iWire (hP : Prg P) {n : List (List UInt8)} {ns : List (List T)} (hn : encN n = ns) (hnb : NmB n) : ACall P 128 [.agg [.t (.sl ns)]] [] (fun r ob => r = .one (.row 32 0) ∧ ob = [(32, .row 1 (encB (wireN n)) 0 [0] false)]) := by
  refine acall_fn (md := md) [some [(0, 1)]] v128 hP.mixed hP.tab (fn_at hP fn128) 1 rfl (by decide +kernel) rfl ?_
  intro ar har
  cbv
  repeat' (first | (intro; cbv))
  refine LoopP.mk (List UInt8 × List (List T) × Int) [3, 8, 9, 10] []
    (fun x => ⟨[(3, .one (.row 16 0)), (8, .one (.t (.sl ns))), (9, .one (.t (.int .i64 (ar.len ns)))), (10, .one (.t (.int .i64 x.2.2)))], [(16, .row 1 x.2.1 0 [0] false)]⟩)
    (fun x => encB x.1 = x.2.1 ∧ 0 ≤ x.2.2 ∧ x.1 = [] ++ (n.take x.2.2.toNat).flatMap wireL ∧ x.1.length ≤ 17 * x.2.2.toNat ∧ x.2.2.toNat ≤ n.length) (fun x => n.length - x.2.2.toNat) ([], [], 0) ?e ?f ?g
  case e => kernel_rfl
  case f => exact ⟨rfl, Int.le_refl _, by simp, by simp, by simp⟩
  case g =>
    intro x hx
    obtain ⟨m, ms, i⟩ := x
    have hm : encB m = ms := hx.1
    have hi0 : 0 ≤ i := hx.2.1
    have hmm : m = [] ++ (n.take i.toNat).flatMap wireL := hx.2.2.1
    have hmb : m.length ≤ 17 * i.toNat := hx.2.2.2.1
    have hib : i.toNat ≤ n.length := hx.2.2.2.2
    have hnl : n.length ≤ 7 := hnb.1
    clear hx
    cbv
    repeat' (first | (intro; cbv) | (with_reducible refine and_side ?_ ?_; rotate_left; try cbv) | (refine br_intro ?_ ?_ <;> intro <;> cbv) | (refine get_ltN har (by assumption) (by assumption) (by assumption) ?_; intro x xx hx hxx; cbv) | (exact side_one har (by assumption) (by omega)))
    · have e : ar.app (ar.app ms [[T.int .u8 (ar.conv .u8 (ar.len xx))]]) xx = encB (m ++ wireL x) := enc_wireL har hm hxx
      have hx16 := hnb.2 x (List.mem_of_getElem? hx)
      have hlt := (List.getElem?_eq_some_iff.1 hx).1
      subst har
      refine ⟨(m ++ wireL x, encB (m ++ wireL x), i + 1), ?_, ⟨rfl, by dsimp only; omega, by dsimp only; rw [hmm, put_step hx, show (i + 1).toNat = i.toNat + 1 by omega], by simp [wireL]; omega, by dsimp only; omega⟩, by dsimp only; omega⟩
      rw [← e, show i + 1 = std.iop .add .i64 i 1 from (addI (by omega) (by omega)).symm]
      kernel_rfl
    · have hx16 := hnb.2 x (List.mem_of_getElem? hx)
      refine side_byL (l := m ++ [byteOf x.length]) har rfl ?_ hxx (by simp; omega)
      have e := enc_wireL har hm hxx
      rw [wireL] at e
      refine Eq.trans e ?_
      rw [← hxx]; simp [encB]
    · have hlen := encN_len hn
      subst har; simp only [std, icmpS, decide_eq_true_eq, decide_eq_false_iff_not, Bool.not_eq_true', Bool.not_eq_false', bne_iff_ne, ne_eq, bne_eq_false_iff_eq, beq_iff_eq, beq_eq_false_iff_ne, Int.not_lt, Int.not_le, Bool.not_true, Bool.not_false, reduceCtorEq] at *
      refine ⟨⟨rfl, ?_⟩⟩
      rw [List.take_of_length_le (by omega)] at hmm
      rw [wireN, ← List.nil_append (n.flatMap wireL), ← hmm, ← hm]; simp [encB]
def cmpI (a b : Int) : Int := if a < b then -1 else if b < a then 1 else 0
set_option maxRecDepth 20000 in
theorem fn100 : Tryz.prog.funcs[100]? = some Tryz.f100 := rfl
set_option maxHeartbeats 40000000 in
set_option maxRecDepth 3000 in
theorem sl3num (hP : Prg P) {a b : Int} : ACall P 100 [.one (.t (.int .i64 a)), .one (.t (.int .i64 b))] [] (fun r ob => r = .one (.t (.int .i64 (cmpI a b))) ∧ ob = []) := by
  refine acall_fn (md := md) [none] v100 hP.mixed hP.tab (fn_at hP fn100) 2 rfl (by decide +kernel) rfl ?_
  intro ar har
  cbv
  repeat' (first | (refine br_intro ?_ ?_ <;> intro <;> cbv))
  all_goals subst har; simp only [std, icmpS, decide_eq_true_eq, decide_eq_false_iff_not, Bool.not_eq_true', Bool.not_eq_false', bne_iff_ne, ne_eq, bne_eq_false_iff_eq, beq_iff_eq, beq_eq_false_iff_ne, Int.not_lt, Int.not_le, Bool.not_true, Bool.not_false, reduceCtorEq] at *
  · exact ⟨⟨by rw [cmpI, if_pos (by omega)], rfl⟩⟩
  · exact ⟨⟨by rw [cmpI, if_neg (by omega), if_pos (by omega)], rfl⟩⟩
  · exact ⟨⟨by rw [cmpI, if_neg (by omega), if_neg (by omega)], rfl⟩⟩
def cmpB (a b : List UInt8) : Int := if Op.bytesLess a b then -1 else if Op.bytesLess b a then 1 else 0
set_option maxRecDepth 20000 in
theorem fn58 : Tryz.prog.funcs[58]? = some Tryz.f58 := rfl
set_option maxHeartbeats 40000000 in
set_option maxRecDepth 3000 in
theorem sl2bytes (hP : Prg P) {l m : List UInt8} {ls ms : List (List T)} (hl : encB l = ls) (hm : encB m = ms) : ACall P 58 [.one (.t (.sl ls)), .one (.t (.sl ms))] [] (fun r ob => r = .one (.t (.int .i64 (cmpB l m))) ∧ ob = []) := by
  refine acall_fn (md := md) [none] v58 hP.mixed hP.tab (fn_at hP fn58) 2 rfl (by decide +kernel) rfl ?_
  intro ar har
  cbv
  repeat' (first | (refine br_intro ?_ ?_ <;> intro <;> cbv) | (refine bytes_intro (by assumption) ?_; cbv))
  all_goals subst har
  · rename_i h1
    exact ⟨⟨by rw [cmpB, if_pos (show Op.bytesLess l m = true from h1)], rfl⟩⟩
  · rename_i h1 h2
    exact ⟨⟨by rw [cmpB, if_neg (by rw [show Op.bytesLess l m = false from h1]; simp), if_pos (show Op.bytesLess m l = true from h2)], rfl⟩⟩
  · rename_i h1 h2
    exact ⟨⟨by rw [cmpB, if_neg (by rw [show Op.bytesLess l m = false from h1]; simp), if_neg (by rw [show Op.bytesLess m l = false from h2]; simp)], rfl⟩⟩
/-- Labels from the last on. -/
def cmpGo : List (List UInt8) → List (List UInt8) → Int
  | [], [] => 0
  | [], _ :: _ => -1
  | _ :: _, [] => 1
  | a :: r, b :: q => if cmpB a b = 0 then cmpGo r q else cmpB a b
def cmpN (m n : List (List UInt8)) : Int := cmpGo m.reverse n.reverse
theorem cmpGo_step {a b : List (List UInt8)} {i : Nat} {x y : List UInt8} (hx : a[i]? = some x) (hy : b[i]? = some y) : cmpGo (a.drop i) (b.drop i) = if cmpB x y = 0 then cmpGo (a.drop (i + 1)) (b.drop (i + 1)) else cmpB x y := by
  rw [drop_at hx, drop_at hy, cmpGo]
theorem cmpGo_end {a b : List (List UInt8)} (h : a = [] ∨ b = []) : cmpGo a b = cmpI a.length b.length := by
  cases a with
  | nil => cases b with
    | nil => rfl
    | cons => simp only [cmpGo, cmpI, List.length_nil, List.length_cons]; rw [if_pos (by omega)]
  | cons => cases b with
    | nil => simp only [cmpGo, cmpI, List.length_nil, List.length_cons]; rw [if_neg (by omega), if_pos (by omega)]
    | cons => simp at h
theorem rev_at {n : List (List UInt8)} {i : Nat} {x : List UInt8} (h1 : 1 ≤ i) (h : n[n.length - i]? = some x) (hi : i ≤ n.length) : n.reverse[i - 1]? = some x := by
  rw [List.getElem?_reverse (by omega)]
  rw [show n.length - 1 - (i - 1) = n.length - i by omega]; exact h
theorem get_back {ar : Ar} (har : ar = std) {n : List (List UInt8)} {es : List (List T)} {i : Int} {K : List T → Prop} (hes : encN n = es) (h : ar.icmp .leq i (ar.len es) = true) (h1 : 1 ≤ i) (hl : n.length ≤ 2000000)
    (k : ∀ (x : List UInt8) (xx : List (List T)), n[n.length - i.toNat]? = some x → encB x = xx → K [.sl xx]) : GetP ar es (ar.iop .sub .i64 (ar.len es) i) K := by
  have hlen := encN_len hes
  have e : ar.iop .sub .i64 (ar.len es) i = (n.length : Int) - i := by
    subst har
    simp [std, icmpS] at h
    show iopS .sub .i64 (es.length : Int) i = _
    rw [subI (by omega) (by omega)]; omega
  have hle : i ≤ n.length := by subst har; simp [std, icmpS] at h; omega
  rw [e]
  refine get_label har hes ⟨by omega, by omega⟩ ?_
  intro x xx hx hxx
  exact k x xx (by rw [show n.length - i.toNat = ((n.length : Int) - i).toNat by omega]; exact hx) hxx
theorem cmp_done {m n : List (List UInt8)} {i : Nat} (h : m.length ≤ i ∨ n.length ≤ i) (h1 : i ≤ m.length) (h2 : i ≤ n.length) (hc : cmpN m n = cmpGo (m.reverse.drop i) (n.reverse.drop i)) : cmpN m n = cmpI m.length n.length := by
  rw [hc, cmpGo_end (h.imp (fun h => List.drop_of_length_le (by simpa using h)) (fun h => List.drop_of_length_le (by simpa using h)))]
  simp only [List.length_drop, List.length_reverse, cmpI]
  repeat' split
  all_goals first
    | rfl
    | (exfalso; omega)
set_option maxRecDepth 20000 in
theorem fn19 : Tryz.prog.funcs[19]? = some Tryz.f19 := rfl
set_option maxHeartbeats 40000000 in
set_option maxRecDepth 3000 in
theorem sl2cmp (hP : Prg P) {m n : List (List UInt8)} {ms ns : List (List T)} (hm : encN m = ms) (hn : encN n = ns) (hml : m.length ≤ 2000000) (hnl : n.length ≤ 2000000) : ACall P 19 [.agg [.t (.sl ms)], .agg [.t (.sl ns)]] []
    (fun r ob => r = .one (.t (.int .i64 (cmpN m n))) ∧ ob = []) := by
  refine acall_fn (md := md) [none] v19 hP.mixed hP.tab (fn_at hP fn19) 2 rfl (by decide +kernel) rfl ?_
  intro ar har
  cbv
  refine LoopP.mk Int [2, 3, 4, 5] [] (fun i => ⟨[(2, .one (.ptr 16 0)), (3, .one (.ptr 17 0)), (4, .one (.t (.int .i64 0))), (5, .one (.t (.int .i64 i)))], [(16, .box [.t (.sl ms)] false), (17, .box [.t (.sl ns)] false)]⟩)
    (fun i => 1 ≤ i ∧ i.toNat ≤ m.length + 1 ∧ i.toNat ≤ n.length + 1 ∧ cmpN m n = cmpGo (m.reverse.drop (i.toNat - 1)) (n.reverse.drop (i.toNat - 1))) (fun i => m.length + 1 - i.toNat) 1 ?e ?f ?g
  case e => kernel_rfl
  case f => exact ⟨Int.le_refl _, by simp, by simp, rfl⟩
  case g =>
    intro i hi
    have hi0 : 1 ≤ i := hi.1
    have hi1 : i.toNat ≤ m.length + 1 := hi.2.1
    have hi2 : i.toNat ≤ n.length + 1 := hi.2.2.1
    have hc : cmpN m n = cmpGo (m.reverse.drop (i.toNat - 1)) (n.reverse.drop (i.toNat - 1)) := hi.2.2.2
    clear hi
    cbv
    repeat' (first | (intro; cbv) | (refine br_intro ?_ ?_ <;> intro <;> cbv))
    · refine get_back har hm (by assumption) hi0 hml ?_
      intro x xx hx hxx
      cbv
      repeat' (first | (intro; cbv) | (with_reducible refine and_side ?_ ?_; rotate_left; try cbv) | (refine ChkP.mk (by decide +kernel) ?_; cbv) | (refine br_intro ?_ ?_ <;> intro <;> cbv) | (refine get_at har (by assumption) (by assumption) (by assumption) (by assumption) ?_; cbv) | (refine get_lt har (by assumption) (by assumption) (by assumption) ?_; intro x xx hx hxx; cbv) | (refine get_atN har (by assumption) (by assumption) (by assumption) (by assumption) ?_; cbv) | (refine get_ltN har (by assumption) (by assumption) (by assumption) ?_; intro x xx hx hxx; cbv) | (refine get_atI har (by assumption) (by assumption) (by decide) ?_; cbv) | (refine get_twoA har (by assumption) (by assumption) (by decide) ?_; intro x hx; cbv) | (refine get_twoB har (by assumption) (by assumption) (by decide) ?_; intro x hx; cbv) | (refine bytes_intro (by assumption) ?_; cbv) | (exact side_lt har (by assumption) (by assumption)) | (exact side_inb har (by assumption) (by assumption) (by assumption)) | (exact side_sh har (by decide)) | (exact side_app har (by assumption) (by assumption) (by omega)) | (exact side_app0 har (by assumption) (by omega)) | (exact side_new har (by assumption) (by omega)) | (exact side_one har (by assumption) (by omega)) | (exact side_oneN har (by assumption) (by omega)) | (exact side_flat har (by assumption)) | (exact side_sbig har (by omega)) | (refine side_sbig har ?_; simp; done) | (exact side_oneI har (by assumption) (by omega)) | (refine side_ix har ?_; simp; done) | (refine side_ix har ?_; simp; omega))
      refine get_back har hn (by assumption) hi0 hnl ?_
      intro y yy hy hyy
      cbv
      have hcm0 : cmpB x y = 0 ∨ ¬ cmpB x y = 0 := Decidable.em _
      repeat' (first | (intro; cbv) | (refine ChkP.mk (by decide +kernel) ?_; cbv) | (refine br_intro ?_ ?_ <;> intro <;> cbv) | (refine calld_intro (sl2bytes hP (by assumption) (by assumption)) ?_; generalize hcm : cmpB _ _ = cm; cbv))
      all_goals have hlen1 := encN_len hm
      all_goals have hlen2 := encN_len hn
      all_goals subst har; simp only [std, icmpS, decide_eq_true_eq, decide_eq_false_iff_not, Bool.not_eq_true', Bool.not_eq_false', bne_iff_ne, ne_eq, bne_eq_false_iff_eq, beq_iff_eq, beq_eq_false_iff_ne, Int.not_lt, Int.not_le, Bool.not_true, Bool.not_false, reduceCtorEq] at *
      all_goals rw [cmpGo_step (rev_at (by omega) hx (by omega)) (rev_at (by omega) hy (by omega)), hcm] at hc
      · exact ⟨⟨by rw [hc, if_neg (by assumption)], rfl⟩⟩
      · rw [addI (a := i) (b := 1) (by omega) (by omega)]
        rw [if_pos (by assumption)] at hc
        exact ⟨i + 1, by kernel_rfl, ⟨by omega, by omega, by omega, by rw [hc, show (i + 1).toNat - 1 = i.toNat - 1 + 1 by omega]⟩, by omega⟩
    all_goals have hlen1 := encN_len hm
    all_goals have hlen2 := encN_len hn
    all_goals subst har; simp only [std, icmpS, decide_eq_true_eq, decide_eq_false_iff_not, Bool.not_eq_true', Bool.not_eq_false', bne_iff_ne, ne_eq, bne_eq_false_iff_eq, beq_iff_eq, beq_eq_false_iff_ne, Int.not_lt, Int.not_le, Bool.not_true, Bool.not_false, reduceCtorEq] at *
    all_goals have hd := cmp_done (i := i.toNat - 1) (by omega) (by omega) (by omega) hc
    all_goals refine ⟨⟨?_, rfl⟩⟩
    all_goals rw [hd, cmpI]
    all_goals first
      | (exfalso; omega)
      | (rw [if_pos (by omega)]; done)
      | (rw [if_neg (by omega), if_pos (by omega)]; done)
      | (rw [if_neg (by omega), if_neg (by omega)]; done)
end Go.TL.Tryz

/- TfImX -/
namespace Go.TL.Tryz
open Go Go.TL Go.Proofs
variable {P : Program}

def dotL (l : List UInt8) : List UInt8 := l ++ [46]
def textN (n : List (List UInt8)) : List UInt8 := if n.length = 0 then [46] else n.flatMap dotL
theorem text_step {n : List (List UInt8)} {i : Nat} {x : List UInt8} (hx : n[i]? = some x) : (n.take i).flatMap dotL ++ dotL x = (n.take (i + 1)).flatMap dotL := by
  rw [List.take_add_one, hx]; simp
theorem side_dot {ar : Ar} (har : ar = std) {m x : List UInt8} {ms xx : List (List T)} {t : T} (hm : encB m = ms) (hxx : encB x = xx) (h : m.length + x.length ≤ 1000000) : Side (ar.room 1 (ar.app (ar.app ms xx) [[t]]) ∧ ar.wid 1 [[t]]) := by
  subst har; subst hm; subst hxx
  exact ⟨by simp [std, encB]; omega, wid_one t⟩
theorem enc_dot {ar : Ar} (har : ar = std) {m x : List UInt8} {ms xx : List (List T)} (hm : encB m = ms) (hxx : encB x = xx) : ar.app (ar.app ms xx) [[T.int .u8 46]] = encB (m ++ dotL x) := by
  subst har; subst hm; subst hxx; simp [std, encB, dotL]
def nameTextB (n : List (List UInt8)) : List UInt8 := if nameOk n then textN n else []
theorem nmB_ok {n : List (List UInt8)} (h : nameOk n = true) : NmB n := by
  simp only [nameOk, Bool.and_eq_true, decide_eq_true_eq, List.all_eq_true] at h
  refine ⟨by omega, fun l hl => ?_⟩
  have := h.2 l hl
  simp only [labelOk, Bool.and_eq_true, decide_eq_true_eq] at this
  omega
end Go.TL.Tryz

/- TfGrowI -/
namespace Go.TL.Tryz
open Go Go.TL Go.Proofs Go.RowKit
set_option maxRecDepth 20000
inductive Grew (w w' : World) (v : Value) : Prop
  | nil (h : v = .slice none 0 0)
  | row (c : Nat) (cs : Array Value) (h : v = .slice (some ⟨w.heap.size, 0, none⟩) 0 c) (h1 : w'.heap[w.heap.size]? = some (.cells cs 5 (0, 0))) (h2 : cs.size = c) (h3 : w.heap.size < w'.heap.size)
theorem grow_walk (k : Int) (hk : 0 ≤ k) (hb : k ≤ 100000) (w : World) :
    Calls Tryz.prog 157 #[.slice none 0 0, .int .i64 k] w fun e w' => ∃ v, e = .returned v ∧ Below w.heap.size w w' ∧ Grew w w' v := by
  have hbt : Tryz.t5.bytes = 1 := rfl
  go_enter Tryz.func157, Tryz.ntmps157
  go_wp2
  · exfalso
    have hn : Builtin.nextslicecap k.toNat 0 = k.toNat := nextslicecap_zero (by omega)
    simp only [hn] at *
    omega
  · go_ret
    have hge : k.toNat ≤ (Question.appendCap k.toNat 0 5).cut (w.tape w.drawn (Question.appendCap k.toNat 0 5)) := grownCap_ge w k.toNat 0 5
    refine ⟨_, rfl, ⟨rfl, rfl, rfl, by simp, fun b hb' => ?_⟩, .row _ _ rfl (Go.MapKept.heap_alloc w _).1 ?_ ?_⟩
    · exact heap_alloc_old w _ hb'
    · simp only [Array.size_append, Builtin.zeroCells]; simp; omega
    · simp
  · go_ret
    exact ⟨_, rfl, Below.refl _ _, .nil rfl⟩
theorem iGrow {P : Program} (hP : Prg P) {k : Int} (hk : 0 ≤ k) (hb : k ≤ 100000) : ACall P 157 [.one .nil, .one (.t (.int .i64 k))] [] (fun r ob => r = .one (.row 32 0) ∧ ob = [(32, .row 1 [] 0 [0] false)]) := by
  have hP := hP.eq
  subst hP
  refine acall_calls Tryz.func157 (by rfl) (by decide) ?_
  intro w ok hd vs G R hl ha
  obtain ⟨v, u, rfl⟩ : ∃ v u, vs = [v, u] := by
    match vs, hl with
    | [v, u], _ => exact ⟨v, u, rfl⟩
  have hv := (ha 0 v _ rfl rfl).one_inv
  have hu := (ha 1 u _ rfl rfl).one_inv
  have hv : v = .slice none 0 0 := hv
  subst hv
  cases hu with
  | int _ _ _ =>
    refine (grow_walk k hk hb w).mono ?_
    rintro e w' ⟨v, rfl, hB, hv⟩
    have base : ∀ h : Hd, ObR w' ok (setF hd 32 h) (look [(32, .row 1 [] 0 [0] false)]) h (.row 1 [] 0 [0] false) → (∀ b, b ∈ h.own → w.heap.size ≤ b ∧ b < w'.heap.size) → h.v = v → (∃ x l c, v = .slice x l c) → ∃ ok' hd' r ob', (r = A.one (.row 32 0) ∧ ob' = [(32, Ob.row 1 [] 0 [0] false)]) ∧ Ret ok hd (look []) w ok' hd' (look ob') w' ∧ AR w' ok' hd' (look ob') v r := by
      intro h hO hown hvv hs
      obtain ⟨x, l, c, hs⟩ := hs
      have hlk : ∀ n o, look [(32, Ob.row 1 [] 0 [0] false)] n = some o → n = 32 ∧ o = .row 1 [] 0 [0] false := by
        intro n o hn
        simp only [look] at hn
        split at hn
        · rename_i e; injection hn with hn; exact ⟨e.symm, hn.symm⟩
        · cases hn
      refine ⟨ok, setF hd 32 h, _, _, ⟨rfl, rfl⟩, ⟨⟨fun b hb' => Nat.lt_of_lt_of_le (R.okLt b hb') hB.size, ?_, ?_, ?_⟩, hB.os, hB.tape, hB.output, hB.size, fun b h1 _ => hB.block b h1, fun _ h => h, fun _ h => .inl h, ?_, ⟨fun _ _ _ h => absurd h (by simp [look]), fun _ _ _ _ _ _ h => absurd h (by simp [look])⟩⟩, .one _ _ ?_⟩
      · intro n b hn hb'
        cases ho : look [(32, Ob.row 1 [] 0 [0] false)] n with
        | none => exact absurd ho hn
        | some o =>
          obtain ⟨rfl, _⟩ := hlk n o ho
          rw [setF_same] at hb'
          exact ⟨fun q => by have := R.okLt b q; have := (hown b hb').1; omega, (hown b hb').2⟩
      · intro n m b hnm hn hm _
        cases ho : look [(32, Ob.row 1 [] 0 [0] false)] n with
        | none => exact absurd ho hn
        | some o =>
          cases ho' : look [(32, Ob.row 1 [] 0 [0] false)] m with
          | none => exact absurd ho' hm
          | some o' => exact absurd ((hlk n o ho).1.trans (hlk m o' ho').1.symm) hnm
      · intro n o ho
        obtain ⟨rfl, rfl⟩ := hlk n o ho
        rw [setF_same]; exact hO
      · intro n b hn hb'
        cases ho : look [(32, Ob.row 1 [] 0 [0] false)] n with
        | none => exact absurd ho hn
        | some o =>
          obtain ⟨rfl, _⟩ := hlk n o ho
          rw [setF_same] at hb'
          exact .inl (hown b hb').1
      · exact ⟨1, [], 0, [0], false, rfl, by simp, ⟨x, l, c, hs⟩, fun _ => by rw [setF_same, hvv]⟩
    refine ⟨v, rfl, ?_⟩
    rcases hv with rfl | ⟨c, cs, rfl, h1, h2, h3⟩
    · exact base (hdOf (.slice none 0 0) []) ⟨by simp, by decide, .inl ⟨rfl, rfl, rfl⟩⟩ (fun b hb' => by simp at hb') rfl ⟨_, _, _, rfl⟩
    · exact base (hdOf (.slice (some ⟨w.heap.size, 0, none⟩) 0 c) [w.heap.size]) ⟨by simp, by decide, .inr ⟨_, cs, 5, (0, 0), c, rfl, rfl, by simp, h1, .inl rfl, by rw [show wd 1 = 1 from rfl]; omega, by simp, by simp, by simp, by intro i j x t h; simp at h⟩⟩ (fun b hb' => by simp at hb'; subst hb'; exact ⟨Nat.le_refl _, h3⟩) rfl ⟨_, _, _, rfl⟩
end Go.TL.Tryz

/- TfCat -/
namespace Go.TL.Tryz
open Go Go.TL Go.Proofs
variable {P : Program}

/-- A list of lists of bytes, as an argument. -/
def catB (l : List (List UInt8)) : List UInt8 := l.flatMap id
theorem cat_step {n : List (List UInt8)} {i : Nat} {x : List UInt8} (hx : n[i]? = some x) : (n.take i).flatMap id ++ x = (n.take (i + 1)).flatMap id := by
  rw [List.take_add_one, hx]; simp
theorem sum_len {ar : Ar} (har : ar = std) {x : List UInt8} {xx : List (List T)} {k : Int} (hxx : encB x = xx) (h1 : -9223372036854775808 ≤ k + x.length) (h2 : k + x.length ≤ 9223372036854775807) : ar.iop .add .i64 k (ar.len xx) = k + x.length := by
  have := encB_len hxx
  subst har
  show iopS .add .i64 k (xx.length : Int) = _
  rw [this, addI h1 h2]
set_option maxRecDepth 20000 in
theorem fn127 : Tryz.prog.funcs[127]? = some Tryz.f127 := rfl
set_option maxHeartbeats 40000000 in
set_option maxRecDepth 3000 in
theorem iConcat (hP : Prg P) {n : List (List UInt8)} {ns : List (List T)} (hn : encN n = ns) (hnl : n.length ≤ 20) (hnb : ∀ l ∈ n, l.length ≤ 1000) : ACall P 127 [.one (.t (.sl ns))] [] (fun r ob => r = .one (.row 32 0) ∧ ob = [(32, .row 1 (encB (catB n)) 0 [0] false)]) := by
  refine acall_fn (md := md) [some [(0, 1)]] v127 hP.mixed hP.tab (fn_at hP fn127) 1 rfl (by decide +kernel) rfl ?_
  intro ar har
  cbv
  repeat' (first | (intro; cbv))
  refine LoopP.mk (Int × Int) [0, 3, 9, 10, 11] [] (fun x => ⟨[(0, .one (.t (.sl ns))), (3, .one (.t (.int .i64 x.1))), (9, .one (.t (.sl ns))), (10, .one (.t (.int .i64 (ar.len ns)))), (11, .one (.t (.int .i64 x.2)))], []⟩)
    (fun x => 0 ≤ x.2 ∧ x.2.toNat ≤ n.length ∧ 0 ≤ x.1 ∧ x.1 ≤ 1000 * x.2) (fun x => n.length - x.2.toNat) (0, 0) ?e ?f ?g
  case e => kernel_rfl
  case f => exact ⟨Int.le_refl _, by simp, Int.le_refl _, by simp⟩
  case g =>
    intro x hx
    obtain ⟨k, i⟩ := x
    have hi0 : 0 ≤ i := hx.1
    have hib : i.toNat ≤ n.length := hx.2.1
    have hk0 : 0 ≤ k := hx.2.2.1
    have hk1 : k ≤ 1000 * i := hx.2.2.2
    clear hx
    cbv
    repeat' (first | (intro; cbv) | (with_reducible refine and_side ?_ ?_; rotate_left; try cbv) | (refine br_intro ?_ ?_ <;> intro <;> cbv) | (refine get_ltN har (by assumption) (by assumption) (by assumption) ?_; intro x xx hx hxx; cbv) | (refine call_intro (iGrow hP (by omega) (by omega)) ?_; rintro r ob ⟨rfl, rfl⟩; cbv))
    · exfalso
      rename_i h1 _ _ h2
      have hx16 := hnb x (List.mem_of_getElem? hx)
      have hlt := (List.getElem?_eq_some_iff.1 hx).1
      have e := sum_len (k := k) har hxx (by omega) (by omega)
      rw [show ar.iop .add .i64 k (ar.len xx) = k + x.length from e] at h2
      subst har
      simp only [std, icmpS, decide_eq_true_eq] at h2
      omega
    · have hx16 := hnb x (List.mem_of_getElem? hx)
      have hlt := (List.getElem?_eq_some_iff.1 hx).1
      have e := sum_len (k := k) har hxx (by omega) (by omega)
      refine ⟨(k + x.length, i + 1), ?_, ⟨by dsimp only; omega, by dsimp only; omega, by dsimp only; omega, by dsimp only; omega⟩, by dsimp only; omega⟩
      rw [← e, show i + 1 = ar.iop .add .i64 i 1 from (add_std har (by omega) (by omega)).symm]
      kernel_rfl
    rotate_left
    · exact side_flat har (show encB [] = [] from rfl)
    refine LoopP.mk (List UInt8 × List (List T) × Int) [6, 25, 26, 27] [] (fun x => ⟨[(6, .one (.row 16 0)), (25, .one (.t (.sl ns))), (26, .one (.t (.int .i64 (ar.len ns)))), (27, .one (.t (.int .i64 x.2.2)))], [(16, .row 1 x.2.1 0 [0] false)]⟩)
      (fun x => encB x.1 = x.2.1 ∧ 0 ≤ x.2.2 ∧ x.1 = (n.take x.2.2.toNat).flatMap id ∧ x.1.length ≤ 1000 * x.2.2.toNat ∧ x.2.2.toNat ≤ n.length) (fun x => n.length - x.2.2.toNat) ([], [], 0) ?e ?f ?g
    case e => kernel_rfl
    case f => exact ⟨rfl, Int.le_refl _, by simp, by simp, by simp⟩
    case g =>
      intro x hx
      obtain ⟨m, ms, j⟩ := x
      have hm : encB m = ms := hx.1
      have hj0 : 0 ≤ j := hx.2.1
      have hmm : m = (n.take j.toNat).flatMap id := hx.2.2.1
      have hmb : m.length ≤ 1000 * j.toNat := hx.2.2.2.1
      have hjb : j.toNat ≤ n.length := hx.2.2.2.2
      clear hx
      cbv
      repeat' (first | (intro; cbv) | (with_reducible refine and_side ?_ ?_; rotate_left; try cbv) | (refine br_intro ?_ ?_ <;> intro <;> cbv) | (refine get_ltN har (by assumption) (by assumption) (by assumption) ?_; intro x xx hx hxx; cbv))
      · have hx16 := hnb x (List.mem_of_getElem? hx)
        have hlt := (List.getElem?_eq_some_iff.1 hx).1
        subst har
        refine ⟨(m ++ x, encB (m ++ x), j + 1), ?_, ⟨rfl, by dsimp only; omega, by dsimp only; rw [hmm, cat_step hx, show (j + 1).toNat = j.toNat + 1 by omega], by simp; omega, by dsimp only; omega⟩, by dsimp only; omega⟩
        rw [show encB (m ++ x) = std.app ms xx from enc_app hm hxx, show j + 1 = std.iop .add .i64 j 1 from (addI (by omega) (by omega)).symm]
        kernel_rfl
      · have hx16 := hnb x (List.mem_of_getElem? hx)
        exact side_app har hm hxx (by omega)
      · have hlen := encN_len hn
        subst har; simp only [std, icmpS, decide_eq_true_eq, decide_eq_false_iff_not, Bool.not_eq_true', Bool.not_eq_false', bne_iff_ne, ne_eq, bne_eq_false_iff_eq, beq_iff_eq, beq_eq_false_iff_ne, Int.not_lt, Int.not_le, Bool.not_true, Bool.not_false, reduceCtorEq] at *
        refine ⟨⟨rfl, ?_⟩⟩
        rw [List.take_of_length_le (by omega)] at hmm
        rw [catB, ← hmm, ← hm]
end Go.TL.Tryz

/- TfDatI -/
namespace Go.TL.Tryz
open Go Go.TL Go.Proofs
variable {P : Program}

def dataI (t addr : Int) (to : List (List UInt8)) (tx : List UInt8) (nu : List Int) : List UInt8 :=
  if t = 1 then fourB addr else if namedB t then wireN to ++ nu.flatMap fourB else wireL tx
theorem fourB_len (n : Int) : (fourB n).length = 4 := rfl
theorem four_step {l : List UInt8} {n : List Int} {i : Nat} {x : Int} (hx : n[i]? = some x) : l ++ (n.take i).flatMap fourB ++ fourB x = l ++ (n.take (i + 1)).flatMap fourB := by
  rw [List.take_add_one, hx]; simp
theorem get_ltI {ar : Ar} (har : ar = std) {b : List Int} {es : List (List T)} {i : Int} {K : List T → Prop} (hes : encI b = es) (h : ar.icmp .lss i (ar.len es) = true) (h0 : 0 ≤ i)
    (k : ∀ (x : Int), b[i.toNat]? = some x → K [.int .i64 x]) : GetP ar es i K :=
  get_int har hes ⟨h0, by rw [← encI_len hes]; exact lt_len har h h0⟩ k
set_option maxRecDepth 20000 in
theorem fn119 : Tryz.prog.funcs[119]? = some Tryz.f119 := rfl
set_option maxHeartbeats 40000000 in
set_option maxRecDepth 3000 in
theorem iData (hP : Prg P) {to : List (List UInt8)} {ns tos txs nus : List (List T)} {t ttl addr : Int} {tx : List UInt8} {nu : List Int} (hto : encN to = tos) (htob : NmB to) (htx : encB tx = txs) (htxl : tx.length ≤ 1000) (hnu : encI nu = nus) (hnul : nu.length ≤ 10) :
    ACall P 119 [.agg [.t (.sl ns), .t (.int .i64 t), .t (.int .i64 ttl), .t (.int .i64 addr), .t (.sl tos), .t (.sl txs), .t (.sl nus)]] []
      (fun r ob => r = .one (.row 32 0) ∧ ob = [(32, .row 1 (encB (dataI t addr to tx nu)) 0 [0] false)]) := by
  have hw := wireN_len htob
  refine acall_fn (md := md) [some [(0, 1)]] v119 hP.mixed hP.tab (fn_at hP fn119) 1 rfl (by decide +kernel) rfl ?_
  intro ar har
  cbv
  repeat' (first | (intro; cbv) | (with_reducible refine and_side ?_ ?_; rotate_left; try cbv) | (refine br_intro ?_ ?_ <;> intro <;> cbv) | (exact side_flat har (by assumption)) | (refine call_intro (iHasTo hP) ?_; rintro r ob ⟨rfl, rfl⟩; generalize hht : namedB _ = ht; cbv) | (refine call_intro (iFour hP) ?_; rintro r ob ⟨rfl, rfl⟩; generalize hfo : encB (fourB _) = fo; cbv) | (refine call_intro (iWire hP (by assumption) (by assumption)) ?_; rintro r ob ⟨rfl, rfl⟩; generalize hwr : encB (wireN _) = wr; cbv))
  · subst har; simp only [std, icmpS, decide_eq_true_eq, decide_eq_false_iff_not, Bool.not_eq_true', Bool.not_eq_false', bne_iff_ne, ne_eq, bne_eq_false_iff_eq, beq_iff_eq, beq_eq_false_iff_ne, Int.not_lt, Int.not_le, Bool.not_true, Bool.not_false, reduceCtorEq] at *
    rename_i h1
    exact ⟨⟨rfl, by rw [dataI, if_pos h1, hfo]⟩⟩
  · have ht1 : ¬ t = 1 := by rename_i h1 _ _; subst har; simp only [std, icmpS, beq_eq_false_iff_ne, ne_eq] at h1; exact h1
    have hht : namedB t = true := by rename_i h1 _; rw [hht, h1]
    refine LoopP.mk (List UInt8 × List (List T) × Int) [3, 21, 22, 23] [] (fun x => ⟨[(3, .one (.row 16 0)), (21, .one (.t (.sl nus))), (22, .one (.t (.int .i64 (ar.len nus)))), (23, .one (.t (.int .i64 x.2.2)))], [(16, .row 1 x.2.1 0 [0] false)]⟩)
      (fun x => encB x.1 = x.2.1 ∧ 0 ≤ x.2.2 ∧ x.1 = wireN to ++ (nu.take x.2.2.toNat).flatMap fourB ∧ x.1.length ≤ 200 + 4 * x.2.2.toNat ∧ x.2.2.toNat ≤ nu.length) (fun x => nu.length - x.2.2.toNat) (wireN to, wr, 0) ?e ?f ?g
    case e => kernel_rfl
    case f => exact ⟨hwr, Int.le_refl _, by simp, by simp; omega, by simp⟩
    case g =>
      intro x hx
      obtain ⟨m, ms, j⟩ := x
      have hm : encB m = ms := hx.1
      have hj0 : 0 ≤ j := hx.2.1
      have hmm : m = wireN to ++ (nu.take j.toNat).flatMap fourB := hx.2.2.1
      have hmb : m.length ≤ 200 + 4 * j.toNat := hx.2.2.2.1
      have hjb : j.toNat ≤ nu.length := hx.2.2.2.2
      clear hx
      cbv
      repeat' (first | (refine br_intro ?_ ?_ <;> intro <;> cbv))
      · refine get_ltI har hnu (by assumption) (by assumption) ?_
        intro x hx
        cbv
        have h4 := fourB_len x
        repeat' (first | (intro; cbv) | (with_reducible refine and_side ?_ ?_; rotate_left; try cbv) | (exact side_app har (by assumption) (by assumption) (by omega)) | (exact side_flat har (by assumption)) | (refine call_intro (iFour hP) ?_; rintro r ob ⟨rfl, rfl⟩; generalize hfo : encB (fourB _) = fo; cbv))
        have hlt := (List.getElem?_eq_some_iff.1 hx).1
        subst har
        refine ⟨(m ++ fourB x, encB (m ++ fourB x), j + 1), ?_, ⟨rfl, by dsimp only; omega, by dsimp only; rw [hmm, four_step hx, show (j + 1).toNat = j.toNat + 1 by omega], by simp; omega, by dsimp only; omega⟩, by dsimp only; omega⟩
        rw [show encB (m ++ fourB x) = std.app ms fo from enc_app hm hfo, show j + 1 = std.iop .add .i64 j 1 from (addI (by omega) (by omega)).symm]
        kernel_rfl
      · have hlen := encI_len hnu
        subst har; simp only [std, icmpS, decide_eq_true_eq, decide_eq_false_iff_not, Bool.not_eq_true', Bool.not_eq_false', bne_iff_ne, ne_eq, bne_eq_false_iff_eq, beq_iff_eq, beq_eq_false_iff_ne, Int.not_lt, Int.not_le, Bool.not_true, Bool.not_false, reduceCtorEq] at *
        refine ⟨⟨rfl, ?_⟩⟩
        rw [List.take_of_length_le (by omega)] at hmm
        rw [dataI, if_neg ht1, if_pos hht, ← hmm, ← hm]
  · have e := enc_wireL har (show encB [] = [] from rfl) htx
    rename_i h1 h2 _ _
    have ht1 : ¬ t = 1 := by subst har; simp only [std, icmpS, beq_eq_false_iff_ne, ne_eq] at h1; exact h1
    refine ⟨⟨rfl, ?_⟩⟩
    rw [dataI, if_neg ht1, hht, if_neg (by rw [h2]; simp)]
    refine congrArg (fun x => [(32, Ob.row 1 x 0 [0] false)]) (Eq.trans ?_ e)
    subst har; rfl
  · refine side_byL (l := [byteOf tx.length]) har (enc_len har htx).symm (by subst har; rfl) htx (by simp; omega)
theorem dataI_len {t addr : Int} {to : List (List UInt8)} {tx : List UInt8} {nu : List Int} (h : NmB to) (hx : tx.length ≤ 500) (hn : nu.length ≤ 10) : (dataI t addr to tx nu).length ≤ 600 := by
  have h1 := wireN_len h
  unfold dataI
  split
  · rw [fourB_len]; omega
  · split
    · have : (nu.flatMap fourB).length = 4 * nu.length := by
        clear hn
        induction nu with
        | nil => rfl
        | cons x r ih => simp only [List.flatMap_cons, List.length_append, fourB_len, List.length_cons, ih]; omega
      simp only [List.length_append]; omega
    · simp [wireL]; omega
def rrI (n : List (List UInt8)) (t ttl addr : Int) (to : List (List UInt8)) (tx : List UInt8) (nu : List Int) : List UInt8 :=
  catB [wireN n, twoB t, twoB 1, fourB ttl, twoB (dataI t addr to tx nu).length, dataI t addr to tx nu]
end Go.TL.Tryz

/- TfGetI -/
namespace Go.TL.Tryz
open Go Go.TL Go.Proofs
variable {P : Program}

def orS (o c : Int) : Int := iopS .or .i64 (iopS .shl .i64 o 8) c
def getV (l : List UInt8) : Int := l.foldl (fun o c => orS o (iB c)) 0
def subB (b : List UInt8) (i k : Int) : List UInt8 := (b.take (i + k).toNat).drop i.toNat
/-- A number of some bytes, and the place behind them. -/
def getS (b : List UInt8) (i k : Int) : Int × Int := if i < 0 ∨ (b.length : Int) - i < k then (0, -1) else (getV (subB b i k), i + k)
theorem side_sub {ar : Ar} (har : ar = std) {b : List UInt8} {es : List (List T)} (hes : encB b = es) {i j : Int} (h : 0 ≤ i ∧ i ≤ j ∧ j.toNat ≤ b.length) : Side (ar.insub i j es ∧ ar.wid 1 es) := by
  have := encB_len hes
  subst har; subst hes
  exact ⟨⟨h.1, h.2.1, by omega⟩, wid_byte b⟩
theorem enc_sub {ar : Ar} (har : ar = std) {b : List UInt8} {es : List (List T)} (hes : encB b = es) {i k : Int} (h1 : -9223372036854775808 ≤ i + k) (h2 : i + k ≤ 9223372036854775807) : encB (subB b i k) = ar.sub es i (ar.iop .add .i64 i k) := by
  rw [add_std har h1 h2]; subst har; subst hes
  simp [encB, std, subB]
theorem i64_rng {n : Int} (h : IntKind.i64.has n) : -9223372036854775808 ≤ n ∧ n ≤ 9223372036854775807 := by
  simpa [IntKind.has, IntKind.min, IntKind.max, IntKind.signed, IntKind.bits] using h
theorem get_facts {ar : Ar} (har : ar = std) {b : List UInt8} {es : List (List T)} {i k : Int} (hl : encB b = es) (hh : ar.has .i64 (ar.len es) ∧ ar.has .i64 i) (h : ar.icmp .gtr k (ar.iop .sub .i64 (ar.len es) i) = false) (h0 : ar.icmp .lss i 0 = false) (hk : 0 ≤ k) : 0 ≤ i ∧ i.toNat + k.toNat ≤ b.length ∧ b.length = es.length ∧ es.length ≤ 9223372036854775807 := by
  have hlen := encB_len hl
  subst har
  have r1 := i64_rng hh.2
  have r2 := i64_rng hh.1
  simp only [std, icmpS, decide_eq_false_iff_not] at h h0 r2
  rw [subI (by omega) (by omega)] at h
  omega
theorem getV_snoc (l : List UInt8) (x : UInt8) : getV (l ++ [x]) = orS (getV l) (iB x) := by simp [getV]
set_option maxRecDepth 20000 in
theorem fn169 : Tryz.prog.funcs[169]? = some Tryz.f169 := rfl
set_option maxHeartbeats 40000000 in
set_option maxRecDepth 3000 in
theorem iGet (hP : Prg P) {b : List UInt8} {es : List (List T)} {i k : Int} (hl : encB b = es) (hb : b.length ≤ 1000000) (hk : 0 ≤ k ∧ k ≤ 8) : ACall P 169 [.one (.t (.sl es)), .one (.t (.int .i64 i)), .one (.t (.int .i64 k))] []
    (fun r ob => r = .tup [.one (.t (.int .i64 (getS b i k).1)), .one (.t (.int .i64 (getS b i k).2))] ∧ ob = []) := by
  refine acall_fn (md := md) [none, none] v169 hP.mixed hP.tab (fn_at hP fn169) 3 rfl (by decide +kernel) rfl ?_
  intro ar har
  cbv
  repeat' (first | (intro; cbv) | (with_reducible refine and_side ?_ ?_; rotate_left; try cbv) | (refine br_intro ?_ ?_ <;> intro <;> cbv))
  · subst har; simp only [std, icmpS, decide_eq_true_eq, decide_eq_false_iff_not, Bool.not_eq_true', Bool.not_eq_false', bne_iff_ne, ne_eq, bne_eq_false_iff_eq, beq_iff_eq, beq_eq_false_iff_ne, Int.not_lt, Int.not_le, Bool.not_true, Bool.not_false, reduceCtorEq] at *
    exact ⟨⟨by rw [getS, if_pos (.inl (by assumption))], rfl⟩⟩
  · have hlen := encB_len hl
    subst har; simp only [std, icmpS, decide_eq_true_eq, decide_eq_false_iff_not, Bool.not_eq_true', Bool.not_eq_false', bne_iff_ne, ne_eq, bne_eq_false_iff_eq, beq_iff_eq, beq_eq_false_iff_ne, Int.not_lt, Int.not_le, Bool.not_true, Bool.not_false, reduceCtorEq] at *
    rename_i _ hh h1 h2
    have r1 := i64_rng hh.2
    rw [subI (by omega) (by omega)] at h2
    exact ⟨⟨by rw [getS, if_pos (.inr (by omega))], rfl⟩⟩
  · rename_i h0 _ hh h2 _ _
    obtain ⟨hi0, hk1, hlen, _⟩ := get_facts har hl hh h2 h0 hk.1
    have hs : encB (subB b i k) = ar.sub es i (ar.iop .add .i64 i k) := enc_sub har hl (by omega) (by omega)
    have hsl : (subB b i k).length = k.toNat := by simp [subB]; omega
    refine LoopP.mk (Int × Int) [1, 2, 6, 7, 8, 26, 27, 28] [] (fun x => ⟨[(1, .one (.t (.int .i64 i))), (2, .one (.t (.int .i64 k))), (6, .one (.t (.int .i64 0))), (7, .one (.t (.int .i64 0))), (8, .one (.t (.int .i64 x.1))), (26, .one (.t (.sl (ar.sub es i (ar.iop .add .i64 i k))))), (27, .one (.t (.int .i64 (ar.len (ar.sub es i (ar.iop .add .i64 i k)))))), (28, .one (.t (.int .i64 x.2)))], []⟩)
      (fun x => 0 ≤ x.2 ∧ x.2.toNat ≤ k.toNat ∧ x.1 = getV ((subB b i k).take x.2.toNat)) (fun x => k.toNat - x.2.toNat) (0, 0) ?e ?f ?g
    case e => kernel_rfl
    case f => exact ⟨Int.le_refl _, by simp, by simp [getV]⟩
    case g =>
      intro x hx
      obtain ⟨o, j⟩ := x
      have hj0 : 0 ≤ j := hx.1
      have hjb : j.toNat ≤ k.toNat := hx.2.1
      have ho : o = getV ((subB b i k).take j.toNat) := hx.2.2
      clear hx
      cbv
      repeat' (first | (intro; cbv) | (with_reducible refine and_side ?_ ?_; rotate_left; try cbv) | (refine br_intro ?_ ?_ <;> intro <;> cbv) | (refine get_lt har (by assumption) (by assumption) (by assumption) ?_; intro x xx hx hxx; cbv) | (exact side_sh har (by decide)))
      · have hlt := (List.getElem?_eq_some_iff.1 hx).1
        have hc : IntKind.i64.wrap xx = xx := by rw [← hxx]; exact iB_wrap64 x
        subst har
        refine ⟨(orS o xx, j + 1), ?_, ⟨by dsimp only; omega, by dsimp only; omega, by dsimp only; rw [show (j + 1).toNat = j.toNat + 1 by omega, List.take_add_one, hx, ho, ← hxx]; exact (getV_snoc _ x).symm⟩, by dsimp only; omega⟩
        rw [show orS o xx = std.iop .or .i64 (std.iop .shl .i64 o 8) (std.conv .i64 xx) from congrArg (fun q => iopS .or .i64 (iopS .shl .i64 o 8) q) hc.symm, show j + 1 = std.iop .add .i64 j 1 from (addI (by omega) (by omega)).symm]
        kernel_rfl
      · have hg := ge_len har (by assumption) hj0
        rw [encB_len hs.symm.symm] at hg
        rw [take_all (by omega)] at ho
        have e : ar.iop .add .i64 i k = i + k := add_std har (by omega) (by omega)
        refine ⟨⟨?_, rfl⟩⟩
        rw [getS, if_neg (by omega), ← ho]
        exact congrArg (fun q => A.tup [.one (.t (.int .i64 o)), .one (.t (.int .i64 q))]) e
  · rename_i h0 _ hh h2 _
    obtain ⟨hi0, hk1, hlen, _⟩ := get_facts har hl hh h2 h0 hk.1
    have e : ar.iop .add .i64 i k = i + k := add_std har (by omega) (by omega)
    exact (show Side (ar.insub i (ar.iop .add .i64 i k) es ∧ ar.wid 1 es) by rw [e]; exact side_sub har hl ⟨hi0, by omega, by omega⟩)
end Go.TL.Tryz

/- TfTakI -/
namespace Go.TL.Tryz
open Go Go.TL Go.Proofs
variable {P : Program}

def takeS (b : List UInt8) (i k : Int) : List UInt8 × Int := if i < 0 ∨ k < 0 ∨ (b.length : Int) < i ∨ (b.length : Int) - i < k then ([], -1) else (subB b i k, i + k)
end Go.TL.Tryz

/- TfNgP -/
namespace Go.TL.Tryz
open Go Go.TL Go.Proofs

/-- A name is read from a place on, in so many steps at most. -/
def ngGo (m : List UInt8) : Nat → Int → List (List UInt8) → Int → Int → List (List UInt8) × Int
  | 0, _, _, _, _ => ([], -1)
  | k + 1, i, n, e, h =>
    if m.length ≤ i.toNat then ([], -1) else
    if iB (m.getD i.toNat 0) = 0 then (if nameOk n then (n, if e < 0 then i + 1 else e) else ([], -1)) else
    if 192 ≤ iB (m.getD i.toNat 0) then
      (if (getS m i 2).2 < 0 ∨ i ≤ (getS m i 2).1 - 49152 ∨ 8 < h + 1 then ([], -1)
       else ngGo m k ((getS m i 2).1 - 49152) n (if e < 0 then (getS m i 2).2 else e) (h + 1)) else
    if 15 < iB (m.getD i.toNat 0) then ([], -1) else
    if (takeS m (i + 1) (iB (m.getD i.toNat 0))).2 < 0 ∨ n.length = 6 then ([], -1)
    else ngGo m k (takeS m (i + 1) (iB (m.getD i.toNat 0))).2 (n ++ [lower (takeS m (i + 1) (iB (m.getD i.toNat 0))).1]) e h
def nameGet (m : List UInt8) (i : Int) : List (List UInt8) × Int :=
  if 512 < m.length ∨ i < 0 then ([], -1) else ngGo m 15 i [] (-1) 0

theorem getS_rng {m : List UInt8} {i k : Int} (hk : 0 ≤ k) (h : ¬ (getS m i k).2 < 0) : 0 ≤ i ∧ (getS m i k).2 = i + k ∧ (i + k).toNat ≤ m.length ∧ (getS m i k).1 = getV (subB m i k) := by
  unfold getS at *
  split at h
  · exact absurd (show (-1 : Int) < 0 by decide) h
  · rename_i h1; rw [if_neg h1]; exact ⟨by omega, rfl, by omega, rfl⟩
theorem takeS_rng {m : List UInt8} {i k : Int} (h : ¬ (takeS m i k).2 < 0) : 0 ≤ i ∧ 0 ≤ k ∧ (takeS m i k).2 = i + k ∧ (i + k).toNat ≤ m.length ∧ (takeS m i k).1 = subB m i k := by
  unfold takeS at *
  split at h
  · exact absurd (show (-1 : Int) < 0 by decide) h
  · rename_i h1; rw [if_neg h1]; exact ⟨by omega, by omega, rfl, by omega, rfl⟩
theorem orS_eq {o c : Int} (h0 : 0 ≤ o) (h1 : o < 1099511627776) (h2 : 0 ≤ c) (h3 : c < 256) : orS o c = o * 256 + c := by
  obtain ⟨a, rfl⟩ := Int.eq_ofNat_of_zero_le h0
  obtain ⟨b, rfl⟩ := Int.eq_ofNat_of_zero_le h2
  have e : iopS .shl .i64 (a : Int) 8 = ((a * 256 : Nat) : Int) := by
    show IntKind.i64.wrap ((a : Int) * 2 ^ (min (8 : Int).toNat 64)) = _
    rw [show (2 : Int) ^ (min (8 : Int).toNat 64) = 256 from rfl, wrap_id (has_i64 (by omega) (by omega))]; omega
  unfold orS
  rw [e]
  show IntKind.i64.wrap (((BitVec.ofInt 64 ((a * 256 : Nat) : Int) ||| BitVec.ofInt 64 (b : Int)).toNat : Nat) : Int) = _
  have e2 : (BitVec.ofInt 64 ((a * 256 : Nat) : Int) ||| BitVec.ofInt 64 (b : Int)).toNat = a * 256 + b := by
    rw [BitVec.toNat_or]
    have : ∀ x : Nat, x < 2 ^ 64 → (BitVec.ofInt 64 (x : Int)).toNat = x := by
      intro x hx
      rw [BitVec.toNat_ofInt]
      omega
    rw [this _ (by omega), this _ (by omega)]
    have := Nat.shiftLeft_add_eq_or_of_lt (i := 8) (b := b) (by omega) a
    rw [Nat.shiftLeft_eq] at this
    exact this.symm
  rw [e2, wrap_id (has_i64 (by omega) (by omega))]
  omega
theorem shr8_eq (n : Int) (k : Nat) (hk : k ≤ 64) : shr8 n k = n / 2 ^ k := by
  show n.fdiv (2 ^ (min ((k : Int).toNat) 64)) = _
  rw [Int.toNat_natCast, Nat.min_eq_left hk, Int.fdiv_eq_ediv_of_nonneg]
  exact Int.le_of_lt (Int.pow_pos (by decide))
theorem iB_byteOf_mod (v : Int) : iB (byteOf v) = v % 256 := by
  have h : (v % 256).toNat < 256 := by omega
  simp only [byteOf, iB, UInt8.toNat_ofNat']
  omega
theorem getV_two (a b : UInt8) : getV [a, b] = iB a * 256 + iB b := by
  have ha := iB_lo a; have ha' := iB_hi a; have hb := iB_lo b; have hb' := iB_hi b
  show orS (orS 0 (iB a)) (iB b) = _
  rw [orS_eq (by omega) (by omega) ha (by omega), orS_eq (by omega) (by omega) hb (by omega)]; omega
theorem getV_four (a b c d : UInt8) : getV [a, b, c, d] = iB a * 16777216 + iB b * 65536 + iB c * 256 + iB d := by
  have ha := iB_lo a; have ha' := iB_hi a; have hb := iB_lo b; have hb' := iB_hi b; have hc := iB_lo c; have hc' := iB_hi c; have hd := iB_lo d; have hd' := iB_hi d
  show orS (orS (orS (orS 0 (iB a)) (iB b)) (iB c)) (iB d) = _
  rw [orS_eq (by omega) (by omega) ha (by omega), orS_eq (by omega) (by omega) hb (by omega), orS_eq (by omega) (by omega) hc (by omega), orS_eq (by omega) (by omega) hd (by omega)]; omega
theorem getV_twoB {n : Int} (h : 0 ≤ n ∧ n ≤ 65535) : getV (twoB n) = n := by
  show getV [byteOf (shr8 n 8), byteOf n] = n
  rw [getV_two, iB_byteOf_mod, iB_byteOf_mod, show shr8 n 8 = n / 2 ^ 8 from shr8_eq n 8 (by decide)]; omega
theorem getV_fourB {n : Int} (h : 0 ≤ n ∧ n ≤ 4294967295) : getV (fourB n) = n := by
  show getV [byteOf (shr8 (shr8 n 16) 8), byteOf (shr8 n 16), byteOf (shr8 n 8), byteOf n] = n
  rw [getV_four]
  simp only [iB_byteOf_mod]
  rw [show shr8 (shr8 n 16) 8 = shr8 n 16 / 2 ^ 8 from shr8_eq _ 8 (by decide), show shr8 n 8 = n / 2 ^ 8 from shr8_eq n 8 (by decide), show shr8 n 16 = n / 2 ^ 16 from shr8_eq n 16 (by decide)]; omega
theorem subB_mid (l x r : List UInt8) : subB (l ++ x ++ r) l.length x.length = x := by
  have e : ((l.length : Int) + (x.length : Int)).toNat = (l ++ x).length := by simp; omega
  rw [subB, e, List.take_left', Int.toNat_natCast, List.drop_left']
  · rfl
  · rfl
theorem getS_mid (l x r : List UInt8) : getS (l ++ x ++ r) l.length x.length = (getV x, (l.length : Int) + x.length) := by
  rw [getS, if_neg (by simp; omega), subB_mid]
theorem takeS_mid (l x r : List UInt8) : takeS (l ++ x ++ r) l.length x.length = (x, (l.length : Int) + x.length) := by
  rw [takeS, if_neg (by simp; omega), subB_mid]
theorem subB_len {m : List UInt8} {i k : Int} (h0 : 0 ≤ i) (hk : 0 ≤ k) (h : (i + k).toNat ≤ m.length) : (subB m i k).length = k.toNat := by simp [subB]; omega
/-- A number of two bytes of which the first is great. -/
theorem getS_192 {m : List UInt8} {i : Int} (h : ¬ (getS m i 2).2 < 0) (hx : 192 ≤ iB (m.getD i.toNat 0)) : 0 ≤ (getS m i 2).1 - 49152 := by
  obtain ⟨h0, _, h2, h3⟩ := getS_rng (by decide) h
  rw [h3]
  have hl := subB_len h0 (by decide) h2
  have hhd : (subB m i 2)[0]? = some (m.getD i.toNat 0) := by
    rw [subB, List.getElem?_drop, List.getElem?_take_of_lt (by omega), Nat.add_zero, List.getD, List.getElem?_eq_getElem (by omega)]; rfl
  match hs : subB m i 2, hl with
  | [a, b], _ =>
    rw [hs] at hhd
    simp at hhd
    rw [getV_two, hhd]
    have hb := iB_lo b
    simp only [List.getD] at hx
    omega
theorem ngGo_ok (m : List UInt8) (k : Nat) (i : Int) (n : List (List UInt8)) (e h : Int) (he : e.toNat ≤ m.length) (hi : 0 ≤ i) :
    nameOk (ngGo m k i n e h).1 = true ∧ (ngGo m k i n e h).2.toNat ≤ m.length := by
  induction k generalizing i n e h with
  | zero => exact ⟨rfl, Nat.zero_le _⟩
  | succ k ih =>
    unfold ngGo
    split
    · exact ⟨rfl, Nat.zero_le _⟩
    split
    · split
      · rename_i hn
        refine ⟨hn, ?_⟩
        dsimp only; split <;> omega
      · exact ⟨rfl, Nat.zero_le _⟩
    split
    · split
      · exact ⟨rfl, Nat.zero_le _⟩
      · rename_i hlen h0 h192 hg
        have hg' := getS_rng (m := m) (i := i) (k := 2) (by decide) (by omega)
        exact ih _ _ _ _ (by split <;> omega) (getS_192 (by omega) h192)
    split
    · exact ⟨rfl, Nat.zero_le _⟩
    split
    · exact ⟨rfl, Nat.zero_le _⟩
    · rename_i ht
      have ht' := takeS_rng (m := m) (i := i + 1) (k := iB (m.getD i.toNat 0)) (by omega)
      exact ih _ _ _ _ he (by omega)
theorem nameGet_ok (m : List UInt8) (i : Int) : nameOk (nameGet m i).1 = true ∧ (nameGet m i).2.toNat ≤ m.length := by
  unfold nameGet
  split
  · exact ⟨rfl, Nat.zero_le _⟩
  · exact ngGo_ok m 15 i [] (-1) 0 (by omega) (by omega)

theorem map_low : ∀ {l : List UInt8}, (∀ x, x ∈ l → chOk (iB x) = true) → l.map lowCh = l
  | [], _ => rfl
  | x :: r, h => by
    have h1 := h x (.head _)
    simp only [chOk, decide_eq_true_eq] at h1
    rw [List.map_cons, map_low (l := r) fun y hy => h y (.tail _ hy), lowCh, if_neg (by omega)]
theorem lower_ok {l : List UInt8} (h : labelOk l = true) : lower l = l := by
  simp only [labelOk, Bool.and_eq_true, List.all_eq_true] at h
  exact map_low h.2.2
theorem nameOk_mem {n : List (List UInt8)} (h : nameOk n = true) : n.length ≤ 6 ∧ ∀ l, l ∈ n → labelOk l = true := by
  simp only [nameOk, Bool.and_eq_true, decide_eq_true_eq, List.all_eq_true] at h; exact h
theorem labelOk_len {l : List UInt8} (h : labelOk l = true) : 1 ≤ l.length ∧ l.length ≤ 15 := by
  simp only [labelOk, Bool.and_eq_true, decide_eq_true_eq] at h; exact ⟨h.1, h.2.1⟩
theorem nameOk_left {a b : List (List UInt8)} (h : nameOk (a ++ b) = true) : nameOk a = true := by
  obtain ⟨h1, h2⟩ := nameOk_mem h
  simp only [nameOk, Bool.and_eq_true, decide_eq_true_eq, List.all_eq_true]
  simp at h1
  exact ⟨by omega, fun l hl => h2 l (List.mem_append_left _ hl)⟩
theorem ng_wire {m l r : List UInt8} {a b : List (List UInt8)} (hm : m = l ++ a.flatMap wireL ++ (b.flatMap wireL ++ [0]) ++ r) (hok : nameOk (a ++ b) = true) {k : Nat} (hk : b.length < k) :
    ngGo m k ((l ++ a.flatMap wireL).length : Nat) a (-1) 0 = (a ++ b, (((l ++ a.flatMap wireL ++ b.flatMap wireL).length : Nat) : Int) + 1) := by
  induction b generalizing a k with
  | nil =>
    obtain ⟨k, rfl⟩ : ∃ j, k = j + 1 := ⟨k - 1, by simp only [List.length_nil, List.length_cons] at hk; omega⟩
    have hg : m.getD (l ++ a.flatMap wireL).length 0 = 0 := by
      rw [hm, List.getD, List.append_assoc, List.getElem?_append_right (Nat.le_refl _)]; simp
    have hlen : ¬ m.length ≤ (l ++ a.flatMap wireL).length := by rw [hm]; simp
    rw [ngGo, Int.toNat_natCast, if_neg hlen, hg, if_pos (show iB 0 = 0 from rfl), if_pos (nameOk_left hok), if_pos (show (-1 : Int) < 0 by decide)]
    simp
  | cons x b ih =>
    obtain ⟨k, rfl⟩ : ∃ j, k = j + 1 := ⟨k - 1, by simp only [List.length_nil, List.length_cons] at hk; omega⟩
    obtain ⟨h6, hall⟩ := nameOk_mem hok
    have hx := hall x (by simp)
    obtain ⟨x1, x15⟩ := labelOk_len hx
    have hg : m.getD (l ++ a.flatMap wireL).length 0 = byteOf x.length := by
      rw [hm, List.getD, List.append_assoc, List.getElem?_append_right (Nat.le_refl _)]; simp [wireL]
    have hlen : ¬ m.length ≤ (l ++ a.flatMap wireL).length := by rw [hm]; simp <;> omega
    have hi : iB (byteOf x.length) = x.length := iB_byteOf ⟨by omega, by omega⟩
    have ht : takeS m (((l ++ a.flatMap wireL).length : Nat) + 1) (x.length : Nat) = (x, (((l ++ a.flatMap wireL).length : Nat) : Int) + 1 + x.length) := by
      have := takeS_mid (l ++ a.flatMap wireL ++ [byteOf x.length]) x (b.flatMap wireL ++ [0] ++ r)
      have e : l ++ a.flatMap wireL ++ [byteOf x.length] ++ x ++ (b.flatMap wireL ++ [0] ++ r) = m := by rw [hm]; simp [wireL]
      rw [e] at this
      rw [show (((l ++ a.flatMap wireL ++ [byteOf x.length]).length : Nat) : Int) = (((l ++ a.flatMap wireL).length : Nat) : Int) + 1 by simp; omega] at this
      exact this
    simp at h6 hk
    have e1 : (((l ++ a.flatMap wireL).length : Nat) : Int) + 1 + x.length = ((l ++ (a ++ [x]).flatMap wireL).length : Nat) := by simp [wireL]; omega
    rw [ngGo, Int.toNat_natCast, if_neg hlen, hg, hi, if_neg (by omega), if_neg (by omega), if_neg (by omega), ht, if_neg (by dsimp only; omega)]
    dsimp only
    rw [lower_ok hx, e1, ih (a := a ++ [x]) (by rw [hm]; simp [wireL]) (by simpa using hok) (by omega)]
    simp [wireL]
theorem nameGet_wire {l r : List UInt8} {n : List (List UInt8)} (hok : nameOk n = true) (h : (l ++ wireN n ++ r).length ≤ 512) : nameGet (l ++ wireN n ++ r) (l.length : Nat) = (n, (l.length : Int) + (wireN n).length) := by
  have h6 := (nameOk_mem hok).1
  rw [nameGet, if_neg (by omega)]
  have := ng_wire (m := l ++ wireN n ++ r) (l := l) (r := r) (a := []) (b := n) (by simp [wireN]) hok (k := 15) (by omega)
  simp only [List.flatMap_nil, List.append_nil, List.nil_append] at this
  rw [this, wireN]
  simp; omega
end Go.TL.Tryz

/- TfEndB -/
namespace Go.TL.Tryz
open Go Go.TL Go.Proofs Go.ChangeShapes Go.WideShapes Go.ChangeAt Go.RowKit

theorem rep_bytes {w : World} {ok : Nat → Prop} {b off len cap : Nat} {zs : List Int} (hok : ok b) (hl : len ≤ cap) (hcap : cap ≤ 2 ^ 63 - 1) (hz : len ≤ zs.length)
    (hc : ∀ i, i < zs.length → w.cell? ⟨b, off + i, none⟩ = some (.int .u8 (zs.getD i 0))) (hw : ∀ n, n ∈ zs → 0 ≤ n ∧ n ≤ 255) :
    ∃ l : List UInt8, Rep w ok (.slice (some ⟨b, off, none⟩) len cap) (.sl (encB l)) := by
  refine ⟨(zs.take len).map byteOf, ?_⟩
  have hlen : (encB ((zs.take len).map byteOf)).length = len := by simp [encB]; omega
  have hr := Rep.sl (w := w) (ok := ok) b off cap 1 (encB ((zs.take len).map byteOf)) (fun i _ => .int .u8 (zs.getD i 0)) (by omega) (by omega) (by intro e he; simp only [encB, List.mem_map] at he; obtain ⟨x, _, rfl⟩ := he; rfl) hok
    (by
      intro i j hi hj
      have : j = 0 := by omega
      subst this
      simpa using hc i (by omega))
    (by
      intro i j e t he ht
      have hi : i < len := by have := (List.getElem?_eq_some_iff.1 he).1; omega
      have hzi : zs[i]? = some zs[i] := List.getElem?_eq_getElem (by omega)
      have hm := hw zs[i] (List.getElem_mem _)
      have hg : zs.getD i 0 = zs[i] := by rw [List.getD, hzi]; rfl
      have e1 : e = [.int .u8 (zs.getD i 0)] := by
        rw [encB, List.map_map, List.getElem?_map, List.getElem?_take_of_lt hi, hzi] at he
        have he := Option.some.inj he
        rw [← he, hg]
        show [T.int .u8 (iB (byteOf zs[i]))] = _
        rw [iB_byteOf_mod, Int.emod_eq_of_lt hm.1 (by omega)]
      subst e1
      match j, ht with
      | 0, ht =>
        have := Option.some.inj ht
        subst this
        exact .int _ _ (by rw [hg]; simp [IntKind.has, IntKind.min, IntKind.max, IntKind.signed, IntKind.bits]; omega))
  rw [hlen] at hr
  exact hr
theorem addr_add (b off i : Nat) : (⟨b, off, none⟩ : Addr).add i = ⟨b, off + i, none⟩ := by
  unfold Addr.add; split
  · rename_i h; simp_all
  · rfl
theorem laidMet_tail {P : Program} {x : String × DataW Unit} {rest : List (String × DataW Unit)} {w : World} (h : laidMet P (x :: rest) w) : laidMet P rest w := by
  obtain ⟨ps, ⟨g, t, cs, fuel, p, q, _, _, _, _, hq, rfl⟩, hn, hc⟩ := h
  exact ⟨q, hq, (List.nodup_append.1 hn).2.1, fun b off hb => hc b off (List.mem_append_right _ hb)⟩
set_option maxRecDepth 100000 in
/-- A law of one argument, bytes, whose contract says that it returns true. -/
theorem law_bytes {f : Nat} {fn : Func} (hf : Tryz.prog.funcs[f]? = some fn) (hb : fn.body.isSome = true) (hnm : fn.name ≠ "runtime.NumGoroutine") (hp : fn.params = #[43]) (hr : fn.resultTypes = #[4])
    (hlo : laidOutB Tryz.prog = true) (hrd : Tryz.prog.readableRec 43 = true) (hrow : 43 < Tryz.prog.types.size) (hg : Tryz.prog.globalNamed "internal/strconv.uint64pow10" = some 1)
    (hcon : ∀ (code : List UInt8) (es : List (List T)), encB code = es → ACall Tryz.prog f [.one (.t (.sl es))] [] (fun r ob => r = .one (.t (.bool true)) ∧ ob = []))
    {H : Type} {enc : TypeId × Value → H} {s : ChangeSpec} (hvars : s.vars = []) (hfn : ∀ d, s.fn H [d] = { results := [.lit (.bool true)], args := [d] })
    {W : World} {base : Nat} {args : Array Value} {ds gs : List (DataW H)} {before : List MemPlace}
    (hval : ∀ (j : Nat) t v, fn.params[j]? = some t → args[j]? = some v → Value.okWide Tryz.prog W .any base t v)
    (hW : DataW.Whole enc Tryz.prog fn.params.toList s.vars false W args.toList ds gs before) (hL : Lib.TabIs Tryz.prog W "internal/strconv.uint64pow10" .u64 pow10L) :
    Calls Tryz.prog f args W fun e W' => ∃ v, e = .returned v ∧ s.post enc Tryz.prog fn false true false false W args v W' := by
  have hW' := hW
  obtain ⟨p, q, hA0, hV, rfl, hfz, hnd⟩ := hW
  have hA : DataW.TrodAll enc Tryz.prog W 0 (fun _ => true) true fn.params.toList args.toList ds p := hA0
  rw [hp] at hA hval
  obtain ⟨v0, vs0, d0, ds0, p0, q0, hargs, rfl, rfl, h0, r0⟩ := trodAll_cons hA
  obtain ⟨rfl, rfl, rfl⟩ := trodAll_nil r0
  obtain rfl : args = #[v0] := by cases args; simp_all
  rw [hvars] at hV
  obtain ⟨rfl, rfl⟩ := trodVars_none hV
  have hok := hval 0 _ v0 rfl rfl
  obtain ⟨a, len, cap, rfl⟩ := okWide_slice Tryz.underlying43 hok
  have hlt : ∀ x ∈ p0, x.block < W.heap.size := fun x hx => hW'.lt x (by simp [hx])
  have hgl : 1 < W.heap.size := by
    unfold Lib.TabIs World.var? at hL
    rw [hg] at hL
    simp only [Option.bind_some] at hL
    rcases Nat.lt_or_ge 1 W.heap.size with h | h
    · exact h
    · rw [Array.getElem?_eq_none h] at hL
      cases hL
  obtain ⟨okb, l, hob, hrep, hgok⟩ : ∃ (okb : Nat → Prop) (l : List UInt8), (∀ b, okb b → b < W.heap.size) ∧ Rep W okb (.slice a len cap) (.sl (encB l)) ∧ okb 1 := by
    obtain ⟨fuel, ht⟩ := h0
    rcases open_ints Tryz.underlying43 Tryz.underlying5 (by rfl) ht with ⟨e1, _⟩ | ⟨a', len', cap', zs, e1, _, hl, hm, hzl, _, hc, hw⟩
    · have e1 : Value.slice a len cap = .slice none 0 0 := by simpa [Value.cells] using e1
      injection e1 with e1 e2 e3
      subst e1; subst e2; subst e3
      exact ⟨fun b => b = 1, [], fun b hb => hb ▸ hgl, .snil, rfl⟩
    · have e1 : Value.slice a len cap = .slice (some a') len' cap' := by simpa [Value.cells] using e1
      injection e1 with e1 e2 e3
      subst e1; subst e2; subst e3
      have hh : W.has Tryz.prog .any base a' 5 cap := by
        simp only [Value.okWide, Tryz.underlying43, Cell.okWide, Cell.ok] at hok
        exact hok.2.2
      obtain ⟨_, hsp, row, cells, hsh, _⟩ := hh
      obtain ⟨b, off, spot⟩ := a'
      have hsp : spot = none := hsp
      subst hsp
      have hbl : b < W.heap.size := by
        rcases Nat.lt_or_ge b W.heap.size with h | h
        · exact h
        · simp [World.shape?, Array.getElem?_eq_none h] at hsh
      obtain ⟨l, hl⟩ := rep_bytes (w := W) (ok := fun x => x = b ∨ x = 1) (b := b) (off := off) (len := len) (cap := cap) (zs := zs) (.inl rfl) hl (Nat.le_trans hm (by decide)) (by simp at hzl; omega)
        (fun i hi => by rw [← addr_add]; exact hc i hi) (fun n hn => by have := hw n hn; simp [Lit.wf, IntKind.min, IntKind.max, IntKind.signed, IntKind.bits] at this; omega)
      exact ⟨_, l, fun x hx => by rcases hx with rfl | rfl; exact hbl; exact hgl, hl, .inr rfl⟩
  have hG : Gl Tryz.prog W okb := by
    intro g hg'
    obtain rfl := Option.some.inj (hg.symm.trans hg')
    exact ⟨hgok, hL⟩
  have hR : ORel okb (fun _ => hdOf (.bool true) []) (look []) W := ⟨hob, fun n b h => absurd rfl h, fun n m b _ h => absurd rfl h, fun n o h => by cases h⟩
  refine calls_acall (vs := [Value.slice a len cap]) hf hb hnm (hcon l _ rfl) hG hR rfl (fun i v x hv hx => ?_) ?_
  · match i, hv, hx with
    | 0, hv, hx =>
      obtain rfl := Option.some.inj hv
      obtain rfl := Option.some.inj hx
      exact .one _ _ hrep
  · rintro v w' ok' hd' r ob' ⟨rfl, rfl⟩ hret hv
    have hv1 : v = .bool true := by
      have := hv.one_inv
      cases this
      rfl
    subst hv1
    refine ⟨_, rfl, ?_⟩
    have hbel : Below W.heap.size W w' := ⟨hret.os, hret.tape, hret.output, hret.size, fun b hb => hret.block b hb (fun n h => absurd rfl h)⟩
    have ht := Below.trod hlo hrd hrow h0 hbel hlt
    refine ⟨_, _, _, [], p0, [], hW', ?_, ?_, ?_, ?_, fun h => by cases h⟩
    · rw [hr, show ([d0] ++ [] : List (DataW H)) = [d0] from rfl, hfn d0]
      exact trodAll_mk1 (shut_bool Tryz.underlying4 _)
    · rw [hp, show ([d0] ++ [] : List (DataW H)) = [d0] from rfl, hfn d0]
      exact trodAll_mk1 ht
    · rw [hvars, show ([d0] ++ [] : List (DataW H)) = [d0] from rfl, hfn d0]
      rfl
    · refine ⟨hret.os, hret.output, fun i hi => ?_⟩
      rw [hbel.block i hi]
      cases W.heap[i]? with
      | none => rfl
      | some o => cases o with
        | cells c t fr => exact ⟨rfl, rfl, rfl, fun _ _ => rfl⟩
        | map es clock => exact .inr ⟨rfl, rfl⟩
        | _ => rfl
end Go.TL.Tryz

/- TfRecV -/
namespace Go.TL.Tryz
open Go Go.TL Go.Proofs
variable {P : Program}

structure Rrv where
  n : List (List UInt8)
  t : Int
  ttl : Int
  addr : Int
  to : List (List UInt8)
  tx : List UInt8
  nu : List Int
structure Wnt where
  r : Rrv
  cls : Int
  bare : Bool
structure Qst where
  n : List (List UInt8)
  t : Int
def cellsR (r : Rrv) : List T := [.sl (encN r.n), .int .i64 r.t, .int .i64 r.ttl, .int .i64 r.addr, .sl (encN r.to), .sl (encB r.tx), .sl (encI r.nu)]
def cellsW (w : Wnt) : List T := [.sl (encN w.r.n), .int .i64 w.r.t, .int .i64 w.r.ttl, .int .i64 w.r.addr, .sl (encN w.r.to), .sl (encB w.r.tx), .sl (encI w.r.nu), .int .i64 w.cls, .bool w.bare]
def cellsQ (q : Qst) : List T := [.sl (encN q.n), .int .i64 q.t]
def encR (l : List Rrv) : List (List T) := l.map cellsR
def encW (l : List Wnt) : List (List T) := l.map cellsW
def encQ (l : List Qst) : List (List T) := l.map cellsQ
theorem encR_len {l : List Rrv} {es : List (List T)} (h : encR l = es) : es.length = l.length := by subst h; simp [encR]
theorem encW_len {l : List Wnt} {es : List (List T)} (h : encW l = es) : es.length = l.length := by subst h; simp [encW]
theorem encQ_len {l : List Qst} {es : List (List T)} (h : encQ l = es) : es.length = l.length := by subst h; simp [encQ]
theorem encR_app {l m : List Rrv} {es fs : List (List T)} (h : encR l = es) (k : encR m = fs) : encR (l ++ m) = es ++ fs := by subst h; subst k; simp [encR]
theorem encW_app {l m : List Wnt} {es fs : List (List T)} (h : encW l = es) (k : encW m = fs) : encW (l ++ m) = es ++ fs := by subst h; subst k; simp [encW]
theorem encQ_app {l m : List Qst} {es fs : List (List T)} (h : encQ l = es) (k : encQ m = fs) : encQ (l ++ m) = es ++ fs := by subst h; subst k; simp [encQ]
theorem encR_one {r : Rrv} {ns tos txs nus : List (List T)} (h1 : encN r.n = ns) (h2 : encN r.to = tos) (h3 : encB r.tx = txs) (h4 : encI r.nu = nus) : encR [r] = [[.sl ns, .int .i64 r.t, .int .i64 r.ttl, .int .i64 r.addr, .sl tos, .sl txs, .sl nus]] := by
  subst h1; subst h2; subst h3; subst h4; rfl
theorem encW_one {w : Wnt} {ns tos txs nus : List (List T)} (h1 : encN w.r.n = ns) (h2 : encN w.r.to = tos) (h3 : encB w.r.tx = txs) (h4 : encI w.r.nu = nus) :
    encW [w] = [[.sl ns, .int .i64 w.r.t, .int .i64 w.r.ttl, .int .i64 w.r.addr, .sl tos, .sl txs, .sl nus, .int .i64 w.cls, .bool w.bare]] := by
  subst h1; subst h2; subst h3; subst h4; rfl
theorem encQ_one {q : Qst} {ns : List (List T)} (h1 : encN q.n = ns) : encQ [q] = [[.sl ns, .int .i64 q.t]] := by subst h1; rfl
theorem wid_encR (l : List Rrv) : std.wid 7 (encR l) := by intro x hx; obtain ⟨y, _, rfl⟩ := List.mem_map.1 hx; rfl
theorem wid_encW (l : List Wnt) : std.wid 9 (encW l) := by intro x hx; obtain ⟨y, _, rfl⟩ := List.mem_map.1 hx; rfl
theorem wid_encQ (l : List Qst) : std.wid 2 (encQ l) := by intro x hx; obtain ⟨y, _, rfl⟩ := List.mem_map.1 hx; rfl
theorem get_rec {ar : Ar} (har : ar = std) {b : List Rrv} {es : List (List T)} {i : Int} {K : List T → Prop} (hes : encR b = es) (h : 0 ≤ i ∧ i.toNat < b.length)
    (k : ∀ (r : Rrv) (ns tos txs nus : List (List T)), b[i.toNat]? = some r → encN r.n = ns → encN r.to = tos → encB r.tx = txs → encI r.nu = nus → K [.sl ns, .int .i64 r.t, .int .i64 r.ttl, .int .i64 r.addr, .sl tos, .sl txs, .sl nus]) : GetP ar es i K := by
  have hl : i.toNat < b.length := h.2
  subst har; subst hes
  refine ⟨by simp [std, encR]; omega, ?_⟩
  have := k b[i.toNat] _ _ _ _ (List.getElem?_eq_getElem hl) rfl rfl rfl rfl
  simpa [std, encR, cellsR, hl] using this
theorem get_want {ar : Ar} (har : ar = std) {b : List Wnt} {es : List (List T)} {i : Int} {K : List T → Prop} (hes : encW b = es) (h : 0 ≤ i ∧ i.toNat < b.length)
    (k : ∀ (w : Wnt) (ns tos txs nus : List (List T)), b[i.toNat]? = some w → encN w.r.n = ns → encN w.r.to = tos → encB w.r.tx = txs → encI w.r.nu = nus → K [.sl ns, .int .i64 w.r.t, .int .i64 w.r.ttl, .int .i64 w.r.addr, .sl tos, .sl txs, .sl nus, .int .i64 w.cls, .bool w.bare]) : GetP ar es i K := by
  have hl : i.toNat < b.length := h.2
  subst har; subst hes
  refine ⟨by simp [std, encW]; omega, ?_⟩
  have := k b[i.toNat] _ _ _ _ (List.getElem?_eq_getElem hl) rfl rfl rfl rfl
  simpa [std, encW, cellsW, hl] using this
theorem get_qst {ar : Ar} (har : ar = std) {b : List Qst} {es : List (List T)} {i : Int} {K : List T → Prop} (hes : encQ b = es) (h : 0 ≤ i ∧ i.toNat < b.length)
    (k : ∀ (q : Qst) (ns : List (List T)), b[i.toNat]? = some q → encN q.n = ns → K [.sl ns, .int .i64 q.t]) : GetP ar es i K := by
  have hl : i.toNat < b.length := h.2
  subst har; subst hes
  refine ⟨by simp [std, encQ]; omega, ?_⟩
  have := k b[i.toNat] _ (List.getElem?_eq_getElem hl) rfl
  simpa [std, encQ, cellsQ, hl] using this
theorem get_ltR {ar : Ar} (har : ar = std) {b : List Rrv} {es : List (List T)} {i : Int} {K : List T → Prop} (hes : encR b = es) (h : ar.icmp .lss i (ar.len es) = true) (h0 : 0 ≤ i)
    (k : ∀ (r : Rrv) (ns tos txs nus : List (List T)), b[i.toNat]? = some r → encN r.n = ns → encN r.to = tos → encB r.tx = txs → encI r.nu = nus → K [.sl ns, .int .i64 r.t, .int .i64 r.ttl, .int .i64 r.addr, .sl tos, .sl txs, .sl nus]) : GetP ar es i K :=
  get_rec har hes ⟨h0, by rw [← encR_len hes]; exact lt_len har h h0⟩ k
theorem get_ltW {ar : Ar} (har : ar = std) {b : List Wnt} {es : List (List T)} {i : Int} {K : List T → Prop} (hes : encW b = es) (h : ar.icmp .lss i (ar.len es) = true) (h0 : 0 ≤ i)
    (k : ∀ (w : Wnt) (ns tos txs nus : List (List T)), b[i.toNat]? = some w → encN w.r.n = ns → encN w.r.to = tos → encB w.r.tx = txs → encI w.r.nu = nus → K [.sl ns, .int .i64 w.r.t, .int .i64 w.r.ttl, .int .i64 w.r.addr, .sl tos, .sl txs, .sl nus, .int .i64 w.cls, .bool w.bare]) : GetP ar es i K :=
  get_want har hes ⟨h0, by rw [← encW_len hes]; exact lt_len har h h0⟩ k
def rrOkR (r : Rrv) : Bool := rrOk r.n r.t r.ttl r.addr r.to r.tx r.nu
def askedB (t : Int) : Bool := typeB t || decide (t = 255)
def wantOk (w : Wnt) : Bool :=
  if w.bare then (decide (w.cls = 254) || decide (w.cls = 255)) && (nameOk w.r.n && (askedB w.r.t && (decide (w.r.ttl = 0) && (decide (w.r.addr = 0) && (decide (w.r.to.length = 0) && (decide (w.r.tx.length = 0) && decide (w.r.nu.length = 0)))))))
  else (decide (w.cls = 1) || (decide (w.cls = 254) && decide (w.r.ttl = 0))) && rrOkR w.r
structure Mes where
  id : Int
  reply : Bool
  op : Int
  auth : Bool
  code : Int
  qs : List Qst
  an : List Rrv
  au : List Rrv
  mo : List Rrv
  pr : List Wnt
  up : List Wnt
def listOk {α : Type} (p : α → Bool) (l : List α) : Bool := decide (l.length ≤ 12) && l.all p
def mayB (m : Mes) : Bool :=
  decide (0 ≤ m.id ∧ m.id ≤ 65535) && (decide (m.op = 0 ∨ m.op = 5) && (decide (0 ≤ m.code ∧ m.code ≤ 10) && (decide (m.qs.length = 1) && (m.qs.all (fun q => nameOk q.n && askedB q.t) &&
    (listOk rrOkR m.an && (listOk rrOkR m.au && (listOk rrOkR m.mo && (listOk wantOk m.pr && (listOk wantOk m.up &&
      (if m.op = 0 then decide (m.pr.length = 0) && decide (m.up.length = 0) else m.qs.all (fun q => decide (q.t = 6)) && (decide (m.an.length = 0) && (decide (m.au.length = 0) && decide (m.mo.length = 0)))))))))))))
end Go.TL.Tryz

/- TfOpnA -/
namespace Go.TL.Tryz
open Go Go.TL Go.Proofs Go.ChangeShapes Go.WideShapes Go.ChangeAt Go.RowKit Go.Deep

section
variable {H : Type} {enc : TypeId × Value → H} {W : World}
/-- All blocks that there are. -/
abbrev allB2 (W : World) : Nat → Prop := fun b => b < W.heap.size
/-- Cells that read as trees. -/
def Reps (W : World) : List Value → List T → Prop
  | [], [] => True
  | v :: vs, t :: ts => Rep W (allB2 W) v t ∧ Reps W vs ts
  | _, _ => False
theorem Reps.len : ∀ {vs : List Value} {ts : List T}, Reps W vs ts → vs.length = ts.length
  | [], [], _ => rfl
  | v :: vs, t :: ts, h => by simp [Reps.len h.2]
theorem Reps.at : ∀ {vs : List Value} {ts : List T}, Reps W vs ts → ∀ (j : Nat) v t, vs[j]? = some v → ts[j]? = some t → Rep W (allB2 W) v t
  | v :: vs, t :: ts, h, 0, v', t', h1, h2 => by
    injection h1 with h1; injection h2 with h2; subst h1; subst h2; exact h.1
  | v :: vs, t :: ts, h, j + 1, v', t', h1, h2 => Reps.at h.2 j v' t' h1 h2
  | [], [], _, j, v', t', h1, _ => by simp at h1
/-- Whatever is read of a type is a value of the model, laid in trees. -/
def OpenT (enc : TypeId × Value → H) (W : World) (t : TypeId) {α : Type} (cells : α → List T) : Prop :=
  ∀ fuel cs x, DataW.trod enc Tryz.prog W 0 (fun _ => true) true fuel t cs = some x → ∃ a : α, Reps W cs (cells a)
theorem open_intT {t : TypeId} {k : IntKind} (ht : Tryz.prog.underlying t = some (.int k)) : OpenT enc W t (fun n : {n : Int // k.has n} => [.int k n.1]) := by
  intro fuel cs x h
  obtain ⟨n, rfl, _, hw⟩ := DataW.trod_int ht h
  have hh : k.has n := by simpa [Lit.wf, IntKind.has] using hw
  exact ⟨⟨n, hh⟩, .int _ _ hh, trivial⟩
theorem open_i64 {t : TypeId} (ht : Tryz.prog.underlying t = some (.int .i64)) : OpenT enc W t (fun n : Int => [.int .i64 n]) := by
  intro fuel cs x h
  obtain ⟨a, ha⟩ := open_intT ht fuel cs x h
  exact ⟨a.1, ha⟩
theorem open_u8 {t : TypeId} (ht : Tryz.prog.underlying t = some (.int .u8)) : OpenT enc W t (fun b : UInt8 => [.int .u8 b.toNat]) := by
  intro fuel cs x h
  obtain ⟨⟨n, hn⟩, ha⟩ := open_intT ht fuel cs x h
  refine ⟨byteOf n, ?_⟩
  have e : ((byteOf n).toNat : Int) = n := by rw [byteOf_wrap]; exact wrap_id hn
  show Reps W cs [T.int .u8 ((byteOf n).toNat : Int)]
  rw [e]; exact ha
theorem open_bool {t : TypeId} (ht : Tryz.prog.underlying t = some .bool) : OpenT enc W t (fun b : Bool => [.bool b]) := by
  intro fuel cs x h
  obtain ⟨b, rfl, _⟩ := DataW.trod_bool ht h
  exact ⟨b, .bool b, trivial⟩
theorem Reps.of : ∀ {vs : List Value} {ts : List T}, vs.length = ts.length → (∀ (j : Nat) v t, vs[j]? = some v → ts[j]? = some t → Rep W (allB2 W) v t) → Reps W vs ts
  | [], [], _, _ => trivial
  | v :: vs, t :: ts, hl, h => ⟨h 0 v t rfl rfl, Reps.of (by simpa using hl) fun j v t h1 h2 => h (j + 1) v t (by simpa using h1) (by simpa using h2)⟩
/-- A slice, of whatever has so many cells. -/
theorem open_list {t e : TypeId} {α : Type} {cells : α → List T} {k : Nat} (ht : Tryz.prog.underlying t = some (.slice e)) (hk : Tryz.prog.cellsOf e = k) (hk0 : 0 < k) (hlen : ∀ a, (cells a).length = k)
    (he : OpenT enc W e cells) : OpenT enc W t (fun l : List α => [.sl (l.map cells)]) := by
  intro fuel cs x h
  rcases open_slice ht h with ⟨rfl, _⟩ | ⟨a, len, cap, m, n, D, Pl, rfl, _, hl, hm, hmm, _, hx⟩
  · exact ⟨[], .snil, trivial⟩
  have hmm : m = cap := by simpa using hmm
  subst hmm
  rw [hk] at hx
  by_cases hc : m = 0
  · subst hc
    obtain rfl : len = 0 := by omega
    exact ⟨[], .szero a 0, trivial⟩
  have hcell : ∀ i, i < m → ∀ j, j < k → ∃ v, W.cell? ((a.add (i * k)).add j) = some v := by
    intro i hi j hj
    obtain ⟨cs', h1, _⟩ := hx i hi
    obtain ⟨_, hlen', hat⟩ := World.cells?_some h1
    exact ⟨cs'[j]'(by omega), by rw [hat j hj]; exact List.getElem?_eq_getElem (by omega)⟩
  obtain ⟨v0, hv0⟩ := hcell 0 (by omega) 0 (by omega)
  obtain ⟨b, off, spot⟩ := a
  have hs : spot = none ∧ b < W.heap.size := by
    have e : ((⟨b, off, spot⟩ : Addr).add (0 * k)).add 0 = ⟨b, off, spot⟩ := by simp [Addr.add]
    rw [e] at hv0
    unfold World.cell? at hv0
    split at hv0
    · rename_i c e2 e3 hh
      split at hv0
      · cases hv0
      · rename_i hsp
        refine ⟨by simpa using hsp, ?_⟩
        rcases Nat.lt_or_ge b W.heap.size with h | h
        · exact h
        · have hh : W.heap[b]? = _ := hh
          rw [Array.getElem?_eq_none h] at hh; cases hh
    · cases hv0
  obtain ⟨rfl, hb⟩ := hs
  have hsel : ∀ i : Nat, ∃ y : List Value × Option α, i < len → ∃ z, y.2 = some z ∧ W.cells? 0 ((⟨b, off, none⟩ : Addr).add (i * k)) k = some y.1 ∧ Reps W y.1 (cells z) := by
    intro i
    by_cases hi : i < len
    · obtain ⟨cs', h1, h2⟩ := hx i (by omega)
      obtain ⟨z, hz⟩ := he n cs' _ h2
      exact ⟨(cs', some z), fun _ => ⟨z, rfl, h1, hz⟩⟩
    · exact ⟨([], none), fun h => absurd h hi⟩
  obtain ⟨f, hf⟩ := Classical.axiomOfChoice hsel
  have hne : len = 0 ∨ Nonempty α := by
    by_cases h0 : len = 0
    · exact .inl h0
    · obtain ⟨z, _⟩ := hf 0 (by omega)
      exact .inr ⟨z⟩
  rcases hne with rfl | ⟨⟨d⟩⟩
  · refine ⟨[], ?_, trivial⟩
    have := Rep.sl (w := W) (ok := allB2 W) b off m k [] (fun _ _ => .bool false) (by simp) (by simp) (by simp) hb (by simp) (by simp)
    exact this
  refine ⟨(List.range len).map fun i => ((f i).2).getD d, ?_, trivial⟩
  have hz : ∀ i, i < len → W.cells? 0 ((⟨b, off, none⟩ : Addr).add (i * k)) k = some (f i).1 ∧ Reps W (f i).1 (cells (((f i).2).getD d)) := by
    intro i hi
    obtain ⟨z, h1, h2, h3⟩ := hf i hi
    rw [h1]; exact ⟨h2, h3⟩
  have hle : (((List.range len).map fun i => ((f i).2).getD d).map cells).length = len := by simp
  have := Rep.sl (w := W) (ok := allB2 W) b off m k (((List.range len).map fun i => ((f i).2).getD d).map cells) (fun i j => (f i).1.getD j (.bool false)) (by rw [hle]; exact Nat.le_trans (Nat.le_trans hl hm) (by decide)) (by rw [hle]; exact hl)
    (fun e he => by obtain ⟨z, _, rfl⟩ := List.mem_map.1 he; exact hlen z) hb
    (fun i j hi hj => by
      rw [hle] at hi
      obtain ⟨h1, h2⟩ := hz i hi
      obtain ⟨_, hl', hat⟩ := World.cells?_some h1
      have := hat j hj
      rw [addr_add, addr_add] at this
      rw [this, List.getD, List.getElem?_eq_getElem (by omega)]
      rfl)
    (fun i j e t hi hj => by
      have hil : i < len := by have := (List.getElem?_eq_some_iff.1 hi).1; rwa [hle] at this
      obtain ⟨h1, h2⟩ := hz i hil
      rw [List.getElem?_map, List.getElem?_map, List.getElem?_range hil] at hi
      have hi : e = cells (((f i).2).getD d) := (Option.some.inj hi).symm
      subst hi
      have hjl := (List.getElem?_eq_some_iff.1 hj).1
      have hl2 := h2.len
      exact h2.at j _ t (by rw [List.getD, List.getElem?_eq_getElem (by omega)]; rfl) hj)
  rw [hle] at this
  exact this
theorem open_struct {t : TypeId} {fs : Array Field} {fuel : Nat} {cs : List Value} {x : DataW H × List MemPlace} (ht : Tryz.prog.underlying t = some (.struct fs)) (h : DataW.trod enc Tryz.prog W 0 (fun _ => true) true fuel t cs = some x) :
    cs.length = Tryz.prog.cellsOf t ∧ ∀ (i : Nat) (f : Field), fs[i]? = some f → ∃ n y, DataW.trod enc Tryz.prog W 0 (fun _ => true) true n f.type ((cs.drop f.offset).take (Tryz.prog.cellsOf f.type)) = some y := by
  obtain ⟨xs, n, _, _, hl, hxl, hf⟩ := DataW.trod_struct ht h
  refine ⟨hl, fun i f hi => ?_⟩
  have := hf i f hi
  have hil : i < xs.length := by have := (Array.getElem?_eq_some_iff.1 hi).1; omega
  rw [List.getElem?_eq_getElem hil] at this
  exact ⟨n, _, this⟩
end
end Go.TL.Tryz
