/- Texts of a proof, joined by a program (merge.py): TfRrOkI TfPutI TfOrdS TfMoA TfMoB TfMoC TfCopI TfSamR TfWrd TfShelf. -/
import Derived.Test.YtgdckdmamepaeaaGreatDoorT07
import Derived.Shelf.Strings.Builder1
import Derived.Shelf.Strings.Builder2
import Derived.Shelf.Strings.OnBuilder
import Derived.Shelf.Strconv.Itoa0
import Derived.Shelf.Strconv.Itoa1
import Derived.Shelf.LaysM
import Derived.Shelf.Strconv.Itoa2
import Derived.Shelf.Strconv.Itoa3
import Derived.Shelf.Strings.Search1
import Derived.Shelf.Bits.Mul64
import Derived.Ground.Names2Prog
import Derived.Shelf.Slices.ReverseS
import Derived.Shelf.Slices.SearchI
import Derived.Shelf.Slices.Cells
import Derived.Shelf.Bytes.SlIndexSmall
import Derived.Ground.SlbNamesProg
import Derived.Shelf.Bytes.SlCountOne
import Derived.Shelf.Bytes.SlIndexAt
import Derived.Shelf.Bytes.SlSearch0
import Derived.Shelf.Bytes.SlSearch1
import Derived.Shelf.Bytes.SlSearch2
import Derived.Shelf.Bytes.SlIndexWhole
import Derived.Shelf.Bytes.SlCountWhole
import Derived.Ground.SlbSplitProg
import Derived.Shelf.Bytes.SlSplit
import Derived.Shelf.Bytes.Small
import Derived.Shelf.Bytes.IndexByte
import Derived.Test.YtgdckdmamepaeaaGreatDoorProg
set_option linter.all false
/- TfRrOkI -/
namespace Go.TL.Tryz
open Go Go.TL Go.Proofs
variable {P : Program}
set_option maxRecDepth 20000 in
theorem fn143 : Tryz.prog.funcs[143]? = some Tryz.f143 := rfl
set_option maxHeartbeats 40000000 in
set_option maxRecDepth 3000 in
theorem iRrOk (hP : Prg P) {n to : List (List UInt8)} {ns tos txs nus : List (List T)} {t ttl addr : Int} {tx : List UInt8} {nu : List Int} (hn : encN n = ns) (hto : encN to = tos) (htx : encB tx = txs) (hnu : encI nu = nus) :
    ACall P 143 [.agg [.t (.sl ns), .t (.int .i64 t), .t (.int .i64 ttl), .t (.int .i64 addr), .t (.sl tos), .t (.sl txs), .t (.sl nus)]] []
      (fun r ob => r = .one (.t (.bool (rrOk n t ttl addr to tx nu))) ∧ ob = []) := by
  refine acall_fn (md := md) [none] v143 hP.mixed hP.tab (fn_at hP fn143) 1 rfl (by decide +kernel) rfl ?_
  intro ar har
  cbv
  have hz : to.length = 0 → nameOk to = true := by intro h; rw [List.eq_nil_of_length_eq_zero h]; rfl
  repeat' (first | (intro; cbv) | (with_reducible refine and_side ?_ ?_; rotate_left; try cbv) | (refine ChkP.mk (by decide +kernel) ?_; cbv) | (refine br_intro ?_ ?_ <;> intro <;> cbv) | (refine get_at har (by assumption) (by assumption) (by assumption) (by assumption) ?_; cbv) | (refine get_lt har (by assumption) (by assumption) (by assumption) ?_; intro x xx hx hxx; cbv) | (refine get_atN har (by assumption) (by assumption) (by assumption) (by assumption) ?_; cbv) | (refine get_ltN har (by assumption) (by assumption) (by assumption) ?_; intro x xx hx hxx; cbv) | (refine get_atI har (by assumption) (by assumption) (by decide) ?_; cbv) | (refine get_twoA har (by assumption) (by assumption) (by decide) ?_; intro x hx; cbv) | (refine get_twoB har (by assumption) (by assumption) (by decide) ?_; intro x hx; cbv) | (refine bytes_intro (by assumption) ?_; cbv) | (exact side_lt har (by assumption) (by assumption)) | (exact side_inb har (by assumption) (by assumption) (by assumption)) | (exact side_sh har (by decide)) | (exact side_app har (by assumption) (by assumption) (by omega)) | (exact side_app0 har (by assumption) (by omega)) | (exact side_new har (by assumption) (by omega)) | (exact side_one har (by assumption) (by omega)) | (exact side_oneN har (by assumption) (by omega)) | (exact side_flat har (by assumption)) | (exact side_sbig har (by omega)) | (refine side_sbig har ?_; simp; done) | (exact side_oneI har (by assumption) (by omega)) | (refine side_ix har ?_; simp; done) | (refine side_ix har ?_; simp; omega) | (refine call_intro (iNameOk hP (by assumption)) ?_; rintro r ob ⟨rfl, rfl⟩; generalize hno : nameOk _ = no; cbv) | (refine calld_intro (iNameOk hP (by assumption)) ?_; generalize hno : nameOk _ = no; cbv) | (refine call_intro (iTypeOk hP) ?_; rintro r ob ⟨rfl, rfl⟩; generalize hty : typeB _ = ty; cbv) | (refine calld_intro (iTypeOk hP) ?_; generalize hty : typeB _ = ty; cbv) | (refine call_intro (iWithin hP) ?_; rintro r ob ⟨rfl, rfl⟩; generalize hwi : withinB _ _ _ = wi; cbv) | (refine calld_intro (iWithin hP) ?_; generalize hwi : withinB _ _ _ = wi; cbv) | (refine call_intro (iIsWord hP) ?_; rintro r ob ⟨rfl, rfl⟩; generalize hiw : isWordB _ = iw; cbv) | (refine calld_intro (iIsWord hP) ?_; generalize hiw : isWordB _ = iw; cbv) | (refine call_intro (iHasTo hP) ?_; rintro r ob ⟨rfl, rfl⟩; generalize hht : namedB _ = ht; cbv) | (refine calld_intro (iHasTo hP) ?_; generalize hht : namedB _ = ht; cbv) | (refine call_intro (iHasText hP) ?_; rintro r ob ⟨rfl, rfl⟩; generalize hhx : textB _ = hx1; cbv) | (refine calld_intro (iHasText hP) ?_; generalize hhx : textB _ = hx1; cbv))
  all_goals have hlen1 := encN_len hto
  all_goals have hlen2 := encB_len htx
  all_goals have hlen3 := encI_len hnu
  all_goals try (subst har; simp only [std, icmpS, decide_eq_true_eq, decide_eq_false_iff_not, Bool.not_eq_true', Bool.not_eq_false', bne_iff_ne, ne_eq, bne_eq_false_iff_eq, beq_iff_eq, beq_eq_false_iff_ne, Int.not_lt, Int.not_le, Bool.not_true, Bool.not_false, reduceCtorEq] at *)
  all_goals (refine ⟨⟨?_, rfl⟩⟩; simp_all [rrOk, dataOk, numsOk, isWordB, withinB, List.getD, -List.length_eq_zero_iff])
  all_goals first
    | (intros; omega)
    | (rw [Bool.eq_iff_iff]; simp [-List.length_eq_zero_iff]; omega)
    | grind
end Go.TL.Tryz

/- TfPutI -/
namespace Go.TL.Tryz
open Go Go.TL Go.Proofs
variable {P : Program}

theorem rrI_len {n to : List (List UInt8)} {t ttl addr : Int} {tx : List UInt8} {nu : List Int} (hnb : NmB n) (htob : NmB to) (htxl : tx.length ≤ 500) (hnul : nu.length ≤ 10) : (rrI n t ttl addr to tx nu).length ≤ 1000 := by
  have h1 := wireN_len hnb
  have h2 := dataI_len (t := t) (addr := addr) htob htxl hnul
  simp only [rrI, catB, List.flatMap_cons, List.flatMap_nil, List.length_append, id, List.length_nil, fourB_len]
  have h3 : ∀ n : Int, (twoB n).length = 2 := fun _ => rfl
  rw [h3, h3, h3]
  omega
end Go.TL.Tryz

/- TfOrdS -/
namespace Go.TL.Tryz
open Go Go.TL Go.Proofs
variable {P : Program}

def cmpR (m : List (List UInt8)) (t addr : Int) (to : List (List UInt8)) (tx : List UInt8) (nu : List Int) (n : List (List UInt8)) (t2 addr2 : Int) (qo : List (List UInt8)) (vx : List UInt8) (nv : List Int) : Int :=
  if cmpN m n = 0 then (if cmpI t t2 = 0 then cmpB (dataS t addr to tx nu) (dataS t2 addr2 qo vx nv) else cmpI t t2) else cmpN m n
theorem rrOk_facts {n to : List (List UInt8)} {t ttl addr : Int} {tx : List UInt8} {nu : List Int} (h : rrOk n t ttl addr to tx nu = true) : NmB n ∧ NmB to ∧ tx.length ≤ 40 ∧ (t = 6 → nu.length = 2) ∧ nu.length ≤ 2 := by
  simp only [rrOk, dataOk, numsOk, Bool.and_eq_true] at h
  obtain ⟨h1, _, _, _, h2, h3, h4⟩ := h
  refine ⟨nmB_ok h1, ?_, ?_, ?_, ?_⟩
  · split at h2
    · exact nmB_ok h2
    · have : to = [] := List.eq_nil_of_length_eq_zero (by simpa using h2)
      subst this; exact ⟨by simp, by simp⟩
  · split at h3
    · simpa using h3
    · have : tx.length = 0 := by simpa using h3
      omega
  · intro e
    rw [if_pos e] at h4
    simp only [Bool.and_eq_true, decide_eq_true_eq] at h4
    exact h4.1
  · split at h4
    · simp only [Bool.and_eq_true, decide_eq_true_eq] at h4
      omega
    · have : nu.length = 0 := by simpa using h4
      omega
set_option maxRecDepth 20000 in
theorem fn128 : Tryz.prog.funcs[128]? = some Tryz.f128 := rfl
set_option maxHeartbeats 40000000 in
set_option maxRecDepth 3000 in
theorem sl3cmp (hP : Prg P) {m n to qo : List (List UInt8)} {ms ns tos qos txs nus ux vs : List (List T)} {t ttl addr t2 ttl2 addr2 : Int} {tx vx : List UInt8} {nu nv : List Int} (hm : encN m = ms) (hn : encN n = ns) (hml : m.length ≤ 1000) (hnl : n.length ≤ 1000)
   (hto : encN to = tos) (htob : NmB to) (htx : encB tx = txs) (htxl : tx.length ≤ 500) (hnu : encI nu = nus) (hnu6 : t = 6 → nu.length = 2)
   (hqo : encN qo = qos) (hqob : NmB qo) (hvx : encB vx = ux) (hvxl : vx.length ≤ 500) (hnv : encI nv = vs) (hnv6 : t2 = 6 → nv.length = 2) :
   ACall P 128 [.agg [.t (.sl ms), .t (.int .i64 t), .t (.int .i64 ttl), .t (.int .i64 addr), .t (.sl tos), .t (.sl txs), .t (.sl nus)], .agg [.t (.sl ns), .t (.int .i64 t2), .t (.int .i64 ttl2), .t (.int .i64 addr2), .t (.sl qos), .t (.sl ux), .t (.sl vs)]] []
     (fun r ob => r = .one (.t (.int .i64 (cmpR m t addr to tx nu n t2 addr2 qo vx nv))) ∧ ob = []) := by
  refine acall_fn (md := md) [none] v128 hP.mixed hP.tab (fn_at hP fn128) 2 rfl (by decide +kernel) rfl ?_
  intro ar har
  cbv
  repeat' (first | (intro; cbv) | (with_reducible refine and_side ?_ ?_; rotate_left; try cbv) | (refine ChkP.mk (by decide +kernel) ?_; cbv) | (refine br_intro ?_ ?_ <;> intro <;> cbv) | (refine get_at har (by assumption) (by assumption) (by assumption) (by assumption) ?_; cbv) | (refine get_lt har (by assumption) (by assumption) (by assumption) ?_; intro x xx hx hxx; cbv) | (refine get_atN har (by assumption) (by assumption) (by assumption) (by assumption) ?_; cbv) | (refine get_ltN har (by assumption) (by assumption) (by assumption) ?_; intro x xx hx hxx; cbv) | (refine get_atI har (by assumption) (by assumption) (by decide) ?_; cbv) | (refine get_twoA har (by assumption) (by assumption) (by decide) ?_; intro x hx; cbv) | (refine get_twoB har (by assumption) (by assumption) (by decide) ?_; intro x hx; cbv) | (refine bytes_intro (by assumption) ?_; cbv) | (exact side_lt har (by assumption) (by assumption)) | (exact side_inb har (by assumption) (by assumption) (by assumption)) | (exact side_sh har (by decide)) | (exact side_app har (by assumption) (by assumption) (by omega)) | (exact side_app0 har (by assumption) (by omega)) | (exact side_new har (by assumption) (by omega)) | (exact side_one har (by assumption) (by omega)) | (exact side_oneN har (by assumption) (by omega)) | (exact side_flat har (by assumption)) | (exact side_sbig har (by omega)) | (refine side_sbig har ?_; simp; done) | (exact side_oneI har (by assumption) (by omega)) | (refine side_ix har ?_; simp; done) | (refine side_ix har ?_; simp; omega) | (refine call_intro (sl2cmp hP (by assumption) (by assumption) (by omega) (by omega)) ?_; rintro r ob ⟨rfl, rfl⟩; generalize hcn : cmpN _ _ = cn; cbv) | (refine calld_intro (sl2cmp hP (by assumption) (by assumption) (by omega) (by omega)) ?_; generalize hcn : cmpN _ _ = cn; cbv) | (refine call_intro (sl3num hP) ?_; rintro r ob ⟨rfl, rfl⟩; generalize hcm : cmpI _ _ = cm; cbv) | (refine calld_intro (sl3num hP) ?_; generalize hcm : cmpI _ _ = cm; cbv) | (refine call_intro (sl3put hP (by assumption) (by assumption) (by assumption) (by omega) (by assumption) (by first | assumption | omega)) ?_; rintro r ob ⟨rfl, rfl⟩; generalize hld : encB (dataS _ _ _ _ _) = ld; cbv) | (refine calld_intro (sl3put hP (by assumption) (by assumption) (by assumption) (by omega) (by assumption) (by first | assumption | omega)) ?_; generalize hld : encB (dataS _ _ _ _ _) = ld; cbv) | (refine call_intro (sl2bytes hP (by assumption) (by assumption)) ?_; rintro r ob ⟨rfl, rfl⟩; generalize hcm : cmpB _ _ = cm; cbv) | (refine calld_intro (sl2bytes hP (by assumption) (by assumption)) ?_; generalize hcm : cmpB _ _ = cm; cbv))
  all_goals subst har; simp only [std, icmpS, decide_eq_true_eq, decide_eq_false_iff_not, Bool.not_eq_true', Bool.not_eq_false', bne_iff_ne, ne_eq, bne_eq_false_iff_eq, beq_iff_eq, beq_eq_false_iff_ne, Int.not_lt, Int.not_le, Bool.not_true, Bool.not_false, reduceCtorEq] at *
  all_goals first
    | (exfalso; omega)
    | (refine ⟨⟨?_, rfl⟩⟩; simp_all [cmpR]; done)
set_option maxRecDepth 20000 in
theorem fn37 : Tryz.prog.funcs[37]? = some Tryz.f37 := rfl
set_option maxHeartbeats 40000000 in
set_option maxRecDepth 3000 in
theorem lSame (hP : Prg P) {b c : List UInt8} {es fs : List (List T)} (hl : encB b = es) (hm : encB c = fs) : ACall P 37 [.one (.t (.sl es)), .one (.t (.sl fs))] [] (fun r ob => r = .one (.t (.bool (b == c))) ∧ ob = []) := by
  refine acall_fn (md := md) [none] v37 hP.mixed hP.tab (fn_at hP fn37) 2 rfl (by decide +kernel) rfl ?_
  intro ar har
  cbv
  repeat' (first | (intro; cbv) | (with_reducible refine and_side ?_ ?_; rotate_left; try cbv) | (refine ChkP.mk (by decide +kernel) ?_; cbv) | (refine br_intro ?_ ?_ <;> intro <;> cbv) | (refine get_at har (by assumption) (by assumption) (by assumption) (by assumption) ?_; cbv) | (refine get_lt har (by assumption) (by assumption) (by assumption) ?_; intro x xx hx hxx; cbv) | (refine get_atN har (by assumption) (by assumption) (by assumption) (by assumption) ?_; cbv) | (refine get_ltN har (by assumption) (by assumption) (by assumption) ?_; intro x xx hx hxx; cbv) | (refine get_atI har (by assumption) (by assumption) (by decide) ?_; cbv) | (refine get_twoA har (by assumption) (by assumption) (by decide) ?_; intro x hx; cbv) | (refine get_twoB har (by assumption) (by assumption) (by decide) ?_; intro x hx; cbv) | (refine bytes_intro (by assumption) ?_; cbv) | (exact side_lt har (by assumption) (by assumption)) | (exact side_inb har (by assumption) (by assumption) (by assumption)) | (exact side_sh har (by decide)) | (exact side_app har (by assumption) (by assumption) (by omega)) | (exact side_app0 har (by assumption) (by omega)) | (exact side_new har (by assumption) (by omega)) | (exact side_one har (by assumption) (by omega)) | (exact side_oneN har (by assumption) (by omega)) | (exact side_flat har (by assumption)) | (exact side_sbig har (by omega)) | (refine side_sbig har ?_; simp; done) | (exact side_oneI har (by assumption) (by omega)) | (refine side_ix har ?_; simp; done) | (refine side_ix har ?_; simp; omega))
  subst har
  exact ⟨⟨rfl, rfl⟩⟩
set_option maxRecDepth 20000 in
theorem fn13 : Tryz.prog.funcs[13]? = some Tryz.f13 := rfl
set_option maxHeartbeats 40000000 in
set_option maxRecDepth 3000 in
theorem lSameName (hP : Prg P) {m n : List (List UInt8)} {ms ns : List (List T)} (hm : encN m = ms) (hn : encN n = ns) : ACall P 13 [.agg [.t (.sl ms)], .agg [.t (.sl ns)]] [] (fun r ob => r = .one (.t (.bool (nameTextB m == nameTextB n))) ∧ ob = []) := by
  refine acall_fn (md := md) [none] v13 hP.mixed hP.tab (fn_at hP fn13) 2 rfl (by decide +kernel) rfl ?_
  intro ar har
  cbv
  repeat' (first | (intro; cbv) | (with_reducible refine and_side ?_ ?_; rotate_left; try cbv) | (refine ChkP.mk (by decide +kernel) ?_; cbv) | (refine br_intro ?_ ?_ <;> intro <;> cbv) | (refine get_at har (by assumption) (by assumption) (by assumption) (by assumption) ?_; cbv) | (refine get_lt har (by assumption) (by assumption) (by assumption) ?_; intro x xx hx hxx; cbv) | (refine get_atN har (by assumption) (by assumption) (by assumption) (by assumption) ?_; cbv) | (refine get_ltN har (by assumption) (by assumption) (by assumption) ?_; intro x xx hx hxx; cbv) | (refine get_atI har (by assumption) (by assumption) (by decide) ?_; cbv) | (refine get_twoA har (by assumption) (by assumption) (by decide) ?_; intro x hx; cbv) | (refine get_twoB har (by assumption) (by assumption) (by decide) ?_; intro x hx; cbv) | (refine bytes_intro (by assumption) ?_; cbv) | (exact side_lt har (by assumption) (by assumption)) | (exact side_inb har (by assumption) (by assumption) (by assumption)) | (exact side_sh har (by decide)) | (exact side_app har (by assumption) (by assumption) (by omega)) | (exact side_app0 har (by assumption) (by omega)) | (exact side_new har (by assumption) (by omega)) | (exact side_one har (by assumption) (by omega)) | (exact side_oneN har (by assumption) (by omega)) | (exact side_flat har (by assumption)) | (exact side_sbig har (by omega)) | (refine side_sbig har ?_; simp; done) | (exact side_oneI har (by assumption) (by omega)) | (refine side_ix har ?_; simp; done) | (refine side_ix har ?_; simp; omega) | (refine call_intro (sNameText hP (by assumption)) ?_; rintro r ob ⟨rfl, rfl⟩; generalize hnt : encB (nameTextB _) = nt; cbv) | (refine calld_intro (sNameText hP (by assumption)) ?_; generalize hnt : encB (nameTextB _) = nt; cbv))
  rename_i h1
  refine calld_intro (lSame hP h1 hnt) ?_
  generalize hsm : (nameTextB m == nameTextB n) = sm
  cbv
  repeat' (first | (intro; cbv) | (with_reducible refine and_side ?_ ?_; rotate_left; try cbv) | (refine ChkP.mk (by decide +kernel) ?_; cbv) | (refine br_intro ?_ ?_ <;> intro <;> cbv) | (refine get_at har (by assumption) (by assumption) (by assumption) (by assumption) ?_; cbv) | (refine get_lt har (by assumption) (by assumption) (by assumption) ?_; intro x xx hx hxx; cbv) | (refine get_atN har (by assumption) (by assumption) (by assumption) (by assumption) ?_; cbv) | (refine get_ltN har (by assumption) (by assumption) (by assumption) ?_; intro x xx hx hxx; cbv) | (refine get_atI har (by assumption) (by assumption) (by decide) ?_; cbv) | (refine get_twoA har (by assumption) (by assumption) (by decide) ?_; intro x hx; cbv) | (refine get_twoB har (by assumption) (by assumption) (by decide) ?_; intro x hx; cbv) | (refine bytes_intro (by assumption) ?_; cbv) | (exact side_lt har (by assumption) (by assumption)) | (exact side_inb har (by assumption) (by assumption) (by assumption)) | (exact side_sh har (by decide)) | (exact side_app har (by assumption) (by assumption) (by omega)) | (exact side_app0 har (by assumption) (by omega)) | (exact side_new har (by assumption) (by omega)) | (exact side_one har (by assumption) (by omega)) | (exact side_oneN har (by assumption) (by omega)) | (exact side_flat har (by assumption)) | (exact side_sbig har (by omega)) | (refine side_sbig har ?_; simp; done) | (exact side_oneI har (by assumption) (by omega)) | (refine side_ix har ?_; simp; done) | (refine side_ix har ?_; simp; omega))
  exact ⟨⟨rfl, rfl⟩⟩
end Go.TL.Tryz

/- TfMoA -/
namespace Go.TL.Tryz
open Go Go.TL Go.Proofs
set_option maxRecDepth 20000
variable {P : Program}
theorem ret_b {a b : Bool} (h : a = b) : RetP (fun r ob => r = A.one (V.t (T.bool b)) ∧ ob = []) (A.one (V.t (T.bool a))) [] := by subst h; exact ⟨⟨rfl, rfl⟩⟩
set_option maxRecDepth 20000 in
theorem fn99 : Tryz.prog.funcs[99]? = some Tryz.f99 := rfl
set_option maxHeartbeats 40000000 in
set_option maxRecDepth 3000 in
theorem sAsked (hP : Prg P) {t : Int} : ACall P 99 [.one (.t (.int .i64 t))] [] (fun r ob => r = .one (.t (.bool (askedB t))) ∧ ob = []) := by
  refine acall_fn (md := md) [none] v99 hP.mixed hP.tab (fn_at hP fn99) 1 rfl (by decide +kernel) rfl ?_
  intro ar har
  cbv
  repeat' (first | (intro; cbv) | (with_reducible refine and_side ?_ ?_; rotate_left; try cbv) | (refine ChkP.mk (by decide +kernel) ?_; cbv) | (refine br_intro ?_ ?_ <;> intro <;> cbv) | (refine get_at har (by assumption) (by assumption) (by assumption) (by assumption) ?_; cbv) | (refine get_lt har (by assumption) (by assumption) (by assumption) ?_; intro x xx hx hxx; cbv) | (refine get_atN har (by assumption) (by assumption) (by assumption) (by assumption) ?_; cbv) | (refine get_ltN har (by assumption) (by assumption) (by assumption) ?_; intro x xx hx hxx; cbv) | (refine get_atI har (by assumption) (by assumption) (by decide) ?_; cbv) | (refine get_twoA har (by assumption) (by assumption) (by decide) ?_; intro x hx; cbv) | (refine get_twoB har (by assumption) (by assumption) (by decide) ?_; intro x hx; cbv) | (refine bytes_intro (by assumption) ?_; cbv) | (exact side_lt har (by assumption) (by assumption)) | (exact side_inb har (by assumption) (by assumption) (by assumption)) | (exact side_sh har (by decide)) | (exact side_app har (by assumption) (by assumption) (by omega)) | (exact side_app0 har (by assumption) (by omega)) | (exact side_new har (by assumption) (by omega)) | (exact side_one har (by assumption) (by omega)) | (exact side_oneN har (by assumption) (by omega)) | (exact side_flat har (by assumption)) | (exact side_sbig har (by omega)) | (refine side_sbig har ?_; simp; done) | (exact side_oneI har (by assumption) (by omega)) | (refine side_ix har ?_; simp; done) | (refine side_ix har ?_; simp; omega) | (refine call_intro (sTypeOk hP) ?_; rintro r ob ⟨rfl, rfl⟩; generalize hty : typeB _ = ty; cbv) | (refine calld_intro (sTypeOk hP) ?_; generalize hty : typeB _ = ty; cbv))
  all_goals
    refine ret_b ?_
    subst har
    try simp only [std, icmpS] at *
    simp_all [askedB]
    try rfl
set_option maxRecDepth 20000 in
theorem fn114 : Tryz.prog.funcs[114]? = some Tryz.f114 := rfl
set_option maxHeartbeats 40000000 in
set_option maxRecDepth 3000 in
theorem iAsked (hP : Prg P) {t : Int} : ACall P 114 [.one (.t (.int .i64 t))] [] (fun r ob => r = .one (.t (.bool (askedB t))) ∧ ob = []) := by
  refine acall_fn (md := md) [none] v114 hP.mixed hP.tab (fn_at hP fn114) 1 rfl (by decide +kernel) rfl ?_
  intro ar har
  cbv
  repeat' (first | (intro; cbv) | (with_reducible refine and_side ?_ ?_; rotate_left; try cbv) | (refine ChkP.mk (by decide +kernel) ?_; cbv) | (refine br_intro ?_ ?_ <;> intro <;> cbv) | (refine get_at har (by assumption) (by assumption) (by assumption) (by assumption) ?_; cbv) | (refine get_lt har (by assumption) (by assumption) (by assumption) ?_; intro x xx hx hxx; cbv) | (refine get_atN har (by assumption) (by assumption) (by assumption) (by assumption) ?_; cbv) | (refine get_ltN har (by assumption) (by assumption) (by assumption) ?_; intro x xx hx hxx; cbv) | (refine get_atI har (by assumption) (by assumption) (by decide) ?_; cbv) | (refine get_twoA har (by assumption) (by assumption) (by decide) ?_; intro x hx; cbv) | (refine get_twoB har (by assumption) (by assumption) (by decide) ?_; intro x hx; cbv) | (refine bytes_intro (by assumption) ?_; cbv) | (exact side_lt har (by assumption) (by assumption)) | (exact side_inb har (by assumption) (by assumption) (by assumption)) | (exact side_sh har (by decide)) | (exact side_app har (by assumption) (by assumption) (by omega)) | (exact side_app0 har (by assumption) (by omega)) | (exact side_new har (by assumption) (by omega)) | (exact side_one har (by assumption) (by omega)) | (exact side_oneN har (by assumption) (by omega)) | (exact side_flat har (by assumption)) | (exact side_sbig har (by omega)) | (refine side_sbig har ?_; simp; done) | (exact side_oneI har (by assumption) (by omega)) | (refine side_ix har ?_; simp; done) | (refine side_ix har ?_; simp; omega) | (refine call_intro (iTypeOk hP) ?_; rintro r ob ⟨rfl, rfl⟩; generalize hty : typeB _ = ty; cbv) | (refine calld_intro (iTypeOk hP) ?_; generalize hty : typeB _ = ty; cbv))
  all_goals
    refine ret_b ?_
    subst har
    try simp only [std, icmpS] at *
    simp_all [askedB]
    try rfl
set_option maxRecDepth 20000 in
theorem fn32 : Tryz.prog.funcs[32]? = some Tryz.f32 := rfl
set_option maxHeartbeats 40000000 in
set_option maxRecDepth 3000 in
theorem iIsCode (hP : Prg P) {n : Int} : ACall P 32 [.one (.t (.int .i64 n))] [] (fun r ob => r = .one (.t (.bool (withinB n 0 10))) ∧ ob = []) := by
  refine acall_fn (md := md) [none] v32 hP.mixed hP.tab (fn_at hP fn32) 1 rfl (by decide +kernel) rfl ?_
  intro ar har
  cbv
  repeat' (first | (intro; cbv) | (with_reducible refine and_side ?_ ?_; rotate_left; try cbv) | (refine ChkP.mk (by decide +kernel) ?_; cbv) | (refine br_intro ?_ ?_ <;> intro <;> cbv) | (refine get_at har (by assumption) (by assumption) (by assumption) (by assumption) ?_; cbv) | (refine get_lt har (by assumption) (by assumption) (by assumption) ?_; intro x xx hx hxx; cbv) | (refine get_atN har (by assumption) (by assumption) (by assumption) (by assumption) ?_; cbv) | (refine get_ltN har (by assumption) (by assumption) (by assumption) ?_; intro x xx hx hxx; cbv) | (refine get_atI har (by assumption) (by assumption) (by decide) ?_; cbv) | (refine get_twoA har (by assumption) (by assumption) (by decide) ?_; intro x hx; cbv) | (refine get_twoB har (by assumption) (by assumption) (by decide) ?_; intro x hx; cbv) | (refine bytes_intro (by assumption) ?_; cbv) | (exact side_lt har (by assumption) (by assumption)) | (exact side_inb har (by assumption) (by assumption) (by assumption)) | (exact side_sh har (by decide)) | (exact side_app har (by assumption) (by assumption) (by omega)) | (exact side_app0 har (by assumption) (by omega)) | (exact side_new har (by assumption) (by omega)) | (exact side_one har (by assumption) (by omega)) | (exact side_oneN har (by assumption) (by omega)) | (exact side_flat har (by assumption)) | (exact side_sbig har (by omega)) | (refine side_sbig har ?_; simp; done) | (exact side_oneI har (by assumption) (by omega)) | (refine side_ix har ?_; simp; done) | (refine side_ix har ?_; simp; omega) | (refine call_intro (iWithin hP) ?_; rintro r ob ⟨rfl, rfl⟩; generalize hwi : withinB _ _ _ = wi; cbv) | (refine calld_intro (iWithin hP) ?_; generalize hwi : withinB _ _ _ = wi; cbv))
  exact ⟨⟨rfl, rfl⟩⟩
set_option maxRecDepth 20000 in
theorem fn189 : Tryz.prog.funcs[189]? = some Tryz.f189 := rfl
set_option maxHeartbeats 40000000 in
set_option maxRecDepth 3000 in
theorem sWantOk (hP : Prg P) {w : Wnt} {ns tos txs nus : List (List T)} (h1 : encN w.r.n = ns) (h2 : encN w.r.to = tos) (h3 : encB w.r.tx = txs) (h4 : encI w.r.nu = nus) :
    ACall P 189 [.agg [.t (.sl ns), .t (.int .i64 w.r.t), .t (.int .i64 w.r.ttl), .t (.int .i64 w.r.addr), .t (.sl tos), .t (.sl txs), .t (.sl nus), .t (.int .i64 w.cls), .t (.bool w.bare)]] [] (fun r ob => r = .one (.t (.bool (wantOk w))) ∧ ob = []) := by
  refine acall_fn (md := md) [none] v189 hP.mixed hP.tab (fn_at hP fn189) 1 rfl (by decide +kernel) rfl ?_
  intro ar har
  cbv
  repeat' (first | (intro; cbv) | (with_reducible refine and_side ?_ ?_; rotate_left; try cbv) | (refine ChkP.mk (by decide +kernel) ?_; cbv) | (refine br_intro ?_ ?_ <;> intro <;> cbv) | (refine get_at har (by assumption) (by assumption) (by assumption) (by assumption) ?_; cbv) | (refine get_lt har (by assumption) (by assumption) (by assumption) ?_; intro x xx hx hxx; cbv) | (refine get_atN har (by assumption) (by assumption) (by assumption) (by assumption) ?_; cbv) | (refine get_ltN har (by assumption) (by assumption) (by assumption) ?_; intro x xx hx hxx; cbv) | (refine get_atI har (by assumption) (by assumption) (by decide) ?_; cbv) | (refine get_twoA har (by assumption) (by assumption) (by decide) ?_; intro x hx; cbv) | (refine get_twoB har (by assumption) (by assumption) (by decide) ?_; intro x hx; cbv) | (refine bytes_intro (by assumption) ?_; cbv) | (exact side_lt har (by assumption) (by assumption)) | (exact side_inb har (by assumption) (by assumption) (by assumption)) | (exact side_sh har (by decide)) | (exact side_app har (by assumption) (by assumption) (by omega)) | (exact side_app0 har (by assumption) (by omega)) | (exact side_new har (by assumption) (by omega)) | (exact side_one har (by assumption) (by omega)) | (exact side_oneN har (by assumption) (by omega)) | (exact side_flat har (by assumption)) | (exact side_sbig har (by omega)) | (refine side_sbig har ?_; simp; done) | (exact side_oneI har (by assumption) (by omega)) | (refine side_ix har ?_; simp; done) | (refine side_ix har ?_; simp; omega) | (refine call_intro (sRrOk hP (by assumption) (by assumption) (by assumption) (by assumption)) ?_; rintro r ob ⟨rfl, rfl⟩; generalize hro : rrOk _ _ _ _ _ _ _ = ro; cbv) | (refine calld_intro (sRrOk hP (by assumption) (by assumption) (by assumption) (by assumption)) ?_; generalize hro : rrOk _ _ _ _ _ _ _ = ro; cbv) | (refine call_intro (sNameOk hP (by assumption)) ?_; rintro r ob ⟨rfl, rfl⟩; generalize hv : nameOk _ = v; cbv) | (refine calld_intro (sNameOk hP (by assumption)) ?_; generalize hv : nameOk _ = v; cbv) | (refine call_intro (sAsked hP) ?_; rintro r ob ⟨rfl, rfl⟩; generalize hak : askedB _ = ak; cbv) | (refine calld_intro (sAsked hP) ?_; generalize hak : askedB _ = ak; cbv))
  all_goals
    refine ret_b ?_
    have hl2 := encN_len h2
    have hl3 := encB_len h3
    have hl4 := encI_len h4
    subst har
    simp only [std, icmpS] at *
    simp_all [wantOk, rrOkR]
    try first | rfl | (rw [Bool.eq_iff_iff]; simp)
set_option maxRecDepth 20000 in
theorem fn200 : Tryz.prog.funcs[200]? = some Tryz.f200 := rfl
set_option maxHeartbeats 40000000 in
set_option maxRecDepth 3000 in
theorem iWantOk (hP : Prg P) {w : Wnt} {ns tos txs nus : List (List T)} (h1 : encN w.r.n = ns) (h2 : encN w.r.to = tos) (h3 : encB w.r.tx = txs) (h4 : encI w.r.nu = nus) :
    ACall P 200 [.agg [.t (.sl ns), .t (.int .i64 w.r.t), .t (.int .i64 w.r.ttl), .t (.int .i64 w.r.addr), .t (.sl tos), .t (.sl txs), .t (.sl nus), .t (.int .i64 w.cls), .t (.bool w.bare)]] [] (fun r ob => r = .one (.t (.bool (wantOk w))) ∧ ob = []) := by
  refine acall_fn (md := md) [none] v200 hP.mixed hP.tab (fn_at hP fn200) 1 rfl (by decide +kernel) rfl ?_
  intro ar har
  cbv
  repeat' (first | (intro; cbv) | (with_reducible refine and_side ?_ ?_; rotate_left; try cbv) | (refine ChkP.mk (by decide +kernel) ?_; cbv) | (refine br_intro ?_ ?_ <;> intro <;> cbv) | (refine get_at har (by assumption) (by assumption) (by assumption) (by assumption) ?_; cbv) | (refine get_lt har (by assumption) (by assumption) (by assumption) ?_; intro x xx hx hxx; cbv) | (refine get_atN har (by assumption) (by assumption) (by assumption) (by assumption) ?_; cbv) | (refine get_ltN har (by assumption) (by assumption) (by assumption) ?_; intro x xx hx hxx; cbv) | (refine get_atI har (by assumption) (by assumption) (by decide) ?_; cbv) | (refine get_twoA har (by assumption) (by assumption) (by decide) ?_; intro x hx; cbv) | (refine get_twoB har (by assumption) (by assumption) (by decide) ?_; intro x hx; cbv) | (refine bytes_intro (by assumption) ?_; cbv) | (exact side_lt har (by assumption) (by assumption)) | (exact side_inb har (by assumption) (by assumption) (by assumption)) | (exact side_sh har (by decide)) | (exact side_app har (by assumption) (by assumption) (by omega)) | (exact side_app0 har (by assumption) (by omega)) | (exact side_new har (by assumption) (by omega)) | (exact side_one har (by assumption) (by omega)) | (exact side_oneN har (by assumption) (by omega)) | (exact side_flat har (by assumption)) | (exact side_sbig har (by omega)) | (refine side_sbig har ?_; simp; done) | (exact side_oneI har (by assumption) (by omega)) | (refine side_ix har ?_; simp; done) | (refine side_ix har ?_; simp; omega) | (refine call_intro (iRrOk hP (by assumption) (by assumption) (by assumption) (by assumption)) ?_; rintro r ob ⟨rfl, rfl⟩; generalize hro : rrOk _ _ _ _ _ _ _ = ro; cbv) | (refine calld_intro (iRrOk hP (by assumption) (by assumption) (by assumption) (by assumption)) ?_; generalize hro : rrOk _ _ _ _ _ _ _ = ro; cbv) | (refine call_intro (iNameOk hP (by assumption)) ?_; rintro r ob ⟨rfl, rfl⟩; generalize hno : nameOk _ = no; cbv) | (refine calld_intro (iNameOk hP (by assumption)) ?_; generalize hno : nameOk _ = no; cbv) | (refine call_intro (iAsked hP) ?_; rintro r ob ⟨rfl, rfl⟩; generalize hak : askedB _ = ak; cbv) | (refine calld_intro (iAsked hP) ?_; generalize hak : askedB _ = ak; cbv))
  all_goals
    refine ret_b ?_
    have hl2 := encN_len h2
    have hl3 := encB_len h3
    have hl4 := encI_len h4
    subst har
    simp only [std, icmpS] at *
    simp_all [wantOk, rrOkR]
    try first | rfl | (rw [Bool.eq_iff_iff]; simp)
end Go.TL.Tryz

/- TfMoB -/
namespace Go.TL.Tryz
open Go Go.TL Go.Proofs
set_option maxRecDepth 20000
variable {P : Program}
set_option maxRecDepth 20000 in
theorem fn100 : Tryz.prog.funcs[100]? = some Tryz.f100 := rfl
set_option maxHeartbeats 40000000 in
set_option maxRecDepth 3000 in
theorem sRrs (hP : Prg P) {l : List Rrv} {es : List (List T)} (hl : encR l = es) : ACall P 100 [.one (.t (.sl es))] [] (fun r ob => r = .one (.t (.bool (listOk rrOkR l))) ∧ ob = []) := by
  refine acall_fn (md := md) [none] v100 hP.mixed hP.tab (fn_at hP fn100) 1 rfl (by decide +kernel) rfl ?_
  intro ar har
  cbv
  repeat' (first | (intro; cbv) | (with_reducible refine and_side ?_ ?_; rotate_left; try cbv) | (refine ChkP.mk (by decide +kernel) ?_; cbv) | (refine br_intro ?_ ?_ <;> intro <;> cbv) | (refine get_at har (by assumption) (by assumption) (by assumption) (by assumption) ?_; cbv) | (refine get_lt har (by assumption) (by assumption) (by assumption) ?_; intro x xx hx hxx; cbv) | (refine get_atN har (by assumption) (by assumption) (by assumption) (by assumption) ?_; cbv) | (refine get_ltN har (by assumption) (by assumption) (by assumption) ?_; intro x xx hx hxx; cbv) | (refine get_atI har (by assumption) (by assumption) (by decide) ?_; cbv) | (refine get_twoA har (by assumption) (by assumption) (by decide) ?_; intro x hx; cbv) | (refine get_twoB har (by assumption) (by assumption) (by decide) ?_; intro x hx; cbv) | (refine bytes_intro (by assumption) ?_; cbv) | (exact side_lt har (by assumption) (by assumption)) | (exact side_inb har (by assumption) (by assumption) (by assumption)) | (exact side_sh har (by decide)) | (exact side_app har (by assumption) (by assumption) (by omega)) | (exact side_app0 har (by assumption) (by omega)) | (exact side_new har (by assumption) (by omega)) | (exact side_one har (by assumption) (by omega)) | (exact side_oneN har (by assumption) (by omega)) | (exact side_flat har (by assumption)) | (exact side_sbig har (by omega)) | (refine side_sbig har ?_; simp; done) | (exact side_oneI har (by assumption) (by omega)) | (refine side_ix har ?_; simp; done) | (refine side_ix har ?_; simp; omega))
  · have hlen := encR_len hl
    subst har; simp only [std, icmpS, decide_eq_true_eq, decide_eq_false_iff_not, Bool.not_eq_true', Bool.not_eq_false', bne_iff_ne, ne_eq, bne_eq_false_iff_eq, beq_iff_eq, beq_eq_false_iff_ne, Int.not_lt, Int.not_le, Bool.not_true, Bool.not_false, reduceCtorEq] at *
    exact ⟨⟨by simp only [listOk, decide_eq_false (show ¬ l.length ≤ 12 by omega), Bool.false_and], rfl⟩⟩
  rename_i h1
  refine LoopP.mk Int [0, 2, 3] [] (fun i => ⟨[(0, .one (.t (.sl es))), (2, .one (.t (.bool false))), (3, .one (.t (.int .i64 i)))], []⟩) (fun i => 0 ≤ i ∧ (l.take i.toNat).all rrOkR = true) (fun i => l.length - i.toNat) 0 ?e ?f ?g
  case e => kernel_rfl
  case f => simp
  case g =>
    intro i hi
    have hi0 : 0 ≤ i := hi.1
    have hi1 : (l.take i.toNat).all rrOkR = true := hi.2
    clear hi
    cbv
    repeat' (first | (intro; cbv) | (with_reducible refine and_side ?_ ?_; rotate_left; try cbv) | (refine ChkP.mk (by decide +kernel) ?_; cbv) | (refine br_intro ?_ ?_ <;> intro <;> cbv) | (refine get_at har (by assumption) (by assumption) (by assumption) (by assumption) ?_; cbv) | (refine get_lt har (by assumption) (by assumption) (by assumption) ?_; intro x xx hx hxx; cbv) | (refine get_atN har (by assumption) (by assumption) (by assumption) (by assumption) ?_; cbv) | (refine get_ltN har (by assumption) (by assumption) (by assumption) ?_; intro x xx hx hxx; cbv) | (refine get_atI har (by assumption) (by assumption) (by decide) ?_; cbv) | (refine get_twoA har (by assumption) (by assumption) (by decide) ?_; intro x hx; cbv) | (refine get_twoB har (by assumption) (by assumption) (by decide) ?_; intro x hx; cbv) | (refine bytes_intro (by assumption) ?_; cbv) | (exact side_lt har (by assumption) (by assumption)) | (exact side_inb har (by assumption) (by assumption) (by assumption)) | (exact side_sh har (by decide)) | (exact side_app har (by assumption) (by assumption) (by omega)) | (exact side_app0 har (by assumption) (by omega)) | (exact side_new har (by assumption) (by omega)) | (exact side_one har (by assumption) (by omega)) | (exact side_oneN har (by assumption) (by omega)) | (exact side_flat har (by assumption)) | (exact side_sbig har (by omega)) | (refine side_sbig har ?_; simp; done) | (exact side_oneI har (by assumption) (by omega)) | (refine side_ix har ?_; simp; done) | (refine side_ix har ?_; simp; omega) | (refine get_ltR har (by assumption) (by assumption) (by assumption) ?_; intro r rns rtos rtxs rnus hr hrn hrto hrtx hrnu; cbv) | (refine call_intro (sRrOk hP (by assumption) (by assumption) (by assumption) (by assumption)) ?_; rintro r ob ⟨rfl, rfl⟩; generalize hro : rrOk _ _ _ _ _ _ _ = ro; cbv) | (refine calld_intro (sRrOk hP (by assumption) (by assumption) (by assumption) (by assumption)) ?_; generalize hro : rrOk _ _ _ _ _ _ _ = ro; cbv))
    all_goals have hlen := encR_len hl
    all_goals subst har; simp only [std, icmpS, decide_eq_true_eq, decide_eq_false_iff_not, Bool.not_eq_true', Bool.not_eq_false', bne_iff_ne, ne_eq, bne_eq_false_iff_eq, beq_iff_eq, beq_eq_false_iff_ne, Int.not_lt, Int.not_le, Bool.not_true, Bool.not_false, reduceCtorEq] at *
    · exact ⟨⟨by simp only [listOk, all_bad (p := rrOkR) hr (by rw [rrOkR, hro]; assumption), Bool.and_false], rfl⟩⟩
    · rw [addI (a := i) (b := 1) (by omega) (by omega)]
      exact ⟨i + 1, by kernel_rfl, ⟨by omega, by rw [show (i + 1).toNat = i.toNat + 1 by omega]; exact all_take_succ hr hi1 (by rw [rrOkR, hro]; assumption)⟩, by omega⟩
    · rw [take_all (by omega)] at hi1
      exact ⟨⟨by simp only [listOk, hi1, decide_eq_true (show l.length ≤ 12 by omega), Bool.and_true], rfl⟩⟩
set_option maxRecDepth 20000 in
theorem fn101 : Tryz.prog.funcs[101]? = some Tryz.f101 := rfl
set_option maxHeartbeats 40000000 in
set_option maxRecDepth 3000 in
theorem sWants (hP : Prg P) {l : List Wnt} {es : List (List T)} (hl : encW l = es) : ACall P 101 [.one (.t (.sl es))] [] (fun r ob => r = .one (.t (.bool (listOk wantOk l))) ∧ ob = []) := by
  refine acall_fn (md := md) [none] v101 hP.mixed hP.tab (fn_at hP fn101) 1 rfl (by decide +kernel) rfl ?_
  intro ar har
  cbv
  repeat' (first | (intro; cbv) | (with_reducible refine and_side ?_ ?_; rotate_left; try cbv) | (refine ChkP.mk (by decide +kernel) ?_; cbv) | (refine br_intro ?_ ?_ <;> intro <;> cbv) | (refine get_at har (by assumption) (by assumption) (by assumption) (by assumption) ?_; cbv) | (refine get_lt har (by assumption) (by assumption) (by assumption) ?_; intro x xx hx hxx; cbv) | (refine get_atN har (by assumption) (by assumption) (by assumption) (by assumption) ?_; cbv) | (refine get_ltN har (by assumption) (by assumption) (by assumption) ?_; intro x xx hx hxx; cbv) | (refine get_atI har (by assumption) (by assumption) (by decide) ?_; cbv) | (refine get_twoA har (by assumption) (by assumption) (by decide) ?_; intro x hx; cbv) | (refine get_twoB har (by assumption) (by assumption) (by decide) ?_; intro x hx; cbv) | (refine bytes_intro (by assumption) ?_; cbv) | (exact side_lt har (by assumption) (by assumption)) | (exact side_inb har (by assumption) (by assumption) (by assumption)) | (exact side_sh har (by decide)) | (exact side_app har (by assumption) (by assumption) (by omega)) | (exact side_app0 har (by assumption) (by omega)) | (exact side_new har (by assumption) (by omega)) | (exact side_one har (by assumption) (by omega)) | (exact side_oneN har (by assumption) (by omega)) | (exact side_flat har (by assumption)) | (exact side_sbig har (by omega)) | (refine side_sbig har ?_; simp; done) | (exact side_oneI har (by assumption) (by omega)) | (refine side_ix har ?_; simp; done) | (refine side_ix har ?_; simp; omega))
  · have hlen := encW_len hl
    subst har; simp only [std, icmpS, decide_eq_true_eq, decide_eq_false_iff_not, Bool.not_eq_true', Bool.not_eq_false', bne_iff_ne, ne_eq, bne_eq_false_iff_eq, beq_iff_eq, beq_eq_false_iff_ne, Int.not_lt, Int.not_le, Bool.not_true, Bool.not_false, reduceCtorEq] at *
    exact ⟨⟨by simp only [listOk, decide_eq_false (show ¬ l.length ≤ 12 by omega), Bool.false_and], rfl⟩⟩
  rename_i h1
  refine LoopP.mk Int [0, 2, 3] [] (fun i => ⟨[(0, .one (.t (.sl es))), (2, .one (.t (.bool false))), (3, .one (.t (.int .i64 i)))], []⟩) (fun i => 0 ≤ i ∧ (l.take i.toNat).all wantOk = true) (fun i => l.length - i.toNat) 0 ?e ?f ?g
  case e => kernel_rfl
  case f => simp
  case g =>
    intro i hi
    have hi0 : 0 ≤ i := hi.1
    have hi1 : (l.take i.toNat).all wantOk = true := hi.2
    clear hi
    cbv
    repeat' (first | (intro; cbv) | (with_reducible refine and_side ?_ ?_; rotate_left; try cbv) | (refine ChkP.mk (by decide +kernel) ?_; cbv) | (refine br_intro ?_ ?_ <;> intro <;> cbv) | (refine get_at har (by assumption) (by assumption) (by assumption) (by assumption) ?_; cbv) | (refine get_lt har (by assumption) (by assumption) (by assumption) ?_; intro x xx hx hxx; cbv) | (refine get_atN har (by assumption) (by assumption) (by assumption) (by assumption) ?_; cbv) | (refine get_ltN har (by assumption) (by assumption) (by assumption) ?_; intro x xx hx hxx; cbv) | (refine get_atI har (by assumption) (by assumption) (by decide) ?_; cbv) | (refine get_twoA har (by assumption) (by assumption) (by decide) ?_; intro x hx; cbv) | (refine get_twoB har (by assumption) (by assumption) (by decide) ?_; intro x hx; cbv) | (refine bytes_intro (by assumption) ?_; cbv) | (exact side_lt har (by assumption) (by assumption)) | (exact side_inb har (by assumption) (by assumption) (by assumption)) | (exact side_sh har (by decide)) | (exact side_app har (by assumption) (by assumption) (by omega)) | (exact side_app0 har (by assumption) (by omega)) | (exact side_new har (by assumption) (by omega)) | (exact side_one har (by assumption) (by omega)) | (exact side_oneN har (by assumption) (by omega)) | (exact side_flat har (by assumption)) | (exact side_sbig har (by omega)) | (refine side_sbig har ?_; simp; done) | (exact side_oneI har (by assumption) (by omega)) | (refine side_ix har ?_; simp; done) | (refine side_ix har ?_; simp; omega) | (refine get_ltW har (by assumption) (by assumption) (by assumption) ?_; intro w wns wtos wtxs wnus hw hwn hwto hwtx hwnu; cbv) | (refine call_intro (sWantOk hP (by assumption) (by assumption) (by assumption) (by assumption)) ?_; rintro r ob ⟨rfl, rfl⟩; generalize hwo : wantOk _ = wo; cbv) | (refine calld_intro (sWantOk hP (by assumption) (by assumption) (by assumption) (by assumption)) ?_; generalize hwo : wantOk _ = wo; cbv))
    all_goals have hlen := encW_len hl
    all_goals subst har; simp only [std, icmpS, decide_eq_true_eq, decide_eq_false_iff_not, Bool.not_eq_true', Bool.not_eq_false', bne_iff_ne, ne_eq, bne_eq_false_iff_eq, beq_iff_eq, beq_eq_false_iff_ne, Int.not_lt, Int.not_le, Bool.not_true, Bool.not_false, reduceCtorEq] at *
    · exact ⟨⟨by simp only [listOk, all_bad (p := wantOk) hw (by rw [hwo]; assumption), Bool.and_false], rfl⟩⟩
    · rw [addI (a := i) (b := 1) (by omega) (by omega)]
      exact ⟨i + 1, by kernel_rfl, ⟨by omega, by rw [show (i + 1).toNat = i.toNat + 1 by omega]; exact all_take_succ hw hi1 (by rw [hwo]; assumption)⟩, by omega⟩
    · rw [take_all (by omega)] at hi1
      exact ⟨⟨by simp only [listOk, hi1, decide_eq_true (show l.length ≤ 12 by omega), Bool.and_true], rfl⟩⟩
set_option maxRecDepth 20000 in
theorem fn216 : Tryz.prog.funcs[216]? = some Tryz.f216 := rfl
set_option maxHeartbeats 40000000 in
set_option maxRecDepth 3000 in
theorem iAllRr1 (hP : Prg P) {x : Rrv} {ns tos txs nus : List (List T)} (h1 : encN x.n = ns) (h2 : encN x.to = tos) (h3 : encB x.tx = txs) (h4 : encI x.nu = nus) :
    ACall P 216 [.agg [.t (.sl ns), .t (.int .i64 x.t), .t (.int .i64 x.ttl), .t (.int .i64 x.addr), .t (.sl tos), .t (.sl txs), .t (.sl nus)], .one (.t (.pt [.fn (.func 143) [] []] 0))] [] (fun r ob => r = .one (.t (.bool (!rrOkR x))) ∧ ob = []) := by
  refine acall_fn (md := md) [none] v216 hP.mixed hP.tab (fn_at hP fn216) 2 rfl (by decide +kernel) rfl ?_
  intro ar har
  cbv
  repeat' (first | (intro; cbv) | (with_reducible refine and_side ?_ ?_; rotate_left; try cbv) | (refine ChkP.mk (by decide +kernel) ?_; cbv) | (refine br_intro ?_ ?_ <;> intro <;> cbv) | (refine get_at har (by assumption) (by assumption) (by assumption) (by assumption) ?_; cbv) | (refine get_lt har (by assumption) (by assumption) (by assumption) ?_; intro x xx hx hxx; cbv) | (refine get_atN har (by assumption) (by assumption) (by assumption) (by assumption) ?_; cbv) | (refine get_ltN har (by assumption) (by assumption) (by assumption) ?_; intro x xx hx hxx; cbv) | (refine get_atI har (by assumption) (by assumption) (by decide) ?_; cbv) | (refine get_twoA har (by assumption) (by assumption) (by decide) ?_; intro x hx; cbv) | (refine get_twoB har (by assumption) (by assumption) (by decide) ?_; intro x hx; cbv) | (refine bytes_intro (by assumption) ?_; cbv) | (exact side_lt har (by assumption) (by assumption)) | (exact side_inb har (by assumption) (by assumption) (by assumption)) | (exact side_sh har (by decide)) | (exact side_app har (by assumption) (by assumption) (by omega)) | (exact side_app0 har (by assumption) (by omega)) | (exact side_new har (by assumption) (by omega)) | (exact side_one har (by assumption) (by omega)) | (exact side_oneN har (by assumption) (by omega)) | (exact side_flat har (by assumption)) | (exact side_sbig har (by omega)) | (refine side_sbig har ?_; simp; done) | (exact side_oneI har (by assumption) (by omega)) | (refine side_ix har ?_; simp; done) | (refine side_ix har ?_; simp; omega) | (refine call_intro (iRrOk hP (by assumption) (by assumption) (by assumption) (by assumption)) ?_; rintro r ob ⟨rfl, rfl⟩; generalize hro : rrOk _ _ _ _ _ _ _ = ro; cbv) | (refine calld_intro (iRrOk hP (by assumption) (by assumption) (by assumption) (by assumption)) ?_; generalize hro : rrOk _ _ _ _ _ _ _ = ro; cbv))
  subst har; simp only [std, icmpS, decide_eq_true_eq, decide_eq_false_iff_not, Bool.not_eq_true', Bool.not_eq_false', bne_iff_ne, ne_eq, bne_eq_false_iff_eq, beq_iff_eq, beq_eq_false_iff_ne, Int.not_lt, Int.not_le, Bool.not_true, Bool.not_false, reduceCtorEq] at *
  exact ⟨⟨by first | rfl | (rw [rrOkR, hro]), rfl⟩⟩
set_option maxRecDepth 20000 in
theorem fn225 : Tryz.prog.funcs[225]? = some Tryz.f225 := rfl
set_option maxHeartbeats 40000000 in
set_option maxRecDepth 3000 in
theorem iIdxRr (hP : Prg P) {n : List Rrv} {ns : List (List T)} (hn : encR n = ns) : ACall P 225 [.one (.t (.sl ns)), .one (.t (.fn (.func 216) [] [.pt [.fn (.func 143) [] []] 0]))] []
    (fun r ob => ∃ v, (0 ≤ v ↔ n.all rrOkR = false) ∧ r = .one (.t (.int .i64 v)) ∧ ob = []) := by
  refine acall_fn (md := md) [none] v225 hP.mixed hP.tab (fn_at hP fn225) 2 rfl (by decide +kernel) rfl ?_
  intro ar har
  cbv
  repeat' (first | (intro; cbv) | (with_reducible refine and_side ?_ ?_; rotate_left; try cbv) | (refine ChkP.mk (by decide +kernel) ?_; cbv) | (refine br_intro ?_ ?_ <;> intro <;> cbv) | (refine get_at har (by assumption) (by assumption) (by assumption) (by assumption) ?_; cbv) | (refine get_lt har (by assumption) (by assumption) (by assumption) ?_; intro x xx hx hxx; cbv) | (refine get_atN har (by assumption) (by assumption) (by assumption) (by assumption) ?_; cbv) | (refine get_ltN har (by assumption) (by assumption) (by assumption) ?_; intro x xx hx hxx; cbv) | (refine get_atI har (by assumption) (by assumption) (by decide) ?_; cbv) | (refine get_twoA har (by assumption) (by assumption) (by decide) ?_; intro x hx; cbv) | (refine get_twoB har (by assumption) (by assumption) (by decide) ?_; intro x hx; cbv) | (refine bytes_intro (by assumption) ?_; cbv) | (exact side_lt har (by assumption) (by assumption)) | (exact side_inb har (by assumption) (by assumption) (by assumption)) | (exact side_sh har (by decide)) | (exact side_app har (by assumption) (by assumption) (by omega)) | (exact side_app0 har (by assumption) (by omega)) | (exact side_new har (by assumption) (by omega)) | (exact side_one har (by assumption) (by omega)) | (exact side_oneN har (by assumption) (by omega)) | (exact side_flat har (by assumption)) | (exact side_sbig har (by omega)) | (refine side_sbig har ?_; simp; done) | (exact side_oneI har (by assumption) (by omega)) | (refine side_ix har ?_; simp; done) | (refine side_ix har ?_; simp; omega))
  refine LoopP.mk Int [0, 1, 7, 8] [] (fun i => ⟨[(0, .one (.t (.sl ns))), (1, .one (.t (.fn (.func 216) [] [.pt [.fn (.func 143) [] []] 0]))), (7, .one (.t (.int .i64 (ar.len ns)))), (8, .one (.t (.int .i64 i)))], []⟩)
    (fun i => 0 ≤ i ∧ (n.take i.toNat).all rrOkR = true) (fun i => n.length - i.toNat) 0 ?e ?f ?g
  case e => kernel_rfl
  case f => simp
  case g =>
    intro i hi
    have hi0 : 0 ≤ i := hi.1
    have hi1 : (n.take i.toNat).all rrOkR = true := hi.2
    clear hi
    cbv
    repeat' (first | (intro; cbv) | (with_reducible refine and_side ?_ ?_; rotate_left; try cbv) | (refine ChkP.mk (by decide +kernel) ?_; cbv) | (refine br_intro ?_ ?_ <;> intro <;> cbv) | (refine get_at har (by assumption) (by assumption) (by assumption) (by assumption) ?_; cbv) | (refine get_lt har (by assumption) (by assumption) (by assumption) ?_; intro x xx hx hxx; cbv) | (refine get_atN har (by assumption) (by assumption) (by assumption) (by assumption) ?_; cbv) | (refine get_ltN har (by assumption) (by assumption) (by assumption) ?_; intro x xx hx hxx; cbv) | (refine get_atI har (by assumption) (by assumption) (by decide) ?_; cbv) | (refine get_twoA har (by assumption) (by assumption) (by decide) ?_; intro x hx; cbv) | (refine get_twoB har (by assumption) (by assumption) (by decide) ?_; intro x hx; cbv) | (refine bytes_intro (by assumption) ?_; cbv) | (exact side_lt har (by assumption) (by assumption)) | (exact side_inb har (by assumption) (by assumption) (by assumption)) | (exact side_sh har (by decide)) | (exact side_app har (by assumption) (by assumption) (by omega)) | (exact side_app0 har (by assumption) (by omega)) | (exact side_new har (by assumption) (by omega)) | (exact side_one har (by assumption) (by omega)) | (exact side_oneN har (by assumption) (by omega)) | (exact side_flat har (by assumption)) | (exact side_sbig har (by omega)) | (refine side_sbig har ?_; simp; done) | (exact side_oneI har (by assumption) (by omega)) | (refine side_ix har ?_; simp; done) | (refine side_ix har ?_; simp; omega) | (refine get_ltR har (by assumption) (by assumption) (by assumption) ?_; intro r rns rtos rtxs rnus hr hrn hrto hrtx hrnu; cbv) | (refine call_intro (iAllRr1 hP (by assumption) (by assumption) (by assumption) (by assumption)) ?_; rintro r ob ⟨rfl, rfl⟩; generalize hlo : (!rrOkR _) = lo; cbv) | (refine calld_intro (iAllRr1 hP (by assumption) (by assumption) (by assumption) (by assumption)) ?_; generalize hlo : (!rrOkR _) = lo; cbv))
    all_goals have hlen := encR_len hn
    all_goals subst har; simp only [std, icmpS, decide_eq_true_eq, decide_eq_false_iff_not, Bool.not_eq_true', Bool.not_eq_false', bne_iff_ne, ne_eq, bne_eq_false_iff_eq, beq_iff_eq, beq_eq_false_iff_ne, Int.not_lt, Int.not_le, Bool.not_true, Bool.not_false, reduceCtorEq] at *
    · exact ⟨⟨i, ⟨fun _ => all_bad (p := rrOkR) hr (by simp_all), fun _ => hi0⟩, rfl, rfl⟩⟩
    · rw [addI (a := i) (b := 1) (by omega) (by omega)]
      exact ⟨i + 1, by kernel_rfl, ⟨by omega, by rw [show (i + 1).toNat = i.toNat + 1 by omega]; exact all_take_succ hr hi1 (by simp_all)⟩, by omega⟩
    · rw [take_all (by omega)] at hi1
      exact ⟨⟨-1, ⟨fun h => absurd h (by decide), fun h => by rw [hi1] at h; cases h⟩, rfl, rfl⟩⟩
set_option maxRecDepth 20000 in
theorem fn153 : Tryz.prog.funcs[153]? = some Tryz.f153 := rfl
set_option maxHeartbeats 40000000 in
set_option maxRecDepth 3000 in
theorem iConRr (hP : Prg P) {n : List Rrv} {ns : List (List T)} (hn : encR n = ns) : ACall P 153 [.one (.t (.sl ns)), .one (.t (.fn (.func 216) [] [.pt [.fn (.func 143) [] []] 0]))] []
    (fun r ob => r = .one (.t (.bool (!n.all rrOkR))) ∧ ob = []) := by
  refine acall_fn (md := md) [none] v153 hP.mixed hP.tab (fn_at hP fn153) 2 rfl (by decide +kernel) rfl ?_
  intro ar har
  cbv
  repeat' (first | (intro; cbv) | (with_reducible refine and_side ?_ ?_; rotate_left; try cbv) | (refine ChkP.mk (by decide +kernel) ?_; cbv) | (refine br_intro ?_ ?_ <;> intro <;> cbv) | (refine get_at har (by assumption) (by assumption) (by assumption) (by assumption) ?_; cbv) | (refine get_lt har (by assumption) (by assumption) (by assumption) ?_; intro x xx hx hxx; cbv) | (refine get_atN har (by assumption) (by assumption) (by assumption) (by assumption) ?_; cbv) | (refine get_ltN har (by assumption) (by assumption) (by assumption) ?_; intro x xx hx hxx; cbv) | (refine get_atI har (by assumption) (by assumption) (by decide) ?_; cbv) | (refine get_twoA har (by assumption) (by assumption) (by decide) ?_; intro x hx; cbv) | (refine get_twoB har (by assumption) (by assumption) (by decide) ?_; intro x hx; cbv) | (refine bytes_intro (by assumption) ?_; cbv) | (exact side_lt har (by assumption) (by assumption)) | (exact side_inb har (by assumption) (by assumption) (by assumption)) | (exact side_sh har (by decide)) | (exact side_app har (by assumption) (by assumption) (by omega)) | (exact side_app0 har (by assumption) (by omega)) | (exact side_new har (by assumption) (by omega)) | (exact side_one har (by assumption) (by omega)) | (exact side_oneN har (by assumption) (by omega)) | (exact side_flat har (by assumption)) | (exact side_sbig har (by omega)) | (refine side_sbig har ?_; simp; done) | (exact side_oneI har (by assumption) (by omega)) | (refine side_ix har ?_; simp; done) | (refine side_ix har ?_; simp; omega) | (refine call_intro (iIdxRr hP (by assumption)) ?_; rintro r ob ⟨v, hv, rfl, rfl⟩; cbv))
  subst har; simp only [std, icmpS, decide_eq_true_eq, decide_eq_false_iff_not, Bool.not_eq_true', Bool.not_eq_false', bne_iff_ne, ne_eq, bne_eq_false_iff_eq, beq_iff_eq, beq_eq_false_iff_ne, Int.not_lt, Int.not_le, Bool.not_true, Bool.not_false, reduceCtorEq] at *
  refine ⟨⟨?_, rfl⟩⟩
  by_cases h : (0 : Int) ≤ v
  · rw [hv.1 h]; simp [h]
  · have : n.all rrOkR = true := by
      cases e : n.all rrOkR with
      | true => rfl
      | false => exact absurd (hv.2 e) h
    rw [this]; simp [h]
set_option maxRecDepth 20000 in
theorem fn142 : Tryz.prog.funcs[142]? = some Tryz.f142 := rfl
set_option maxHeartbeats 40000000 in
set_option maxRecDepth 3000 in
theorem iAllRr (hP : Prg P) {n : List Rrv} {ns : List (List T)} (hn : encR n = ns) : ACall P 142 [.one (.t (.sl ns)), .one (.t (.fn (.func 143) [] []))] []
    (fun r ob => r = .one (.t (.bool (n.all rrOkR))) ∧ ob = []) := by
  refine acall_fn (md := md) [none] v142 hP.mixed hP.tab (fn_at hP fn142) 2 rfl (by decide +kernel) rfl ?_
  intro ar har
  cbv
  repeat' (first | (intro; cbv) | (with_reducible refine and_side ?_ ?_; rotate_left; try cbv) | (refine ChkP.mk (by decide +kernel) ?_; cbv) | (refine br_intro ?_ ?_ <;> intro <;> cbv) | (refine get_at har (by assumption) (by assumption) (by assumption) (by assumption) ?_; cbv) | (refine get_lt har (by assumption) (by assumption) (by assumption) ?_; intro x xx hx hxx; cbv) | (refine get_atN har (by assumption) (by assumption) (by assumption) (by assumption) ?_; cbv) | (refine get_ltN har (by assumption) (by assumption) (by assumption) ?_; intro x xx hx hxx; cbv) | (refine get_atI har (by assumption) (by assumption) (by decide) ?_; cbv) | (refine get_twoA har (by assumption) (by assumption) (by decide) ?_; intro x hx; cbv) | (refine get_twoB har (by assumption) (by assumption) (by decide) ?_; intro x hx; cbv) | (refine bytes_intro (by assumption) ?_; cbv) | (exact side_lt har (by assumption) (by assumption)) | (exact side_inb har (by assumption) (by assumption) (by assumption)) | (exact side_sh har (by decide)) | (exact side_app har (by assumption) (by assumption) (by omega)) | (exact side_app0 har (by assumption) (by omega)) | (exact side_new har (by assumption) (by omega)) | (exact side_one har (by assumption) (by omega)) | (exact side_oneN har (by assumption) (by omega)) | (exact side_flat har (by assumption)) | (exact side_sbig har (by omega)) | (refine side_sbig har ?_; simp; done) | (exact side_oneI har (by assumption) (by omega)) | (refine side_ix har ?_; simp; done) | (refine side_ix har ?_; simp; omega) | (refine call_intro (iConRr hP (by assumption)) ?_; rintro r ob ⟨rfl, rfl⟩; generalize hcb : (!List.all _ _) = cb; cbv) | (refine calld_intro (iConRr hP (by assumption)) ?_; generalize hcb : (!List.all _ _) = cb; cbv))
  subst har; simp only [std, icmpS, decide_eq_true_eq, decide_eq_false_iff_not, Bool.not_eq_true', Bool.not_eq_false', bne_iff_ne, ne_eq, bne_eq_false_iff_eq, beq_iff_eq, beq_eq_false_iff_ne, Int.not_lt, Int.not_le, Bool.not_true, Bool.not_false, reduceCtorEq] at *
  exact ⟨⟨by rw [← hcb]; simp, rfl⟩⟩
set_option maxRecDepth 20000 in
theorem fn115 : Tryz.prog.funcs[115]? = some Tryz.f115 := rfl
set_option maxHeartbeats 40000000 in
set_option maxRecDepth 3000 in
theorem iAreRrs (hP : Prg P) {n : List Rrv} {ns : List (List T)} (hn : encR n = ns) : ACall P 115 [.one (.t (.sl ns))] [] (fun r ob => r = .one (.t (.bool (listOk rrOkR n))) ∧ ob = []) := by
  refine acall_fn (md := md) [none] v115 hP.mixed hP.tab (fn_at hP fn115) 1 rfl (by decide +kernel) rfl ?_
  intro ar har
  cbv
  repeat' (first | (intro; cbv) | (with_reducible refine and_side ?_ ?_; rotate_left; try cbv) | (refine ChkP.mk (by decide +kernel) ?_; cbv) | (refine br_intro ?_ ?_ <;> intro <;> cbv) | (refine get_at har (by assumption) (by assumption) (by assumption) (by assumption) ?_; cbv) | (refine get_lt har (by assumption) (by assumption) (by assumption) ?_; intro x xx hx hxx; cbv) | (refine get_atN har (by assumption) (by assumption) (by assumption) (by assumption) ?_; cbv) | (refine get_ltN har (by assumption) (by assumption) (by assumption) ?_; intro x xx hx hxx; cbv) | (refine get_atI har (by assumption) (by assumption) (by decide) ?_; cbv) | (refine get_twoA har (by assumption) (by assumption) (by decide) ?_; intro x hx; cbv) | (refine get_twoB har (by assumption) (by assumption) (by decide) ?_; intro x hx; cbv) | (refine bytes_intro (by assumption) ?_; cbv) | (exact side_lt har (by assumption) (by assumption)) | (exact side_inb har (by assumption) (by assumption) (by assumption)) | (exact side_sh har (by decide)) | (exact side_app har (by assumption) (by assumption) (by omega)) | (exact side_app0 har (by assumption) (by omega)) | (exact side_new har (by assumption) (by omega)) | (exact side_one har (by assumption) (by omega)) | (exact side_oneN har (by assumption) (by omega)) | (exact side_flat har (by assumption)) | (exact side_sbig har (by omega)) | (refine side_sbig har ?_; simp; done) | (exact side_oneI har (by assumption) (by omega)) | (refine side_ix har ?_; simp; done) | (refine side_ix har ?_; simp; omega) | (refine call_intro (iAllRr hP (by assumption)) ?_; rintro r ob ⟨rfl, rfl⟩; generalize hab : List.all _ _ = ab; cbv) | (refine calld_intro (iAllRr hP (by assumption)) ?_; generalize hab : List.all _ _ = ab; cbv))
  all_goals have hlen := encR_len hn
  all_goals subst har; simp only [std, icmpS, decide_eq_true_eq, decide_eq_false_iff_not, Bool.not_eq_true', Bool.not_eq_false', bne_iff_ne, ne_eq, bne_eq_false_iff_eq, beq_iff_eq, beq_eq_false_iff_ne, Int.not_lt, Int.not_le, Bool.not_true, Bool.not_false, reduceCtorEq] at *
  · exact ⟨⟨by rw [listOk, hab, decide_eq_true (by omega)]; simp, rfl⟩⟩
  · exact ⟨⟨by rw [listOk, decide_eq_false (by omega)]; simp, rfl⟩⟩
set_option maxRecDepth 20000 in
theorem fn261 : Tryz.prog.funcs[261]? = some Tryz.f261 := rfl
set_option maxHeartbeats 40000000 in
set_option maxRecDepth 3000 in
theorem iAllWant1 (hP : Prg P) {w : Wnt} {ns tos txs nus : List (List T)} (h1 : encN w.r.n = ns) (h2 : encN w.r.to = tos) (h3 : encB w.r.tx = txs) (h4 : encI w.r.nu = nus) :
    ACall P 261 [.agg [.t (.sl ns), .t (.int .i64 w.r.t), .t (.int .i64 w.r.ttl), .t (.int .i64 w.r.addr), .t (.sl tos), .t (.sl txs), .t (.sl nus), .t (.int .i64 w.cls), .t (.bool w.bare)], .one (.t (.pt [.fn (.func 200) [] []] 0))] [] (fun r ob => r = .one (.t (.bool (!wantOk w))) ∧ ob = []) := by
  refine acall_fn (md := md) [none] v261 hP.mixed hP.tab (fn_at hP fn261) 2 rfl (by decide +kernel) rfl ?_
  intro ar har
  cbv
  repeat' (first | (intro; cbv) | (with_reducible refine and_side ?_ ?_; rotate_left; try cbv) | (refine ChkP.mk (by decide +kernel) ?_; cbv) | (refine br_intro ?_ ?_ <;> intro <;> cbv) | (refine get_at har (by assumption) (by assumption) (by assumption) (by assumption) ?_; cbv) | (refine get_lt har (by assumption) (by assumption) (by assumption) ?_; intro x xx hx hxx; cbv) | (refine get_atN har (by assumption) (by assumption) (by assumption) (by assumption) ?_; cbv) | (refine get_ltN har (by assumption) (by assumption) (by assumption) ?_; intro x xx hx hxx; cbv) | (refine get_atI har (by assumption) (by assumption) (by decide) ?_; cbv) | (refine get_twoA har (by assumption) (by assumption) (by decide) ?_; intro x hx; cbv) | (refine get_twoB har (by assumption) (by assumption) (by decide) ?_; intro x hx; cbv) | (refine bytes_intro (by assumption) ?_; cbv) | (exact side_lt har (by assumption) (by assumption)) | (exact side_inb har (by assumption) (by assumption) (by assumption)) | (exact side_sh har (by decide)) | (exact side_app har (by assumption) (by assumption) (by omega)) | (exact side_app0 har (by assumption) (by omega)) | (exact side_new har (by assumption) (by omega)) | (exact side_one har (by assumption) (by omega)) | (exact side_oneN har (by assumption) (by omega)) | (exact side_flat har (by assumption)) | (exact side_sbig har (by omega)) | (refine side_sbig har ?_; simp; done) | (exact side_oneI har (by assumption) (by omega)) | (refine side_ix har ?_; simp; done) | (refine side_ix har ?_; simp; omega) | (refine call_intro (iWantOk hP (by assumption) (by assumption) (by assumption) (by assumption)) ?_; rintro r ob ⟨rfl, rfl⟩; generalize hwo : wantOk _ = wo; cbv) | (refine calld_intro (iWantOk hP (by assumption) (by assumption) (by assumption) (by assumption)) ?_; generalize hwo : wantOk _ = wo; cbv))
  subst har; simp only [std, icmpS, decide_eq_true_eq, decide_eq_false_iff_not, Bool.not_eq_true', Bool.not_eq_false', bne_iff_ne, ne_eq, bne_eq_false_iff_eq, beq_iff_eq, beq_eq_false_iff_ne, Int.not_lt, Int.not_le, Bool.not_true, Bool.not_false, reduceCtorEq] at *
  exact ⟨⟨by first | rfl | (rw [hwo]), rfl⟩⟩
set_option maxRecDepth 20000 in
theorem fn296 : Tryz.prog.funcs[296]? = some Tryz.f296 := rfl
set_option maxHeartbeats 40000000 in
set_option maxRecDepth 3000 in
theorem iIdxWant (hP : Prg P) {n : List Wnt} {ns : List (List T)} (hn : encW n = ns) : ACall P 296 [.one (.t (.sl ns)), .one (.t (.fn (.func 261) [] [.pt [.fn (.func 200) [] []] 0]))] []
    (fun r ob => ∃ v, (0 ≤ v ↔ n.all wantOk = false) ∧ r = .one (.t (.int .i64 v)) ∧ ob = []) := by
  refine acall_fn (md := md) [none] v296 hP.mixed hP.tab (fn_at hP fn296) 2 rfl (by decide +kernel) rfl ?_
  intro ar har
  cbv
  repeat' (first | (intro; cbv) | (with_reducible refine and_side ?_ ?_; rotate_left; try cbv) | (refine ChkP.mk (by decide +kernel) ?_; cbv) | (refine br_intro ?_ ?_ <;> intro <;> cbv) | (refine get_at har (by assumption) (by assumption) (by assumption) (by assumption) ?_; cbv) | (refine get_lt har (by assumption) (by assumption) (by assumption) ?_; intro x xx hx hxx; cbv) | (refine get_atN har (by assumption) (by assumption) (by assumption) (by assumption) ?_; cbv) | (refine get_ltN har (by assumption) (by assumption) (by assumption) ?_; intro x xx hx hxx; cbv) | (refine get_atI har (by assumption) (by assumption) (by decide) ?_; cbv) | (refine get_twoA har (by assumption) (by assumption) (by decide) ?_; intro x hx; cbv) | (refine get_twoB har (by assumption) (by assumption) (by decide) ?_; intro x hx; cbv) | (refine bytes_intro (by assumption) ?_; cbv) | (exact side_lt har (by assumption) (by assumption)) | (exact side_inb har (by assumption) (by assumption) (by assumption)) | (exact side_sh har (by decide)) | (exact side_app har (by assumption) (by assumption) (by omega)) | (exact side_app0 har (by assumption) (by omega)) | (exact side_new har (by assumption) (by omega)) | (exact side_one har (by assumption) (by omega)) | (exact side_oneN har (by assumption) (by omega)) | (exact side_flat har (by assumption)) | (exact side_sbig har (by omega)) | (refine side_sbig har ?_; simp; done) | (exact side_oneI har (by assumption) (by omega)) | (refine side_ix har ?_; simp; done) | (refine side_ix har ?_; simp; omega))
  refine LoopP.mk Int [0, 1, 7, 8] [] (fun i => ⟨[(0, .one (.t (.sl ns))), (1, .one (.t (.fn (.func 261) [] [.pt [.fn (.func 200) [] []] 0]))), (7, .one (.t (.int .i64 (ar.len ns)))), (8, .one (.t (.int .i64 i)))], []⟩)
    (fun i => 0 ≤ i ∧ (n.take i.toNat).all wantOk = true) (fun i => n.length - i.toNat) 0 ?e ?f ?g
  case e => kernel_rfl
  case f => simp
  case g =>
    intro i hi
    have hi0 : 0 ≤ i := hi.1
    have hi1 : (n.take i.toNat).all wantOk = true := hi.2
    clear hi
    cbv
    repeat' (first | (intro; cbv) | (with_reducible refine and_side ?_ ?_; rotate_left; try cbv) | (refine ChkP.mk (by decide +kernel) ?_; cbv) | (refine br_intro ?_ ?_ <;> intro <;> cbv) | (refine get_at har (by assumption) (by assumption) (by assumption) (by assumption) ?_; cbv) | (refine get_lt har (by assumption) (by assumption) (by assumption) ?_; intro x xx hx hxx; cbv) | (refine get_atN har (by assumption) (by assumption) (by assumption) (by assumption) ?_; cbv) | (refine get_ltN har (by assumption) (by assumption) (by assumption) ?_; intro x xx hx hxx; cbv) | (refine get_atI har (by assumption) (by assumption) (by decide) ?_; cbv) | (refine get_twoA har (by assumption) (by assumption) (by decide) ?_; intro x hx; cbv) | (refine get_twoB har (by assumption) (by assumption) (by decide) ?_; intro x hx; cbv) | (refine bytes_intro (by assumption) ?_; cbv) | (exact side_lt har (by assumption) (by assumption)) | (exact side_inb har (by assumption) (by assumption) (by assumption)) | (exact side_sh har (by decide)) | (exact side_app har (by assumption) (by assumption) (by omega)) | (exact side_app0 har (by assumption) (by omega)) | (exact side_new har (by assumption) (by omega)) | (exact side_one har (by assumption) (by omega)) | (exact side_oneN har (by assumption) (by omega)) | (exact side_flat har (by assumption)) | (exact side_sbig har (by omega)) | (refine side_sbig har ?_; simp; done) | (exact side_oneI har (by assumption) (by omega)) | (refine side_ix har ?_; simp; done) | (refine side_ix har ?_; simp; omega) | (refine get_ltW har (by assumption) (by assumption) (by assumption) ?_; intro w wns wtos wtxs wnus hw hwn hwto hwtx hwnu; cbv) | (refine call_intro (iAllWant1 hP (by assumption) (by assumption) (by assumption) (by assumption)) ?_; rintro r ob ⟨rfl, rfl⟩; generalize hlo : (!wantOk _) = lo; cbv) | (refine calld_intro (iAllWant1 hP (by assumption) (by assumption) (by assumption) (by assumption)) ?_; generalize hlo : (!wantOk _) = lo; cbv))
    all_goals have hlen := encW_len hn
    all_goals subst har; simp only [std, icmpS, decide_eq_true_eq, decide_eq_false_iff_not, Bool.not_eq_true', Bool.not_eq_false', bne_iff_ne, ne_eq, bne_eq_false_iff_eq, beq_iff_eq, beq_eq_false_iff_ne, Int.not_lt, Int.not_le, Bool.not_true, Bool.not_false, reduceCtorEq] at *
    · exact ⟨⟨i, ⟨fun _ => all_bad (p := wantOk) hw (by simp_all), fun _ => hi0⟩, rfl, rfl⟩⟩
    · rw [addI (a := i) (b := 1) (by omega) (by omega)]
      exact ⟨i + 1, by kernel_rfl, ⟨by omega, by rw [show (i + 1).toNat = i.toNat + 1 by omega]; exact all_take_succ hw hi1 (by simp_all)⟩, by omega⟩
    · rw [take_all (by omega)] at hi1
      exact ⟨⟨-1, ⟨fun h => absurd h (by decide), fun h => by rw [hi1] at h; cases h⟩, rfl, rfl⟩⟩
set_option maxRecDepth 20000 in
theorem fn260 : Tryz.prog.funcs[260]? = some Tryz.f260 := rfl
set_option maxHeartbeats 40000000 in
set_option maxRecDepth 3000 in
theorem iConWant (hP : Prg P) {n : List Wnt} {ns : List (List T)} (hn : encW n = ns) : ACall P 260 [.one (.t (.sl ns)), .one (.t (.fn (.func 261) [] [.pt [.fn (.func 200) [] []] 0]))] []
    (fun r ob => r = .one (.t (.bool (!n.all wantOk))) ∧ ob = []) := by
  refine acall_fn (md := md) [none] v260 hP.mixed hP.tab (fn_at hP fn260) 2 rfl (by decide +kernel) rfl ?_
  intro ar har
  cbv
  repeat' (first | (intro; cbv) | (with_reducible refine and_side ?_ ?_; rotate_left; try cbv) | (refine ChkP.mk (by decide +kernel) ?_; cbv) | (refine br_intro ?_ ?_ <;> intro <;> cbv) | (refine get_at har (by assumption) (by assumption) (by assumption) (by assumption) ?_; cbv) | (refine get_lt har (by assumption) (by assumption) (by assumption) ?_; intro x xx hx hxx; cbv) | (refine get_atN har (by assumption) (by assumption) (by assumption) (by assumption) ?_; cbv) | (refine get_ltN har (by assumption) (by assumption) (by assumption) ?_; intro x xx hx hxx; cbv) | (refine get_atI har (by assumption) (by assumption) (by decide) ?_; cbv) | (refine get_twoA har (by assumption) (by assumption) (by decide) ?_; intro x hx; cbv) | (refine get_twoB har (by assumption) (by assumption) (by decide) ?_; intro x hx; cbv) | (refine bytes_intro (by assumption) ?_; cbv) | (exact side_lt har (by assumption) (by assumption)) | (exact side_inb har (by assumption) (by assumption) (by assumption)) | (exact side_sh har (by decide)) | (exact side_app har (by assumption) (by assumption) (by omega)) | (exact side_app0 har (by assumption) (by omega)) | (exact side_new har (by assumption) (by omega)) | (exact side_one har (by assumption) (by omega)) | (exact side_oneN har (by assumption) (by omega)) | (exact side_flat har (by assumption)) | (exact side_sbig har (by omega)) | (refine side_sbig har ?_; simp; done) | (exact side_oneI har (by assumption) (by omega)) | (refine side_ix har ?_; simp; done) | (refine side_ix har ?_; simp; omega) | (refine call_intro (iIdxWant hP (by assumption)) ?_; rintro r ob ⟨v, hv, rfl, rfl⟩; cbv))
  subst har; simp only [std, icmpS, decide_eq_true_eq, decide_eq_false_iff_not, Bool.not_eq_true', Bool.not_eq_false', bne_iff_ne, ne_eq, bne_eq_false_iff_eq, beq_iff_eq, beq_eq_false_iff_ne, Int.not_lt, Int.not_le, Bool.not_true, Bool.not_false, reduceCtorEq] at *
  refine ⟨⟨?_, rfl⟩⟩
  by_cases h : (0 : Int) ≤ v
  · rw [hv.1 h]; simp [h]
  · have : n.all wantOk = true := by
      cases e : n.all wantOk with
      | true => rfl
      | false => exact absurd (hv.2 e) h
    rw [this]; simp [h]
set_option maxRecDepth 20000 in
theorem fn199 : Tryz.prog.funcs[199]? = some Tryz.f199 := rfl
set_option maxHeartbeats 40000000 in
set_option maxRecDepth 3000 in
theorem iAllWant (hP : Prg P) {n : List Wnt} {ns : List (List T)} (hn : encW n = ns) : ACall P 199 [.one (.t (.sl ns)), .one (.t (.fn (.func 200) [] []))] []
    (fun r ob => r = .one (.t (.bool (n.all wantOk))) ∧ ob = []) := by
  refine acall_fn (md := md) [none] v199 hP.mixed hP.tab (fn_at hP fn199) 2 rfl (by decide +kernel) rfl ?_
  intro ar har
  cbv
  repeat' (first | (intro; cbv) | (with_reducible refine and_side ?_ ?_; rotate_left; try cbv) | (refine ChkP.mk (by decide +kernel) ?_; cbv) | (refine br_intro ?_ ?_ <;> intro <;> cbv) | (refine get_at har (by assumption) (by assumption) (by assumption) (by assumption) ?_; cbv) | (refine get_lt har (by assumption) (by assumption) (by assumption) ?_; intro x xx hx hxx; cbv) | (refine get_atN har (by assumption) (by assumption) (by assumption) (by assumption) ?_; cbv) | (refine get_ltN har (by assumption) (by assumption) (by assumption) ?_; intro x xx hx hxx; cbv) | (refine get_atI har (by assumption) (by assumption) (by decide) ?_; cbv) | (refine get_twoA har (by assumption) (by assumption) (by decide) ?_; intro x hx; cbv) | (refine get_twoB har (by assumption) (by assumption) (by decide) ?_; intro x hx; cbv) | (refine bytes_intro (by assumption) ?_; cbv) | (exact side_lt har (by assumption) (by assumption)) | (exact side_inb har (by assumption) (by assumption) (by assumption)) | (exact side_sh har (by decide)) | (exact side_app har (by assumption) (by assumption) (by omega)) | (exact side_app0 har (by assumption) (by omega)) | (exact side_new har (by assumption) (by omega)) | (exact side_one har (by assumption) (by omega)) | (exact side_oneN har (by assumption) (by omega)) | (exact side_flat har (by assumption)) | (exact side_sbig har (by omega)) | (refine side_sbig har ?_; simp; done) | (exact side_oneI har (by assumption) (by omega)) | (refine side_ix har ?_; simp; done) | (refine side_ix har ?_; simp; omega) | (refine call_intro (iConWant hP (by assumption)) ?_; rintro r ob ⟨rfl, rfl⟩; generalize hcb : (!List.all _ _) = cb; cbv) | (refine calld_intro (iConWant hP (by assumption)) ?_; generalize hcb : (!List.all _ _) = cb; cbv))
  subst har; simp only [std, icmpS, decide_eq_true_eq, decide_eq_false_iff_not, Bool.not_eq_true', Bool.not_eq_false', bne_iff_ne, ne_eq, bne_eq_false_iff_eq, beq_iff_eq, beq_eq_false_iff_ne, Int.not_lt, Int.not_le, Bool.not_true, Bool.not_false, reduceCtorEq] at *
  exact ⟨⟨by rw [← hcb]; simp, rfl⟩⟩
set_option maxRecDepth 20000 in
theorem fn116 : Tryz.prog.funcs[116]? = some Tryz.f116 := rfl
set_option maxHeartbeats 40000000 in
set_option maxRecDepth 3000 in
theorem iAreWants (hP : Prg P) {n : List Wnt} {ns : List (List T)} (hn : encW n = ns) : ACall P 116 [.one (.t (.sl ns))] [] (fun r ob => r = .one (.t (.bool (listOk wantOk n))) ∧ ob = []) := by
  refine acall_fn (md := md) [none] v116 hP.mixed hP.tab (fn_at hP fn116) 1 rfl (by decide +kernel) rfl ?_
  intro ar har
  cbv
  repeat' (first | (intro; cbv) | (with_reducible refine and_side ?_ ?_; rotate_left; try cbv) | (refine ChkP.mk (by decide +kernel) ?_; cbv) | (refine br_intro ?_ ?_ <;> intro <;> cbv) | (refine get_at har (by assumption) (by assumption) (by assumption) (by assumption) ?_; cbv) | (refine get_lt har (by assumption) (by assumption) (by assumption) ?_; intro x xx hx hxx; cbv) | (refine get_atN har (by assumption) (by assumption) (by assumption) (by assumption) ?_; cbv) | (refine get_ltN har (by assumption) (by assumption) (by assumption) ?_; intro x xx hx hxx; cbv) | (refine get_atI har (by assumption) (by assumption) (by decide) ?_; cbv) | (refine get_twoA har (by assumption) (by assumption) (by decide) ?_; intro x hx; cbv) | (refine get_twoB har (by assumption) (by assumption) (by decide) ?_; intro x hx; cbv) | (refine bytes_intro (by assumption) ?_; cbv) | (exact side_lt har (by assumption) (by assumption)) | (exact side_inb har (by assumption) (by assumption) (by assumption)) | (exact side_sh har (by decide)) | (exact side_app har (by assumption) (by assumption) (by omega)) | (exact side_app0 har (by assumption) (by omega)) | (exact side_new har (by assumption) (by omega)) | (exact side_one har (by assumption) (by omega)) | (exact side_oneN har (by assumption) (by omega)) | (exact side_flat har (by assumption)) | (exact side_sbig har (by omega)) | (refine side_sbig har ?_; simp; done) | (exact side_oneI har (by assumption) (by omega)) | (refine side_ix har ?_; simp; done) | (refine side_ix har ?_; simp; omega) | (refine call_intro (iAllWant hP (by assumption)) ?_; rintro r ob ⟨rfl, rfl⟩; generalize hab : List.all _ _ = ab; cbv) | (refine calld_intro (iAllWant hP (by assumption)) ?_; generalize hab : List.all _ _ = ab; cbv))
  all_goals have hlen := encW_len hn
  all_goals subst har; simp only [std, icmpS, decide_eq_true_eq, decide_eq_false_iff_not, Bool.not_eq_true', Bool.not_eq_false', bne_iff_ne, ne_eq, bne_eq_false_iff_eq, beq_iff_eq, beq_eq_false_iff_ne, Int.not_lt, Int.not_le, Bool.not_true, Bool.not_false, reduceCtorEq] at *
  · exact ⟨⟨by rw [listOk, hab, decide_eq_true (by omega)]; simp, rfl⟩⟩
  · exact ⟨⟨by rw [listOk, decide_eq_false (by omega)]; simp, rfl⟩⟩
end Go.TL.Tryz

/- TfMoC -/
namespace Go.TL.Tryz
open Go Go.TL Go.Proofs
set_option maxRecDepth 20000
variable {P : Program}
theorem one_q {ar : Ar} (har : ar = std) {qs : List Qst} {qss : List (List T)} (hq : encQ qs = qss) (h : ar.icmp .neq (ar.len qss) 1 = false) : (0 : Int) ≤ 0 ∧ (0 : Int).toNat < qs.length := by
  have := encQ_len hq
  subst har
  simp [std, icmpS] at h
  omega
theorem one_eq {ar : Ar} (har : ar = std) {qs : List Qst} {qss : List (List T)} {q : Qst} (hq : encQ qs = qss) (h : ar.icmp .neq (ar.len qss) 1 = false) (k : qs[(0 : Int).toNat]? = some q) : qs = [q] := by
  have := encQ_len hq
  subst har
  simp [std, icmpS] at h
  match qs, k with
  | [x], k => simp at k; rw [k]
  | x :: y :: r, _ => simp at this; omega
theorem listOk_len {α : Type} {p : α → Bool} {l : List α} (h : listOk p l = true) : l.length ≤ 12 := by
  simp only [listOk, Bool.and_eq_true, decide_eq_true_eq] at h; exact h.1
theorem sum2 {α β : Type} {a : List α} {b : List β} [Decidable (a = [])] [Decidable (b = [])] (ha : a.length ≤ 12) (hb : b.length ≤ 12) : (iopS .add .i64 (a.length : Int) (b.length : Int) == 0) = (decide (a = []) && decide (b = [])) := by
  rw [addI (by omega) (by omega), Bool.eq_iff_iff]
  simp only [beq_iff_eq, Bool.and_eq_true, decide_eq_true_eq]
  rw [← List.length_eq_zero_iff, ← List.length_eq_zero_iff]
  omega
theorem sum3 {α β γ : Type} {a : List α} {b : List β} {c : List γ} [Decidable (a = [])] [Decidable (b = [])] [Decidable (c = [])] (ha : a.length ≤ 12) (hb : b.length ≤ 12) (hc : c.length ≤ 12) : (iopS .add .i64 (iopS .add .i64 (a.length : Int) (b.length : Int)) (c.length : Int) == 0) = (decide (a = []) && (decide (b = []) && decide (c = []))) := by
  rw [show iopS .add .i64 (a.length : Int) (b.length : Int) = a.length + b.length from addI (by omega) (by omega), addI (by omega) (by omega), Bool.eq_iff_iff]
  simp only [beq_iff_eq, Bool.and_eq_true, decide_eq_true_eq]
  rw [← List.length_eq_zero_iff, ← List.length_eq_zero_iff, ← List.length_eq_zero_iff]
  omega
/-- How a message lies in memory. -/
def MesA (m : Mes) (qss ans aus mos prs ups : List (List T)) : Prop := encQ m.qs = qss ∧ encR m.an = ans ∧ encR m.au = aus ∧ encR m.mo = mos ∧ encW m.pr = prs ∧ encW m.up = ups
set_option maxRecDepth 20000 in
theorem fn34 : Tryz.prog.funcs[34]? = some Tryz.f34 := rfl
set_option maxHeartbeats 40000000 in
set_option maxRecDepth 3000 in
theorem sMay (hP : Prg P) {m : Mes} {qss ans aus mos prs ups : List (List T)} (hm : MesA m qss ans aus mos prs ups) :
    ACall P 34 [.agg [.t (.int .i64 m.id), .t (.bool m.reply), .t (.int .i64 m.op), .t (.bool m.auth), .t (.int .i64 m.code), .t (.sl qss), .t (.sl ans), .t (.sl aus), .t (.sl mos), .t (.sl prs), .t (.sl ups)]] [] (fun r ob => r = .one (.t (.bool (mayB m))) ∧ ob = []) := by
  obtain ⟨hq, ha, hu, ho, hp, hup⟩ := hm
  refine acall_fn (md := md) [none] v34 hP.mixed hP.tab (fn_at hP fn34) 1 rfl (by decide +kernel) rfl ?_
  intro ar har
  cbv
  repeat' (first | (intro; cbv) | (with_reducible refine and_side ?_ ?_; rotate_left; try cbv) | (refine ChkP.mk (by decide +kernel) ?_; cbv) | (refine br_intro ?_ ?_ <;> intro <;> cbv) | (refine get_at har (by assumption) (by assumption) (by assumption) (by assumption) ?_; cbv) | (refine get_lt har (by assumption) (by assumption) (by assumption) ?_; intro x xx hx hxx; cbv) | (refine get_atN har (by assumption) (by assumption) (by assumption) (by assumption) ?_; cbv) | (refine get_ltN har (by assumption) (by assumption) (by assumption) ?_; intro x xx hx hxx; cbv) | (refine get_atI har (by assumption) (by assumption) (by decide) ?_; cbv) | (refine get_twoA har (by assumption) (by assumption) (by decide) ?_; intro x hx; cbv) | (refine get_twoB har (by assumption) (by assumption) (by decide) ?_; intro x hx; cbv) | (refine bytes_intro (by assumption) ?_; cbv) | (exact side_lt har (by assumption) (by assumption)) | (exact side_inb har (by assumption) (by assumption) (by assumption)) | (exact side_sh har (by decide)) | (exact side_app har (by assumption) (by assumption) (by omega)) | (exact side_app0 har (by assumption) (by omega)) | (exact side_new har (by assumption) (by omega)) | (exact side_one har (by assumption) (by omega)) | (exact side_oneN har (by assumption) (by omega)) | (exact side_flat har (by assumption)) | (exact side_sbig har (by omega)) | (refine side_sbig har ?_; simp; done) | (exact side_oneI har (by assumption) (by omega)) | (refine side_ix har ?_; simp; done) | (refine side_ix har ?_; simp; omega) | (refine get_qst har (by assumption) (one_q har (by assumption) (by assumption)) ?_; intro q qns hqq hqn; cbv) | (refine call_intro (sNameOk hP (by assumption)) ?_; rintro r ob ⟨rfl, rfl⟩; generalize hv : nameOk _ = v; cbv) | (refine calld_intro (sNameOk hP (by assumption)) ?_; generalize hv : nameOk _ = v; cbv) | (refine call_intro (sAsked hP) ?_; rintro r ob ⟨rfl, rfl⟩; generalize hak : askedB _ = ak; cbv) | (refine calld_intro (sAsked hP) ?_; generalize hak : askedB _ = ak; cbv) | (refine call_intro (sRrs hP (by assumption)) ?_; rintro r ob ⟨rfl, rfl⟩; generalize hlr : listOk _ _ = lr; cbv) | (refine calld_intro (sRrs hP (by assumption)) ?_; generalize hlr : listOk _ _ = lr; cbv) | (refine call_intro (sWants hP (by assumption)) ?_; rintro r ob ⟨rfl, rfl⟩; generalize hlw : listOk _ _ = lw; cbv) | (refine calld_intro (sWants hP (by assumption)) ?_; generalize hlw : listOk _ _ = lw; cbv))
  all_goals try have hqs := one_eq har hq (by assumption) (by assumption)
  all_goals
    refine ret_b ?_
    have l1 := encQ_len hq
    have l2 := encR_len ha
    have l3 := encR_len hu
    have l4 := encR_len ho
    have l5 := encW_len hp
    have l6 := encW_len hup
    clear hq ha hu ho hp hup
    subst har
    try simp only [std, icmpS] at *
    simp_all [mayB]
    try first | omega | rfl | (rw [Bool.eq_iff_iff]; simp; done)
set_option maxRecDepth 20000 in
theorem fn42 : Tryz.prog.funcs[42]? = some Tryz.f42 := rfl
set_option maxHeartbeats 40000000 in
set_option maxRecDepth 3000 in
theorem iShaped (hP : Prg P) {m : Mes} {qss ans aus mos prs ups : List (List T)} (hm : MesA m qss ans aus mos prs ups) :
    ACall P 42 [.agg [.t (.int .i64 m.id), .t (.bool m.reply), .t (.int .i64 m.op), .t (.bool m.auth), .t (.int .i64 m.code), .t (.sl qss), .t (.sl ans), .t (.sl aus), .t (.sl mos), .t (.sl prs), .t (.sl ups)]] [] (fun r ob => r = .one (.t (.bool (mayB m))) ∧ ob = []) := by
  obtain ⟨hq, ha, hu, ho, hp, hup⟩ := hm
  refine acall_fn (md := md) [none] v42 hP.mixed hP.tab (fn_at hP fn42) 1 rfl (by decide +kernel) rfl ?_
  intro ar har
  cbv
  repeat' (first | (intro; cbv) | (with_reducible refine and_side ?_ ?_; rotate_left; try cbv) | (refine ChkP.mk (by decide +kernel) ?_; cbv) | (refine br_intro ?_ ?_ <;> intro <;> cbv) | (refine get_at har (by assumption) (by assumption) (by assumption) (by assumption) ?_; cbv) | (refine get_lt har (by assumption) (by assumption) (by assumption) ?_; intro x xx hx hxx; cbv) | (refine get_atN har (by assumption) (by assumption) (by assumption) (by assumption) ?_; cbv) | (refine get_ltN har (by assumption) (by assumption) (by assumption) ?_; intro x xx hx hxx; cbv) | (refine get_atI har (by assumption) (by assumption) (by decide) ?_; cbv) | (refine get_twoA har (by assumption) (by assumption) (by decide) ?_; intro x hx; cbv) | (refine get_twoB har (by assumption) (by assumption) (by decide) ?_; intro x hx; cbv) | (refine bytes_intro (by assumption) ?_; cbv) | (exact side_lt har (by assumption) (by assumption)) | (exact side_inb har (by assumption) (by assumption) (by assumption)) | (exact side_sh har (by decide)) | (exact side_app har (by assumption) (by assumption) (by omega)) | (exact side_app0 har (by assumption) (by omega)) | (exact side_new har (by assumption) (by omega)) | (exact side_one har (by assumption) (by omega)) | (exact side_oneN har (by assumption) (by omega)) | (exact side_flat har (by assumption)) | (exact side_sbig har (by omega)) | (refine side_sbig har ?_; simp; done) | (exact side_oneI har (by assumption) (by omega)) | (refine side_ix har ?_; simp; done) | (refine side_ix har ?_; simp; omega) | (refine get_qst har (by assumption) (one_q har (by assumption) (by assumption)) ?_; intro q qns hqq hqn; cbv) | (refine call_intro (iWithin hP) ?_; rintro r ob ⟨rfl, rfl⟩; generalize hwi : withinB _ _ _ = wi; cbv) | (refine calld_intro (iWithin hP) ?_; generalize hwi : withinB _ _ _ = wi; cbv) | (refine call_intro (iIsCode hP) ?_; rintro r ob ⟨rfl, rfl⟩; generalize hic : withinB _ 0 10 = ic; cbv) | (refine calld_intro (iIsCode hP) ?_; generalize hic : withinB _ 0 10 = ic; cbv) | (refine call_intro (iNameOk hP (by assumption)) ?_; rintro r ob ⟨rfl, rfl⟩; generalize hno : nameOk _ = no; cbv) | (refine calld_intro (iNameOk hP (by assumption)) ?_; generalize hno : nameOk _ = no; cbv) | (refine call_intro (iAsked hP) ?_; rintro r ob ⟨rfl, rfl⟩; generalize hak : askedB _ = ak; cbv) | (refine calld_intro (iAsked hP) ?_; generalize hak : askedB _ = ak; cbv) | (refine call_intro (iAreRrs hP (by assumption)) ?_; rintro r ob ⟨rfl, rfl⟩; generalize hlsRr : listOk _ _ = lokRr; cbv) | (refine calld_intro (iAreRrs hP (by assumption)) ?_; generalize hlsRr : listOk _ _ = lokRr; cbv) | (refine call_intro (iAreWants hP (by assumption)) ?_; rintro r ob ⟨rfl, rfl⟩; generalize hlsWant : listOk _ _ = lokWant; cbv) | (refine calld_intro (iAreWants hP (by assumption)) ?_; generalize hlsWant : listOk _ _ = lokWant; cbv))
  all_goals try have hqs := one_eq har hq (by assumption) (by assumption)
  all_goals
    refine ret_b ?_
    have l1 := encQ_len hq
    have l2 := encR_len ha
    have l3 := encR_len hu
    have l4 := encR_len ho
    have l5 := encW_len hp
    have l6 := encW_len hup
    clear hq ha hu ho hp hup
    subst har
    try simp only [std, icmpS] at *
    simp_all [mayB, withinB]
    try first | omega | exact sum2 (listOk_len (by assumption)) (listOk_len (by assumption)) | exact sum3 (listOk_len (by assumption)) (listOk_len (by assumption)) (listOk_len (by assumption))
end Go.TL.Tryz

/- TfCopI -/
namespace Go.TL.Tryz
open Go Go.TL Go.Proofs
variable {P : Program}

set_option maxRecDepth 20000 in
theorem fn222 : Tryz.prog.funcs[222]? = some Tryz.f222 := rfl
set_option maxHeartbeats 40000000 in
set_option maxRecDepth 3000 in
theorem iEqual (hP : Prg P) {b c : List UInt8} {es fs : List (List T)} (hl : encB b = es) (hm : encB c = fs) : ACall P 222 [.one (.t (.sl es)), .one (.t (.sl fs))] [] (fun r ob => r = .one (.t (.bool (b == c))) ∧ ob = []) := by
  refine acall_fn (md := md) [none] v222 hP.mixed hP.tab (fn_at hP fn222) 2 rfl (by decide +kernel) rfl ?_
  intro ar har
  cbv
  repeat' (first | (intro; cbv) | (with_reducible refine and_side ?_ ?_; rotate_left; try cbv) | (refine ChkP.mk (by decide +kernel) ?_; cbv) | (refine br_intro ?_ ?_ <;> intro <;> cbv) | (refine get_at har (by assumption) (by assumption) (by assumption) (by assumption) ?_; cbv) | (refine get_lt har (by assumption) (by assumption) (by assumption) ?_; intro x xx hx hxx; cbv) | (refine get_atN har (by assumption) (by assumption) (by assumption) (by assumption) ?_; cbv) | (refine get_ltN har (by assumption) (by assumption) (by assumption) ?_; intro x xx hx hxx; cbv) | (refine get_atI har (by assumption) (by assumption) (by decide) ?_; cbv) | (refine get_twoA har (by assumption) (by assumption) (by decide) ?_; intro x hx; cbv) | (refine get_twoB har (by assumption) (by assumption) (by decide) ?_; intro x hx; cbv) | (refine bytes_intro (by assumption) ?_; cbv) | (exact side_lt har (by assumption) (by assumption)) | (exact side_inb har (by assumption) (by assumption) (by assumption)) | (exact side_sh har (by decide)) | (exact side_app har (by assumption) (by assumption) (by omega)) | (exact side_app0 har (by assumption) (by omega)) | (exact side_new har (by assumption) (by omega)) | (exact side_one har (by assumption) (by omega)) | (exact side_oneN har (by assumption) (by omega)) | (exact side_flat har (by assumption)) | (exact side_sbig har (by omega)) | (refine side_sbig har ?_; simp; done) | (exact side_oneI har (by assumption) (by omega)) | (refine side_ix har ?_; simp; done) | (refine side_ix har ?_; simp; omega))
  subst har
  exact ⟨⟨rfl, rfl⟩⟩
set_option maxRecDepth 20000 in
theorem fn97 : Tryz.prog.funcs[97]? = some Tryz.f97 := rfl
set_option maxHeartbeats 40000000 in
set_option maxRecDepth 3000 in
theorem iCopied (hP : Prg P) {n : List (List UInt8)} {ns : List (List T)} (hn : encN n = ns) (hnb : NmB n) : ACall P 97 [.agg [.t (.sl ns)]] [] (fun r ob => r = .agg [.row 32 0] ∧ ob = [(32, .row 1 ns 0 [0] false)]) := by
  refine acall_fn (md := md) [some [(0, 1)]] v97 hP.mixed hP.tab (fn_at hP fn97) 1 rfl (by decide +kernel) rfl ?_
  intro ar har
  cbv
  repeat' (first | (intro; cbv) | (with_reducible refine and_side ?_ ?_; rotate_left; try cbv) | (refine ChkP.mk (by decide +kernel) ?_; cbv) | (refine br_intro ?_ ?_ <;> intro <;> cbv) | (refine get_at har (by assumption) (by assumption) (by assumption) (by assumption) ?_; cbv) | (refine get_lt har (by assumption) (by assumption) (by assumption) ?_; intro x xx hx hxx; cbv) | (refine get_atN har (by assumption) (by assumption) (by assumption) (by assumption) ?_; cbv) | (refine get_ltN har (by assumption) (by assumption) (by assumption) ?_; intro x xx hx hxx; cbv) | (refine get_atI har (by assumption) (by assumption) (by decide) ?_; cbv) | (refine get_twoA har (by assumption) (by assumption) (by decide) ?_; intro x hx; cbv) | (refine get_twoB har (by assumption) (by assumption) (by decide) ?_; intro x hx; cbv) | (refine bytes_intro (by assumption) ?_; cbv) | (exact side_lt har (by assumption) (by assumption)) | (exact side_inb har (by assumption) (by assumption) (by assumption)) | (exact side_sh har (by decide)) | (exact side_app har (by assumption) (by assumption) (by omega)) | (exact side_app0 har (by assumption) (by omega)) | (exact side_new har (by assumption) (by omega)) | (exact side_one har (by assumption) (by omega)) | (exact side_oneN har (by assumption) (by omega)) | (exact side_flat har (by assumption)) | (exact side_sbig har (by omega)) | (refine side_sbig har ?_; simp; done) | (exact side_oneI har (by assumption) (by omega)) | (refine side_ix har ?_; simp; done) | (refine side_ix har ?_; simp; omega))
  refine LoopP.mk (List (List UInt8) × List (List T) × Int) [2, 3, 8, 9, 10] [.cell 3 0 1 12]
    (fun x => ⟨[(2, .one (.ptr 16 0)), (3, .one (.ptr 17 0)), (8, .one (.t (.sl ns))), (9, .one (.t (.int .i64 (ar.len ns)))), (10, .one (.t (.int .i64 x.2.2)))], [(16, .box [.nil] false), (17, .box [.row 18 0] false), (18, .row 1 x.2.1 0 [0] false)]⟩)
    (fun x => encN x.1 = x.2.1 ∧ 0 ≤ x.2.2 ∧ x.1 = n.take x.2.2.toNat ∧ x.1.length ≤ 7) (fun x => n.length - x.2.2.toNat) ([], [], 0) ?e ?f ?g
  case e => kernel_rfl
  case f => exact ⟨rfl, Int.le_refl _, by simp, by simp⟩
  case g =>
    intro x hx
    obtain ⟨m, ms, i⟩ := x
    have hm : encN m = ms := hx.1
    have hi0 : 0 ≤ i := hx.2.1
    have hmm : m = n.take i.toNat := hx.2.2.1
    have hml : m.length ≤ 7 := hx.2.2.2
    have hnl : n.length ≤ 7 := hnb.1
    clear hx
    cbv
    repeat' (first | (intro; cbv) | (with_reducible refine and_side ?_ ?_; rotate_left; try cbv) | (refine ChkP.mk (by decide +kernel) ?_; cbv) | (refine br_intro ?_ ?_ <;> intro <;> cbv) | (refine get_at har (by assumption) (by assumption) (by assumption) (by assumption) ?_; cbv) | (refine get_lt har (by assumption) (by assumption) (by assumption) ?_; intro x xx hx hxx; cbv) | (refine get_atN har (by assumption) (by assumption) (by assumption) (by assumption) ?_; cbv) | (refine get_ltN har (by assumption) (by assumption) (by assumption) ?_; intro x xx hx hxx; cbv) | (refine get_atI har (by assumption) (by assumption) (by decide) ?_; cbv) | (refine get_twoA har (by assumption) (by assumption) (by decide) ?_; intro x hx; cbv) | (refine get_twoB har (by assumption) (by assumption) (by decide) ?_; intro x hx; cbv) | (refine bytes_intro (by assumption) ?_; cbv) | (exact side_lt har (by assumption) (by assumption)) | (exact side_inb har (by assumption) (by assumption) (by assumption)) | (exact side_sh har (by decide)) | (exact side_app har (by assumption) (by assumption) (by omega)) | (exact side_app0 har (by assumption) (by omega)) | (exact side_new har (by assumption) (by omega)) | (exact side_one har (by assumption) (by omega)) | (exact side_oneN har (by assumption) (by omega)) | (exact side_flat har (by assumption)) | (exact side_sbig har (by omega)) | (refine side_sbig har ?_; simp; done) | (exact side_oneI har (by assumption) (by omega)) | (refine side_ix har ?_; simp; done) | (refine side_ix har ?_; simp; omega))
    · have hx16 := hnb.2 x (List.mem_of_getElem? hx)
      have hlt := (List.getElem?_eq_some_iff.1 hx).1
      refine calld_intro (iClone hP hxx (by omega)) ?_
      rw [hxx]
      cbv
      repeat' (first | (intro; cbv) | (with_reducible refine and_side ?_ ?_; rotate_left; try cbv) | (refine ChkP.mk (by decide +kernel) ?_; cbv) | (refine br_intro ?_ ?_ <;> intro <;> cbv) | (refine get_at har (by assumption) (by assumption) (by assumption) (by assumption) ?_; cbv) | (refine get_lt har (by assumption) (by assumption) (by assumption) ?_; intro x xx hx hxx; cbv) | (refine get_atN har (by assumption) (by assumption) (by assumption) (by assumption) ?_; cbv) | (refine get_ltN har (by assumption) (by assumption) (by assumption) ?_; intro x xx hx hxx; cbv) | (refine get_atI har (by assumption) (by assumption) (by decide) ?_; cbv) | (refine get_twoA har (by assumption) (by assumption) (by decide) ?_; intro x hx; cbv) | (refine get_twoB har (by assumption) (by assumption) (by decide) ?_; intro x hx; cbv) | (refine bytes_intro (by assumption) ?_; cbv) | (exact side_lt har (by assumption) (by assumption)) | (exact side_inb har (by assumption) (by assumption) (by assumption)) | (exact side_sh har (by decide)) | (exact side_app har (by assumption) (by assumption) (by omega)) | (exact side_app0 har (by assumption) (by omega)) | (exact side_new har (by assumption) (by omega)) | (exact side_one har (by assumption) (by omega)) | (exact side_oneN har (by assumption) (by omega)) | (exact side_flat har (by assumption)) | (exact side_sbig har (by omega)) | (refine side_sbig har ?_; simp; done) | (exact side_oneI har (by assumption) (by omega)) | (refine side_ix har ?_; simp; done) | (refine side_ix har ?_; simp; omega))
      have hm1 : m ++ [x] = n.take (i.toNat + 1) := by rw [List.take_add_one, hx, hmm]; rfl
      subst har
      refine ⟨(m ++ [x], encN (m ++ [x]), i + 1), ?_, ⟨rfl, by dsimp only; omega, by dsimp only; rw [hm1, show (i + 1).toNat = i.toNat + 1 by omega], by dsimp only; rw [hm1]; simp; omega⟩, by dsimp only; omega⟩
      rw [show encN (m ++ [x]) = std.app ms [[.sl xx]] from encN_app hm (encN_one hxx), show i + 1 = std.iop .add .i64 i 1 from (addI (by omega) (by omega)).symm]
      kernel_rfl
    · have hg := ge_len har (by assumption) hi0
      rw [encN_len hn] at hg
      rw [take_all (by omega)] at hmm
      exact ⟨⟨rfl, by rw [← hm, hmm, hn]⟩⟩
def sufB (b c : List UInt8) : Bool := decide (c.length ≤ b.length) && (b.drop (b.length - c.length) == c)
set_option maxRecDepth 20000 in
theorem fn193 : Tryz.prog.funcs[193]? = some Tryz.f193 := rfl
set_option maxHeartbeats 40000000 in
set_option maxRecDepth 3000 in
theorem iHasSuffix (hP : Prg P) {b c : List UInt8} {es fs : List (List T)} (hl : encB b = es) (hm : encB c = fs) (hb : b.length ≤ 1000000) (hc : c.length ≤ 1000000) : ACall P 193 [.one (.t (.sl es)), .one (.t (.sl fs))] [] (fun r ob => r = .one (.t (.bool (sufB b c))) ∧ ob = []) := by
  have hl1 := encB_len hl
  have hl2 := encB_len hm
  refine acall_fn (md := md) [none] v193 hP.mixed hP.tab (fn_at hP fn193) 2 rfl (by decide +kernel) rfl ?_
  intro ar har
  cbv
  repeat' (first | (intro; cbv) | (with_reducible refine and_side ?_ ?_; rotate_left; try cbv) | (refine ChkP.mk (by decide +kernel) ?_; cbv) | (refine br_intro ?_ ?_ <;> intro <;> cbv) | (refine get_at har (by assumption) (by assumption) (by assumption) (by assumption) ?_; cbv) | (refine get_lt har (by assumption) (by assumption) (by assumption) ?_; intro x xx hx hxx; cbv) | (refine get_atN har (by assumption) (by assumption) (by assumption) (by assumption) ?_; cbv) | (refine get_ltN har (by assumption) (by assumption) (by assumption) ?_; intro x xx hx hxx; cbv) | (refine get_atI har (by assumption) (by assumption) (by decide) ?_; cbv) | (refine get_twoA har (by assumption) (by assumption) (by decide) ?_; intro x hx; cbv) | (refine get_twoB har (by assumption) (by assumption) (by decide) ?_; intro x hx; cbv) | (refine bytes_intro (by assumption) ?_; cbv) | (exact side_lt har (by assumption) (by assumption)) | (exact side_inb har (by assumption) (by assumption) (by assumption)) | (exact side_sh har (by decide)) | (exact side_app har (by assumption) (by assumption) (by omega)) | (exact side_app0 har (by assumption) (by omega)) | (exact side_new har (by assumption) (by omega)) | (exact side_one har (by assumption) (by omega)) | (exact side_oneN har (by assumption) (by omega)) | (exact side_flat har (by assumption)) | (exact side_sbig har (by omega)) | (refine side_sbig har ?_; simp; done) | (exact side_oneI har (by assumption) (by omega)) | (refine side_ix har ?_; simp; done) | (refine side_ix har ?_; simp; omega))
  · rename_i h1 _ _ _
    have hle : c.length ≤ b.length := by subst har; simp only [std, icmpS, decide_eq_true_eq] at h1; omega
    have e : encB (b.drop (b.length - c.length)) = ar.sub es (ar.iop .sub .i64 (ar.len es) (ar.len fs)) (ar.len es) := by
      subst har; subst hl; subst hm
      show _ = ((encB b).take (((encB b).length : Int)).toNat).drop (iopS .sub .i64 ((encB b).length : Int) ((encB c).length : Int)).toNat
      rw [subI (by omega) (by omega), hl1, hl2, show ((b.length : Int) - (c.length : Int)).toNat = b.length - c.length by omega, Int.toNat_natCast, List.take_of_length_le (by omega)]
      simp [encB]
    refine call_intro (iEqual hP e hm) ?_
    rintro r ob ⟨rfl, rfl⟩
    generalize heq : (b.drop (b.length - c.length) == c) = q
    cbv
    repeat' (first | (intro; cbv) | (with_reducible refine and_side ?_ ?_; rotate_left; try cbv) | (refine ChkP.mk (by decide +kernel) ?_; cbv) | (refine br_intro ?_ ?_ <;> intro <;> cbv) | (refine get_at har (by assumption) (by assumption) (by assumption) (by assumption) ?_; cbv) | (refine get_lt har (by assumption) (by assumption) (by assumption) ?_; intro x xx hx hxx; cbv) | (refine get_atN har (by assumption) (by assumption) (by assumption) (by assumption) ?_; cbv) | (refine get_ltN har (by assumption) (by assumption) (by assumption) ?_; intro x xx hx hxx; cbv) | (refine get_atI har (by assumption) (by assumption) (by decide) ?_; cbv) | (refine get_twoA har (by assumption) (by assumption) (by decide) ?_; intro x hx; cbv) | (refine get_twoB har (by assumption) (by assumption) (by decide) ?_; intro x hx; cbv) | (refine bytes_intro (by assumption) ?_; cbv) | (exact side_lt har (by assumption) (by assumption)) | (exact side_inb har (by assumption) (by assumption) (by assumption)) | (exact side_sh har (by decide)) | (exact side_app har (by assumption) (by assumption) (by omega)) | (exact side_app0 har (by assumption) (by omega)) | (exact side_new har (by assumption) (by omega)) | (exact side_one har (by assumption) (by omega)) | (exact side_oneN har (by assumption) (by omega)) | (exact side_flat har (by assumption)) | (exact side_sbig har (by omega)) | (refine side_sbig har ?_; simp; done) | (exact side_oneI har (by assumption) (by omega)) | (refine side_ix har ?_; simp; done) | (refine side_ix har ?_; simp; omega))
    exact ⟨⟨by rw [sufB, heq, decide_eq_true hle]; simp, rfl⟩⟩
  · rename_i h1 _ _ _
    have e : ar.iop .sub .i64 (ar.len es) (ar.len fs) = (b.length : Int) - c.length := by
      subst har; show iopS .sub .i64 (es.length : Int) (fs.length : Int) = _; rw [subI (by omega) (by omega), hl1, hl2]
    have e2 : ar.len es = (b.length : Int) := by subst har; show (es.length : Int) = _; rw [hl1]
    have hle : c.length ≤ b.length := by subst har; simp only [std, icmpS, decide_eq_true_eq] at h1; omega
    exact (show Side (ar.insub (ar.iop .sub .i64 (ar.len es) (ar.len fs)) (ar.len es) es ∧ ar.wid 1 es) by rw [e, e2]; exact side_sub har hl ⟨by omega, by omega, by omega⟩)
  · rename_i h1
    have hle : ¬ c.length ≤ b.length := by subst har; simp only [std, icmpS, decide_eq_false_iff_not] at h1; omega
    exact ⟨⟨by rw [sufB, decide_eq_false hle]; rfl, rfl⟩⟩
end Go.TL.Tryz

/- TfSamR -/
namespace Go.TL.Tryz
open Go Go.TL Go.Proofs
variable {P : Program}

def sameR (m : List (List UInt8)) (t ttl addr : Int) (to : List (List UInt8)) (tx : List UInt8) (nu : List Int) (n : List (List UInt8)) (t2 ttl2 addr2 : Int) (qo : List (List UInt8)) (vx : List UInt8) (nv : List Int) : Bool :=
  rrOk m t ttl addr to tx nu && (rrOk n t2 ttl2 addr2 qo vx nv && (cmpR m t addr to tx nu n t2 addr2 qo vx nv == 0))
theorem get_zero {ar : Ar} (har : ar = std) {e : List T} {i : Int} {K : List T → Prop} (hi : i = 0) (k : K e) : GetP ar [e] i K := by
  subst har; subst hi
  exact ⟨by simp [std], k⟩
end Go.TL.Tryz

/- TfWrd -/
namespace Go.TL.Tryz
open Go Go.TL Go.Proofs
variable {P : Program}

def encS (l : List (List UInt8)) : List (List T) := l.map fun s => [.str s]
theorem encS_len {l : List (List UInt8)} {es : List (List T)} (h : encS l = es) : es.length = l.length := by subst h; simp [encS]
theorem get_word {ar : Ar} (har : ar = std) {l : List (List UInt8)} {es : List (List T)} {i : Int} {K : List T → Prop} (hes : encS l = es) (h : ar.icmp .lss i (ar.len es) = true) (h0 : 0 ≤ i)
    (k : ∀ s : List UInt8, l[i.toNat]? = some s → K [.str s]) : GetP ar es i K := by
  have hl : i.toNat < l.length := by rw [← encS_len hes]; exact lt_len har h h0
  subst har; subst hes
  refine ⟨by simp [std, encS]; omega, ?_⟩
  have := k l[i.toNat] (List.getElem?_eq_getElem hl)
  simpa [std, encS, hl] using this
def joinW : List (List UInt8) → List UInt8
  | [] => []
  | x :: r => x ++ r.flatMap fun s => 32 :: s
theorem join_step {l : List (List UInt8)} {i : Nat} {s : List UInt8} (h : l[i]? = some s) : joinW (l.take (i + 1)) = if i = 0 then s else joinW (l.take i) ++ [32] ++ s := by
  cases l with
  | nil => simp at h
  | cons x r =>
    cases i with
    | zero => simp at h; subst h; simp [joinW]
    | succ j =>
      simp at h
      simp only [List.take_succ_cons, joinW, if_neg (Nat.succ_ne_zero j)]
      rw [List.take_add_one, h]
      simp
theorem join_first {l : List (List UInt8)} : joinW (l.take 0) = [] := by simp [joinW]
theorem side_cat {ar : Ar} (har : ar = std) {a b : List UInt8} (h1 : a.length ≤ 1000000) (h2 : b.length ≤ 1000000) : Side (ar.sbig a ∧ ar.sbig b) := by
  subst har; exact ⟨by simp [std]; omega, by simp [std]; omega⟩
set_option maxRecDepth 20000 in
theorem fn39 : Tryz.prog.funcs[39]? = some Tryz.f39 := rfl
set_option maxHeartbeats 40000000 in
set_option maxRecDepth 3000 in
theorem iWords (hP : Prg P) {l : List (List UInt8)} {ws : List (List T)} (hl : encS l = ws) (hb : ∀ s ∈ l, s.length ≤ 1000) (hn : l.length ≤ 10) : ACall P 39 [.one (.t (.sl ws))] [] (fun r ob => r = .one (.t (.str (joinW l))) ∧ ob = []) := by
  refine acall_fn (md := md) [none] v39 hP.mixed hP.tab (fn_at hP fn39) 1 rfl (by decide +kernel) rfl ?_
  intro ar har
  cbv
  repeat' (first | (intro; cbv) | (with_reducible refine and_side ?_ ?_; rotate_left; try cbv) | (refine ChkP.mk (by decide +kernel) ?_; cbv) | (refine br_intro ?_ ?_ <;> intro <;> cbv) | (refine get_at har (by assumption) (by assumption) (by assumption) (by assumption) ?_; cbv) | (refine get_lt har (by assumption) (by assumption) (by assumption) ?_; intro x xx hx hxx; cbv) | (refine get_atN har (by assumption) (by assumption) (by assumption) (by assumption) ?_; cbv) | (refine get_ltN har (by assumption) (by assumption) (by assumption) ?_; intro x xx hx hxx; cbv) | (refine get_atI har (by assumption) (by assumption) (by decide) ?_; cbv) | (refine get_twoA har (by assumption) (by assumption) (by decide) ?_; intro x hx; cbv) | (refine get_twoB har (by assumption) (by assumption) (by decide) ?_; intro x hx; cbv) | (refine bytes_intro (by assumption) ?_; cbv) | (exact side_lt har (by assumption) (by assumption)) | (exact side_inb har (by assumption) (by assumption) (by assumption)) | (exact side_sh har (by decide)) | (exact side_app har (by assumption) (by assumption) (by omega)) | (exact side_app0 har (by assumption) (by omega)) | (exact side_new har (by assumption) (by omega)) | (exact side_one har (by assumption) (by omega)) | (exact side_oneN har (by assumption) (by omega)) | (exact side_flat har (by assumption)) | (exact side_sbig har (by omega)) | (refine side_sbig har ?_; simp; done) | (exact side_oneI har (by assumption) (by omega)) | (refine side_ix har ?_; simp; done) | (refine side_ix har ?_; simp; omega))
  refine LoopP.mk (List UInt8 × Int) [3, 6, 7, 8] [] (fun x => ⟨[(3, .one (.t (.str x.1))), (6, .one (.t (.sl ws))), (7, .one (.t (.int .i64 (ar.len ws)))), (8, .one (.t (.int .i64 x.2)))], []⟩)
    (fun x => 0 ≤ x.2 ∧ x.2.toNat ≤ l.length ∧ x.1 = joinW (l.take x.2.toNat) ∧ x.1.length ≤ 1001 * x.2.toNat) (fun x => l.length - x.2.toNat) ([], 0) ?e ?f ?g
  case e => kernel_rfl
  case f => exact ⟨Int.le_refl _, by simp, by simp [joinW], by simp⟩
  case g =>
    intro x hx
    obtain ⟨o, i⟩ := x
    have hi0 : 0 ≤ i := hx.1
    have hib : i.toNat ≤ l.length := hx.2.1
    have ho : o = joinW (l.take i.toNat) := hx.2.2.1
    have hol : o.length ≤ 1001 * i.toNat := hx.2.2.2
    clear hx
    cbv
    repeat' (first | (intro; cbv) | (with_reducible refine and_side ?_ ?_; rotate_left; try cbv) | (refine ChkP.mk (by decide +kernel) ?_; cbv) | (refine br_intro ?_ ?_ <;> intro <;> cbv) | (refine get_at har (by assumption) (by assumption) (by assumption) (by assumption) ?_; cbv) | (refine get_lt har (by assumption) (by assumption) (by assumption) ?_; intro x xx hx hxx; cbv) | (refine get_atN har (by assumption) (by assumption) (by assumption) (by assumption) ?_; cbv) | (refine get_ltN har (by assumption) (by assumption) (by assumption) ?_; intro x xx hx hxx; cbv) | (refine get_atI har (by assumption) (by assumption) (by decide) ?_; cbv) | (refine get_twoA har (by assumption) (by assumption) (by decide) ?_; intro x hx; cbv) | (refine get_twoB har (by assumption) (by assumption) (by decide) ?_; intro x hx; cbv) | (refine bytes_intro (by assumption) ?_; cbv) | (exact side_lt har (by assumption) (by assumption)) | (exact side_inb har (by assumption) (by assumption) (by assumption)) | (exact side_sh har (by decide)) | (exact side_app har (by assumption) (by assumption) (by omega)) | (exact side_app0 har (by assumption) (by omega)) | (exact side_new har (by assumption) (by omega)) | (exact side_one har (by assumption) (by omega)) | (exact side_oneN har (by assumption) (by omega)) | (exact side_flat har (by assumption)) | (exact side_sbig har (by omega)) | (refine side_sbig har ?_; simp; done) | (exact side_oneI har (by assumption) (by omega)) | (refine side_ix har ?_; simp; done) | (refine side_ix har ?_; simp; omega))
    · refine get_word har hl (by assumption) hi0 ?_
      intro s hs
      have hsl := hb s (List.mem_of_getElem? hs)
      have hlt := (List.getElem?_eq_some_iff.1 hs).1
      have hst := join_step hs
      rw [← ho] at hst
      cbv
      repeat' (first | (intro; cbv) | (with_reducible refine and_side ?_ ?_; rotate_left; try cbv) | (refine ChkP.mk (by decide +kernel) ?_; cbv) | (refine br_intro ?_ ?_ <;> intro <;> cbv) | (refine get_at har (by assumption) (by assumption) (by assumption) (by assumption) ?_; cbv) | (refine get_lt har (by assumption) (by assumption) (by assumption) ?_; intro x xx hx hxx; cbv) | (refine get_atN har (by assumption) (by assumption) (by assumption) (by assumption) ?_; cbv) | (refine get_ltN har (by assumption) (by assumption) (by assumption) ?_; intro x xx hx hxx; cbv) | (refine get_atI har (by assumption) (by assumption) (by decide) ?_; cbv) | (refine get_twoA har (by assumption) (by assumption) (by decide) ?_; intro x hx; cbv) | (refine get_twoB har (by assumption) (by assumption) (by decide) ?_; intro x hx; cbv) | (refine bytes_intro (by assumption) ?_; cbv) | (exact side_lt har (by assumption) (by assumption)) | (exact side_inb har (by assumption) (by assumption) (by assumption)) | (exact side_sh har (by decide)) | (exact side_app har (by assumption) (by assumption) (by omega)) | (exact side_app0 har (by assumption) (by omega)) | (exact side_new har (by assumption) (by omega)) | (exact side_one har (by assumption) (by omega)) | (exact side_oneN har (by assumption) (by omega)) | (exact side_flat har (by assumption)) | (exact side_sbig har (by omega)) | (refine side_sbig har ?_; simp; done) | (exact side_oneI har (by assumption) (by omega)) | (refine side_ix har ?_; simp; done) | (refine side_ix har ?_; simp; omega))
      · rename_i h1 _
        have hi : 0 < i := by subst har; simp only [std, icmpS, decide_eq_true_eq] at h1; omega
        rw [if_neg (by omega)] at hst
        subst har
        refine ⟨(o ++ [32] ++ s, i + 1), ?_, ⟨by dsimp only; omega, by dsimp only; omega, by dsimp only; rw [← hst, show (i + 1).toNat = i.toNat + 1 by omega], by simp; omega⟩, by dsimp only; omega⟩
        rw [show i + 1 = std.iop .add .i64 i 1 from (addI (by omega) (by omega)).symm]
        kernel_rfl
      · exact side_cat har (by subst har; show (o ++ [32]).length ≤ _; simp; omega) (by omega)
      · exact side_cat har (by omega) (by decide)
      · rename_i h1 _
        have hi : i = 0 := by subst har; simp only [std, icmpS, decide_eq_false_iff_not] at h1; omega
        rw [if_pos (by omega)] at hst
        have ho0 : o = [] := by rw [ho, hi]; rfl
        subst har; subst ho0
        refine ⟨(s, i + 1), ?_, ⟨by dsimp only; omega, by dsimp only; omega, by dsimp only; rw [← hst, show (i + 1).toNat = i.toNat + 1 by omega], by dsimp only; omega⟩, by dsimp only; omega⟩
        rw [show i + 1 = std.iop .add .i64 i 1 from (addI (by omega) (by omega)).symm]
        kernel_rfl
      · exact side_cat har (by omega) (by omega)
    · have hg := ge_len har (by assumption) hi0
      rw [encS_len hl] at hg
      rw [take_all (by omega)] at ho
      exact ⟨⟨by rw [ho], rfl⟩⟩
end Go.TL.Tryz

/- TfShelf -/
namespace Go.Proofs
open Go.Shelf
def Tryz.lays156_ren : Go.Shelf.Ren := ⟨fun | 156 => 196 | 165 => 256 | 166 => 257 | 169 => 258 | 240 => 294 | 241 => 295 | 276 => 318 | 277 => 319 | n => n, fun | 31 => 102 | 9 => 9 | 3 => 3 | 4 => 4 | 0 => 0 | 20 => 20 | 72 => 253 | 76 => 257 | 70 => 251 | 37 => 22 | 75 => 256 | 127 => 289 | 164 => 314 | 5 => 5 | 80 => 103 | n => n, fun | n => n⟩
theorem Tryz.lays156 : Go.Proofs.Lays.n156 Tryz.prog Tryz.lays156_ren := {
  mixed := by kernel_rfl
  f156 := Tryz.func196.trans (congrArg some (by kernel_rfl))
  f165 := Tryz.func256.trans (congrArg some (by kernel_rfl))
  f166 := Tryz.func257.trans (congrArg some (by kernel_rfl))
  f169 := Tryz.func258.trans (congrArg some (by kernel_rfl))
  f240 := Tryz.func294.trans (congrArg some (by kernel_rfl))
  f241 := Tryz.func295.trans (congrArg some (by kernel_rfl))
  f276 := Tryz.func318.trans (congrArg some (by kernel_rfl))
  f277 := Tryz.func319.trans (congrArg some (by kernel_rfl))
  t0 := Tryz.underlying0
  a0 := Tryz.isAgg0
  z0 := Tryz.sizeOf0
  v0 := Tryz.zeroValue0
  t3 := Tryz.underlying3
  a3 := Tryz.isAgg3
  z3 := Tryz.sizeOf3
  v3 := Tryz.zeroValue3
  t4 := Tryz.underlying4
  a4 := Tryz.isAgg4
  z4 := Tryz.sizeOf4
  v4 := Tryz.zeroValue4
  t9 := Tryz.underlying9
  a9 := Tryz.isAgg9
  z9 := Tryz.sizeOf9
  v9 := Tryz.zeroValue9
  t20 := Tryz.underlying20
  a20 := Tryz.isAgg20
  z20 := Tryz.sizeOf20
  v20 := Tryz.zeroValue20
  t31 := Tryz.underlying102
  a31 := Tryz.isAgg102
  z31 := Tryz.sizeOf102
  v31 := Tryz.zeroValue102
  t37 := Tryz.underlying22
  a37 := Tryz.isAgg22
  z37 := Tryz.sizeOf22
  v37 := Tryz.zeroValue22
  t70 := Tryz.underlying251
  a70 := Tryz.isAgg251
  z70 := Tryz.sizeOf251
  v70 := Tryz.zeroValue251
  t72 := Tryz.underlying253
  a72 := Tryz.isAgg253
  z72 := Tryz.sizeOf253
  v72 := Tryz.zeroValue253
  t75 := Tryz.underlying256
  a75 := Tryz.isAgg256
  z75 := Tryz.sizeOf256
  v75 := Tryz.zeroValue256
  t76 := Tryz.underlying257
  a76 := Tryz.isAgg257
  z76 := Tryz.sizeOf257
  v76 := Tryz.zeroValue257
  t127 := Tryz.underlying289
  a127 := Tryz.isAgg289
  z127 := Tryz.sizeOf289
  v127 := Tryz.zeroValue289
  t164 := Tryz.underlying314
  a164 := Tryz.isAgg314
  z164 := Tryz.sizeOf314
  v164 := Tryz.zeroValue314 }
theorem Tryz.Builder_Extra_156 : Builder.Extra Tryz.prog Tryz.lays156_ren := {
  sizeBuilder := by kernel_rfl
  liesBuilder := by kernel_rfl
  t5 := Tryz.underlying5
  a5 := Tryz.isAgg5
  z5 := Tryz.sizeOf5
  v5 := Tryz.zeroValue5
  infoByte := by kernel_rfl
  cellsByte := by kernel_rfl
  sizeByte := by kernel_rfl
  neB5 := by decide }
open Go.RowKit in
/-- No element: the empty string; the world is as it was. (Whatever the slice's address and capacity: a nil slice too.) (LAID: no walk: one application.) -/
theorem Tryz.strings_Join_none (a : Option Addr) (c : Nat) (sep : ByteArray) (w : World) :
    Calls Tryz.prog 196 #[.slice a 0 c, .string sep] w fun e w' => e = .returned (.string ⟨#[]⟩) ∧ w' = w := Any.strings_Join_none Tryz.lays156 Tryz.Builder_Extra_156 a c sep w
open Go.RowKit in
/-- strings.Join: "Join concatenates the elements of its first argument to create a single string. The separator string sep is placed between elements in the resulting string.": HOWEVER MANY ELEMENTS. Below the heap's end the world is as it was. (LAID: no walk: one application.) -/
theorem Tryz.strings_Join (bk o c : Nat) (xs : List ByteArray) (sep : ByteArray) (w : World) (hcells : ∀ (j : Nat) x, xs[j]? = some x → w.cell? ⟨bk, o + j, none⟩ = some (.string x)) (hbk : bk < w.heap.size) (hN : xs.length ≤ 140737488355328) (hcap : xs.length ≤ c) (hlen : (Lib.join (xs.map (·.data.toList)) sep.data.toList).length ≤ 140737488355328) :
    Calls Tryz.prog 196 #[.slice (some ⟨bk, o, none⟩) xs.length c, .string sep] w fun e w' => e = .returned (.string ⟨(Lib.join (xs.map (·.data.toList)) sep.data.toList).toArray⟩) ∧ Below w.heap.size w w' := Any.strings_Join Tryz.lays156 Tryz.Builder_Extra_156 bk o c xs sep w hcells hbk hN hcap hlen
def Tryz.laysM171_ren : Go.Shelf.Ren := ⟨fun | 171 => 40 | 243 => 110 | 246 => 195 | 283 => 252 | 284 => 253 | 285 => 254 | 286 => 255 | 129 => 290 | 317 => 289 | 318 => 291 | 319 => 292 | 320 => 293 | 337 => 316 | 338 => 317 | n => n, fun | 3 => 3 | 9 => 9 | 2 => 2 | 4 => 4 | 171 => 245 | 0 => 0 | 53 => 246 | 37 => 22 | 5 => 5 | 173 => 249 | 212 => 286 | 51 => 259 | 20 => 20 | 213 => 287 | 46 => 152 | 232 => 324 | 233 => 325 | n => n, fun | 17 => 1 | 18 => 4 | 19 => 5 | n => n⟩
theorem Tryz.laysM171 : Go.Proofs.LaysM.n171 Tryz.prog Tryz.laysM171_ren := {
  mixed := by kernel_rfl
  f129 := Tryz.func290.trans (congrArg some (by kernel_rfl))
  f171 := Tryz.func40.trans (congrArg some (by kernel_rfl))
  f243 := Tryz.func110.trans (congrArg some (by kernel_rfl))
  f246 := Tryz.func195.trans (congrArg some (by kernel_rfl))
  f283 := Tryz.func252.trans (congrArg some (by kernel_rfl))
  f284 := Tryz.func253.trans (congrArg some (by kernel_rfl))
  f285 := Tryz.func254.trans (congrArg some (by kernel_rfl))
  f286 := Tryz.func255.trans (congrArg some (by kernel_rfl))
  f317 := Tryz.func289.trans (congrArg some (by kernel_rfl))
  f318 := Tryz.func291.trans (congrArg some (by kernel_rfl))
  f319 := Tryz.func292.trans (congrArg some (by kernel_rfl))
  f320 := Tryz.func293.trans (congrArg some (by kernel_rfl))
  f337 := Tryz.func316.trans (congrArg some (by kernel_rfl))
  f338 := Tryz.func317.trans (congrArg some (by kernel_rfl))
  t0 := Tryz.underlying0
  a0 := Tryz.isAgg0
  z0 := Tryz.sizeOf0
  v0 := Tryz.zeroValue0
  t2 := Tryz.underlying2
  a2 := Tryz.isAgg2
  z2 := Tryz.sizeOf2
  v2 := Tryz.zeroValue2
  t3 := Tryz.underlying3
  a3 := Tryz.isAgg3
  z3 := Tryz.sizeOf3
  v3 := Tryz.zeroValue3
  t4 := Tryz.underlying4
  a4 := Tryz.isAgg4
  z4 := Tryz.sizeOf4
  v4 := Tryz.zeroValue4
  t5 := Tryz.underlying5
  a5 := Tryz.isAgg5
  z5 := Tryz.sizeOf5
  v5 := Tryz.zeroValue5
  t9 := Tryz.underlying9
  a9 := Tryz.isAgg9
  z9 := Tryz.sizeOf9
  v9 := Tryz.zeroValue9
  t20 := Tryz.underlying20
  a20 := Tryz.isAgg20
  z20 := Tryz.sizeOf20
  v20 := Tryz.zeroValue20
  t37 := Tryz.underlying22
  a37 := Tryz.isAgg22
  z37 := Tryz.sizeOf22
  v37 := Tryz.zeroValue22
  t46 := Tryz.underlying152
  a46 := Tryz.isAgg152
  z46 := Tryz.sizeOf152
  v46 := Tryz.zeroValue152
  t51 := Tryz.underlying259
  a51 := Tryz.isAgg259
  z51 := Tryz.sizeOf259
  v51 := Tryz.zeroValue259
  t53 := Tryz.underlying246
  a53 := Tryz.isAgg246
  z53 := Tryz.sizeOf246
  v53 := Tryz.zeroValue246
  t171 := Tryz.underlying245
  a171 := Tryz.isAgg245
  z171 := Tryz.sizeOf245
  v171 := Tryz.zeroValue245
  t173 := Tryz.underlying249
  a173 := Tryz.isAgg249
  z173 := Tryz.sizeOf249
  v173 := Tryz.zeroValue249
  t212 := Tryz.underlying286
  a212 := Tryz.isAgg286
  z212 := Tryz.sizeOf286
  v212 := Tryz.zeroValue286
  t213 := Tryz.underlying287
  a213 := Tryz.isAgg287
  z213 := Tryz.sizeOf287
  t232 := Tryz.underlying324
  a232 := Tryz.isAgg324
  z232 := Tryz.sizeOf324
  v232 := Tryz.zeroValue324
  t233 := Tryz.underlying325
  a233 := Tryz.isAgg325
  z233 := Tryz.sizeOf325
  v233 := Tryz.zeroValue325
  g17 := by kernel_rfl
  g18 := by kernel_rfl
  g19 := by kernel_rfl
  i0 := by kernel_rfl
  i2 := by kernel_rfl
  i3 := by kernel_rfl
  i4 := by kernel_rfl
  i5 := by kernel_rfl
  i9 := by kernel_rfl
  i20 := by kernel_rfl
  i37 := by kernel_rfl
  i46 := by kernel_rfl
  i51 := by kernel_rfl
  i53 := by kernel_rfl
  i171 := by kernel_rfl
  i173 := by kernel_rfl
  i212 := by kernel_rfl
  i232 := by kernel_rfl
  i233 := by kernel_rfl
  m17 := by kernel_rfl
  m18 := by kernel_rfl
  m19 := by kernel_rfl }
open Go.RowKit Go.Sort Go.Lib in
/-- strconv.Itoa: "Itoa is equivalent to FormatInt(int64(i), 10).": i's DECIMAL NUMERAL ('Lib.itoa': a '-' where i is negative, then the digits), FOR EVERY int. The world behind the call: the world before it, new blocks behind the heap (the library's 'var a [24]byte'), draws. (LAID: no walk: one application.) -/
theorem Tryz.strconv_Itoa (n : Int) (h0 : -9223372036854775808 ≤ n) (h1 : n ≤ 9223372036854775807) (w : World) (htab : Lib.TabIs Tryz.prog w "internal/strconv.uint64pow10" .u64 Lib.pow10Tab) :
    Calls Tryz.prog 40 #[.int .i64 n] w fun e w' => e = .returned (.string ⟨(Lib.itoa n).toArray⟩) ∧ ∃ k os, w' = grow (w.drewN k) os := Any.strconv_Itoa Tryz.laysM171 n h0 h1 w htab
def Tryz.lays185_ren : Go.Shelf.Ren := ⟨fun | 185 => 249 | 187 => 284 | 115 => 222 | 253 => 285 | 224 => 286 | 254 => 287 | 255 => 314 | 291 => 315 | n => n, fun | 37 => 22 | 3 => 3 | 4 => 4 | 0 => 0 | 5 => 5 | 46 => 152 | 9 => 9 | 146 => 311 | 51 => 259 | n => n, fun | 1 => 0 | n => n⟩
theorem Tryz.lays185 : Go.Proofs.Lays.n185 Tryz.prog Tryz.lays185_ren := {
  mixed := by kernel_rfl
  f115 := Tryz.func222.trans (congrArg some (by kernel_rfl))
  f185 := Tryz.func249.trans (congrArg some (by kernel_rfl))
  f187 := Tryz.func284.trans (congrArg some (by kernel_rfl))
  f224 := Tryz.func286.trans (congrArg some (by kernel_rfl))
  f253 := Tryz.func285.trans (congrArg some (by kernel_rfl))
  f254 := Tryz.func287.trans (congrArg some (by kernel_rfl))
  f255 := Tryz.func314.trans (congrArg some (by kernel_rfl))
  f291 := Tryz.func315.trans (congrArg some (by kernel_rfl))
  t0 := Tryz.underlying0
  a0 := Tryz.isAgg0
  z0 := Tryz.sizeOf0
  v0 := Tryz.zeroValue0
  t3 := Tryz.underlying3
  a3 := Tryz.isAgg3
  z3 := Tryz.sizeOf3
  v3 := Tryz.zeroValue3
  t4 := Tryz.underlying4
  a4 := Tryz.isAgg4
  z4 := Tryz.sizeOf4
  v4 := Tryz.zeroValue4
  t5 := Tryz.underlying5
  a5 := Tryz.isAgg5
  z5 := Tryz.sizeOf5
  v5 := Tryz.zeroValue5
  t9 := Tryz.underlying9
  a9 := Tryz.isAgg9
  z9 := Tryz.sizeOf9
  v9 := Tryz.zeroValue9
  t37 := Tryz.underlying22
  a37 := Tryz.isAgg22
  z37 := Tryz.sizeOf22
  v37 := Tryz.zeroValue22
  t46 := Tryz.underlying152
  a46 := Tryz.isAgg152
  z46 := Tryz.sizeOf152
  v46 := Tryz.zeroValue152
  t51 := Tryz.underlying259
  a51 := Tryz.isAgg259
  z51 := Tryz.sizeOf259
  v51 := Tryz.zeroValue259
  t146 := Tryz.underlying311
  a146 := Tryz.isAgg311
  z146 := Tryz.sizeOf311
  v146 := Tryz.zeroValue311
  g1 := by kernel_rfl }
open Go.RowKit Go.Lib in
/-- bytes.Index at a separator of one byte: "Index returns the index of the first instance of sep in s, or -1 if sep is not present in s.": 'Lib.indexByte' of s's bytes and that byte; the world is as it was. 'xs': s's elements; 'cv': the separator's one byte. (LAID: no walk: one application.) -/
theorem Tryz.bytes_Index_one (b o n c b2 o2 d : Nat) (xs : List Int) (cv : Int) (w : World) (hx : xs.length = n) (hc : ∀ i, i < n → w.cell? ⟨b, o + i, none⟩ = some (.int .u8 (xs.getD i 0))) (hc2 : w.cell? ⟨b2, o2, none⟩ = some (.int .u8 cv)) :
    Calls Tryz.prog 249 #[.slice (some ⟨b, o, none⟩) n c, .slice (some ⟨b2, o2, none⟩) 1 d] w fun e w' => e = .returned (.int .i64 (Lib.indexByte (Lib.bytesOf xs) cv.toNat.toUInt8)) ∧ w' = w := Any.bytes_Index_one Tryz.lays185 b o n c b2 o2 d xs cv w hx hc hc2
open Go.RowKit Go.Lib in
/-- The same where s is nil: -1. (LAID: no walk: one application.) -/
theorem Tryz.bytes_Index_one_nil (b2 o2 d : Nat) (cv : Int) (w : World) (hc2 : w.cell? ⟨b2, o2, none⟩ = some (.int .u8 cv)) :
    Calls Tryz.prog 249 #[.slice none 0 0, .slice (some ⟨b2, o2, none⟩) 1 d] w fun e w' => e = .returned (.int .i64 (-1)) ∧ w' = w := Any.bytes_Index_one_nil Tryz.lays185 b2 o2 d cv w hc2
def Tryz.laysSlB13_ren : Go.Shelf.Ren := ⟨fun | 13 => 248 | 24 => 282 | 25 => 283 | 12 => 249 | 31 => 313 | 19 => 284 | 20 => 222 | 21 => 285 | 22 => 286 | 23 => 287 | 29 => 314 | 30 => 315 | n => n, fun | 22 => 22 | 3 => 3 | 4 => 4 | 0 => 0 | 5 => 5 | 9 => 9 | 33 => 152 | 40 => 311 | 39 => 259 | n => n, fun | 0 => 0 | n => n⟩
theorem Tryz.laysSlB13 : Go.Proofs.SlLaysB.n13 Tryz.prog Tryz.laysSlB13_ren := {
  mixed := by kernel_rfl
  f13 := Tryz.func248.trans (congrArg some (by kernel_rfl))
  f25 := Tryz.func283.trans (congrArg some (by kernel_rfl))
  t0 := Tryz.underlying0
  a0 := Tryz.isAgg0
  z0 := Tryz.sizeOf0
  v0 := Tryz.zeroValue0
  t3 := Tryz.underlying3
  a3 := Tryz.isAgg3
  z3 := Tryz.sizeOf3
  v3 := Tryz.zeroValue3
  t4 := Tryz.underlying4
  a4 := Tryz.isAgg4
  z4 := Tryz.sizeOf4
  v4 := Tryz.zeroValue4
  t5 := Tryz.underlying5
  a5 := Tryz.isAgg5
  z5 := Tryz.sizeOf5
  v5 := Tryz.zeroValue5
  t22 := Tryz.underlying22
  a22 := Tryz.isAgg22
  z22 := Tryz.sizeOf22
  v22 := Tryz.zeroValue22 }
open Go.RowKit Go.Lib in
/-- bytes.Count at a separator of one byte: "Count counts the number of non-overlapping instances of sep in s.": how often that byte stands among s's ('Lib.countByte': 'List.count'); the world is as it was. 'xs': s's elements; 'cv': the separator's one byte. (LAID: no walk: one application.) -/
theorem Tryz.bytes_Count_one (b o n c b2 o2 d : Nat) (xs : List Int) (cv : Int) (w : World) (hx : xs.length = n) (hc : ∀ i, i < n → w.cell? ⟨b, o + i, none⟩ = some (.int .u8 (xs.getD i 0))) (hc2 : w.cell? ⟨b2, o2, none⟩ = some (.int .u8 cv)) :
    Calls Tryz.prog 248 #[.slice (some ⟨b, o, none⟩) n c, .slice (some ⟨b2, o2, none⟩) 1 d] w fun e w' => e = .returned (.int .i64 (Lib.countByte (Lib.bytesOf xs) cv.toNat.toUInt8)) ∧ w' = w := Any.bytes_Count_one Tryz.laysSlB13 b o n c b2 o2 d xs cv w hx hc hc2
open Go.RowKit Go.Lib in
/-- The same where s is nil: 0. (LAID: no walk: one application.) -/
theorem Tryz.bytes_Count_one_nil (b2 o2 d : Nat) (cv : Int) (w : World) (hc2 : w.cell? ⟨b2, o2, none⟩ = some (.int .u8 cv)) :
    Calls Tryz.prog 248 #[.slice none 0 0, .slice (some ⟨b2, o2, none⟩) 1 d] w fun e w' => e = .returned (.int .i64 0) ∧ w' = w := Any.bytes_Count_one_nil Tryz.laysSlB13 b2 o2 d cv w hc2
end Go.Proofs
