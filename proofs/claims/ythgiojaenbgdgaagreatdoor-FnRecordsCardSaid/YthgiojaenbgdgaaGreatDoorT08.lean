/- Texts of a proof, joined by a program (merge.py): TfRrOkI TfPutI TfOrdS TfCopI TfSamR TfWrd TfShelf TfItoT TfTrm TfSpxI TfSplI. -/
import Derived.Test.YthgiojaenbgdgaaGreatDoorT07
import Derived.Shelf.Strings.Builder1
import Derived.Shelf.Strings.Builder2
import Derived.Shelf.Strings.OnBuilder
import Derived.Shelf.Utf8.RuneCount
import Derived.Shelf.Strconv.Itoa0
import Derived.Shelf.Strconv.Itoa1
import Derived.Shelf.LaysM
import Derived.Shelf.Strconv.Itoa2
import Derived.Shelf.Strconv.Itoa3
import Derived.Shelf.Strings.Search1
import Derived.Shelf.Strings.RuneCount
import Derived.Shelf.Bits.Mul64
import Derived.Ground.Names2Prog
import Derived.Shelf.Slices.ReverseS
import Derived.Shelf.Slices.SearchI
import Derived.Shelf.Slices.Cells
import Derived.Shelf.Bytes.SlIndexSmall
import Derived.Ground.SlbNamesProg
import Derived.Shelf.Bytes.SlCountOne
import Derived.Shelf.Bytes.SlIndexAt
import Derived.Shelf.Bytes.SlSearch0
import Derived.Shelf.Bytes.SlSearch1
import Derived.Shelf.Bytes.Small
import Derived.Shelf.Bytes.IndexByte
import Derived.Test.YthgiojaenbgdgaaGreatDoorProg
import Derived.Lib.ItoaLen
import Derived.Lib.IndexLaws
set_option linter.all false
/- TfRrOkI -/
namespace Go.TL.Tryz
open Go Go.TL Go.Proofs
variable {P : Program}
set_option maxRecDepth 20000 in
theorem fn8 : Tryz.prog.funcs[8]? = some Tryz.f8 := rfl
set_option maxHeartbeats 40000000 in
set_option maxRecDepth 3000 in
theorem iRrOk (hP : Prg P) {n to : List (List UInt8)} {ns tos txs nus : List (List T)} {t ttl addr : Int} {tx : List UInt8} {nu : List Int} (hn : encN n = ns) (hto : encN to = tos) (htx : encB tx = txs) (hnu : encI nu = nus) :
    ACall P 8 [.agg [.t (.sl ns), .t (.int .i64 t), .t (.int .i64 ttl), .t (.int .i64 addr), .t (.sl tos), .t (.sl txs), .t (.sl nus)]] []
      (fun r ob => r = .one (.t (.bool (rrOk n t ttl addr to tx nu))) ∧ ob = []) := by
  refine acall_fn (md := md) [none] v8 hP.mixed hP.tab (fn_at hP fn8) 1 rfl (by decide +kernel) rfl ?_
  intro ar har
  cbv
  have hz : to.length = 0 → nameOk to = true := by intro h; rw [List.eq_nil_of_length_eq_zero h]; rfl
  repeat' (first | (intro; cbv) | (with_reducible refine and_side ?_ ?_; rotate_left; try cbv) | (refine ChkP.mk (by rfl) ?_; cbv) | (refine br_intro ?_ ?_ <;> intro <;> cbv) | (refine get_at har (by assumption) (by assumption) (by assumption) (by assumption) ?_; cbv) | (refine get_lt har (by assumption) (by assumption) (by assumption) ?_; intro x xx hx hxx; cbv) | (refine get_atN har (by assumption) (by assumption) (by assumption) (by assumption) ?_; cbv) | (refine get_ltN har (by assumption) (by assumption) (by assumption) ?_; intro x xx hx hxx; cbv) | (refine get_atI har (by assumption) (by assumption) (by decide) ?_; cbv) | (refine get_twoA har (by assumption) (by assumption) (by decide) ?_; intro x hx; cbv) | (refine get_twoB har (by assumption) (by assumption) (by decide) ?_; intro x hx; cbv) | (refine bytes_intro (by assumption) ?_; cbv) | (exact side_lt har (by assumption) (by assumption)) | (exact side_inb har (by assumption) (by assumption) (by assumption)) | (exact side_sh har (by decide)) | (exact side_app har (by assumption) (by assumption) (by omega)) | (exact side_app0 har (by assumption) (by omega)) | (exact side_new har (by assumption) (by omega)) | (exact side_one har (by assumption) (by omega)) | (exact side_oneN har (by assumption) (by omega)) | (exact side_flat har (by assumption)) | (exact side_sbig har (by omega)) | (refine side_sbig har ?_; simp; done) | (exact side_oneI har (by assumption) (by omega)) | (refine side_ix har ?_; simp; done) | (refine side_ix har ?_; simp; omega) | (refine call_intro (iNameOk hP (by assumption)) ?_; rintro r ob ⟨rfl, rfl⟩; generalize hno : nameOk _ = no; cbv) | (refine calld_intro (iNameOk hP (by assumption)) ?_; generalize hno : nameOk _ = no; cbv) | (refine call_intro (iTypeOk hP) ?_; rintro r ob ⟨rfl, rfl⟩; generalize hty : typeB _ = ty; cbv) | (refine calld_intro (iTypeOk hP) ?_; generalize hty : typeB _ = ty; cbv) | (refine call_intro (iWithin hP) ?_; rintro r ob ⟨rfl, rfl⟩; generalize hwi : withinB _ _ _ = wi; cbv) | (refine calld_intro (iWithin hP) ?_; generalize hwi : withinB _ _ _ = wi; cbv) | (refine call_intro (iIsWord hP) ?_; rintro r ob ⟨rfl, rfl⟩; generalize hiw : isWordB _ = iw; cbv) | (refine calld_intro (iIsWord hP) ?_; generalize hiw : isWordB _ = iw; cbv) | (refine call_intro (iHasTo hP) ?_; rintro r ob ⟨rfl, rfl⟩; generalize hht : namedB _ = ht; cbv) | (refine calld_intro (iHasTo hP) ?_; generalize hht : namedB _ = ht; cbv) | (refine call_intro (iHasText hP) ?_; rintro r ob ⟨rfl, rfl⟩; generalize hhx : textB _ = hx1; cbv) | (refine calld_intro (iHasText hP) ?_; generalize hhx : textB _ = hx1; cbv))
  all_goals have hlen1 := encN_len hto
  all_goals have hlen2 := encB_len htx
  all_goals have hlen3 := encI_len hnu
  all_goals try (subst har; simp only [std, icmpS, decide_eq_true_eq, decide_eq_false_iff_not, Bool.not_eq_true', Bool.not_eq_false', bne_iff_ne, ne_eq, bne_eq_false_iff_eq, beq_iff_eq, beq_eq_false_iff_ne, Int.not_lt, Int.not_le, Bool.not_true, Bool.not_false, reduceCtorEq] at *)
  all_goals (refine ⟨⟨?_, rfl⟩⟩; simp_all [rrOk, dataOk, numsOk, isWordB, withinB, List.getD, -List.length_eq_zero_iff])
  all_goals first
    | (intros; omega)
    | (rw [Bool.eq_iff_iff]; simp [-List.length_eq_zero_iff]; omega)
    | grind
end Go.TL.Tryz

/- TfPutI -/
namespace Go.TL.Tryz
open Go Go.TL Go.Proofs
variable {P : Program}

set_option maxRecDepth 20000 in
theorem fn11 : Tryz.prog.funcs[11]? = some Tryz.f11 := rfl
set_option maxHeartbeats 40000000 in
set_option maxRecDepth 3000 in
theorem iDataPut (hP : Prg P) {n to : List (List UInt8)} {ns tos txs nus : List (List T)} {t ttl addr : Int} {tx : List UInt8} {nu : List Int} (hn : encN n = ns) (hto : encN to = tos) (htob : NmB to) (htx : encB tx = txs) (htxl : tx.length ≤ 500) (hnu : encI nu = nus) (hnul : nu.length ≤ 10) :
    ACall P 11 [.agg [.t (.sl ns), .t (.int .i64 t), .t (.int .i64 ttl), .t (.int .i64 addr), .t (.sl tos), .t (.sl txs), .t (.sl nus)]] []
      (fun r ob => r = .tup [.one (.row 32 0), .one (.t (.bool (rrOk n t ttl addr to tx nu)))] ∧ ob = [(32, .row 1 (encB (if rrOk n t ttl addr to tx nu then dataI t addr to tx nu else [])) 0 [0] false)]) := by
  refine acall_fn (md := md) [some [(0, 1)], none] v11 hP.mixed hP.tab (fn_at hP fn11) 1 rfl (by decide +kernel) rfl ?_
  intro ar har
  cbv
  repeat' (first | (intro; cbv) | (with_reducible refine and_side ?_ ?_; rotate_left; try cbv) | (refine ChkP.mk (by rfl) ?_; cbv) | (refine br_intro ?_ ?_ <;> intro <;> cbv) | (refine get_at har (by assumption) (by assumption) (by assumption) (by assumption) ?_; cbv) | (refine get_lt har (by assumption) (by assumption) (by assumption) ?_; intro x xx hx hxx; cbv) | (refine get_atN har (by assumption) (by assumption) (by assumption) (by assumption) ?_; cbv) | (refine get_ltN har (by assumption) (by assumption) (by assumption) ?_; intro x xx hx hxx; cbv) | (refine get_atI har (by assumption) (by assumption) (by decide) ?_; cbv) | (refine get_twoA har (by assumption) (by assumption) (by decide) ?_; intro x hx; cbv) | (refine get_twoB har (by assumption) (by assumption) (by decide) ?_; intro x hx; cbv) | (refine bytes_intro (by assumption) ?_; cbv) | (exact side_lt har (by assumption) (by assumption)) | (exact side_inb har (by assumption) (by assumption) (by assumption)) | (exact side_sh har (by decide)) | (exact side_app har (by assumption) (by assumption) (by omega)) | (exact side_app0 har (by assumption) (by omega)) | (exact side_new har (by assumption) (by omega)) | (exact side_one har (by assumption) (by omega)) | (exact side_oneN har (by assumption) (by omega)) | (exact side_flat har (by assumption)) | (exact side_sbig har (by omega)) | (refine side_sbig har ?_; simp; done) | (exact side_oneI har (by assumption) (by omega)) | (refine side_ix har ?_; simp; done) | (refine side_ix har ?_; simp; omega) | (refine call_intro (iRrOk hP (by assumption) (by assumption) (by assumption) (by assumption)) ?_; rintro r ob ⟨rfl, rfl⟩; generalize hro : rrOk _ _ _ _ _ _ _ = ro; cbv) | (refine calld_intro (iRrOk hP (by assumption) (by assumption) (by assumption) (by assumption)) ?_; generalize hro : rrOk _ _ _ _ _ _ _ = ro; cbv) | (refine call_intro (iData hP (by assumption) (by assumption) (by assumption) (by omega) (by assumption) (by omega)) ?_; rintro r ob ⟨rfl, rfl⟩; generalize hdi : encB (dataI _ _ _ _ _) = di; cbv) | (refine calld_intro (iData hP (by assumption) (by assumption) (by assumption) (by omega) (by assumption) (by omega)) ?_; generalize hdi : encB (dataI _ _ _ _ _) = di; cbv))
  · have h1 : ro = false := by rename_i h; subst har; simpa [std] using h
    subst h1
    exact ⟨⟨rfl, rfl⟩⟩
  · have h1 : ro = true := by rename_i h; subst har; simpa [std] using h
    subst h1
    exact ⟨⟨rfl, by rw [if_pos rfl, hdi]⟩⟩
theorem rrI_len {n to : List (List UInt8)} {t ttl addr : Int} {tx : List UInt8} {nu : List Int} (hnb : NmB n) (htob : NmB to) (htxl : tx.length ≤ 500) (hnul : nu.length ≤ 10) : (rrI n t ttl addr to tx nu).length ≤ 1000 := by
  have h1 := wireN_len hnb
  have h2 := dataI_len (t := t) (addr := addr) htob htxl hnul
  simp only [rrI, catB, List.flatMap_cons, List.flatMap_nil, List.length_append, id, List.length_nil, fourB_len]
  have h3 : ∀ n : Int, (twoB n).length = 2 := fun _ => rfl
  rw [h3, h3, h3]
  omega
set_option maxRecDepth 20000 in
theorem fn6 : Tryz.prog.funcs[6]? = some Tryz.f6 := rfl
set_option maxHeartbeats 40000000 in
set_option maxRecDepth 3000 in
theorem iRrPut (hP : Prg P) {l : List UInt8} {ls : List (List T)} {n to : List (List UInt8)} {ns tos txs nus : List (List T)} {t ttl addr : Int} {tx : List UInt8} {nu : List Int} (hl : encB l = ls) (hll : l.length ≤ 400) (hn : encN n = ns) (hnb : NmB n) (hto : encN to = tos) (htob : NmB to) (htx : encB tx = txs) (htxl : tx.length ≤ 500) (hnu : encI nu = nus) (hnul : nu.length ≤ 10) :
    ACall P 6 [.one (.t (.sl ls)), .agg [.t (.sl ns), .t (.int .i64 t), .t (.int .i64 ttl), .t (.int .i64 addr), .t (.sl tos), .t (.sl txs), .t (.sl nus)]] []
      (fun r ob => r = .tup [.one (.row 32 0), .one (.t (.bool (rrOk n t ttl addr to tx nu)))] ∧ ob = [(32, .row 1 (encB (if rrOk n t ttl addr to tx nu then catB [l, rrI n t ttl addr to tx nu] else [])) 0 [0] false)]) := by
  refine acall_fn (md := md) [some [(0, 1)], none] v6 hP.mixed hP.tab (fn_at hP fn6) 2 rfl (by decide +kernel) rfl ?_
  intro ar har
  cbv
  repeat' (first | (intro; cbv) | (with_reducible refine and_side ?_ ?_; rotate_left; try cbv) | (refine ChkP.mk (by rfl) ?_; cbv) | (refine br_intro ?_ ?_ <;> intro <;> cbv) | (refine get_at har (by assumption) (by assumption) (by assumption) (by assumption) ?_; cbv) | (refine get_lt har (by assumption) (by assumption) (by assumption) ?_; intro x xx hx hxx; cbv) | (refine get_atN har (by assumption) (by assumption) (by assumption) (by assumption) ?_; cbv) | (refine get_ltN har (by assumption) (by assumption) (by assumption) ?_; intro x xx hx hxx; cbv) | (refine get_atI har (by assumption) (by assumption) (by decide) ?_; cbv) | (refine get_twoA har (by assumption) (by assumption) (by decide) ?_; intro x hx; cbv) | (refine get_twoB har (by assumption) (by assumption) (by decide) ?_; intro x hx; cbv) | (refine bytes_intro (by assumption) ?_; cbv) | (exact side_lt har (by assumption) (by assumption)) | (exact side_inb har (by assumption) (by assumption) (by assumption)) | (exact side_sh har (by decide)) | (exact side_app har (by assumption) (by assumption) (by omega)) | (exact side_app0 har (by assumption) (by omega)) | (exact side_new har (by assumption) (by omega)) | (exact side_one har (by assumption) (by omega)) | (exact side_oneN har (by assumption) (by omega)) | (exact side_flat har (by assumption)) | (exact side_sbig har (by omega)) | (refine side_sbig har ?_; simp; done) | (exact side_oneI har (by assumption) (by omega)) | (refine side_ix har ?_; simp; done) | (refine side_ix har ?_; simp; omega) | (refine call_intro (iRrOk hP (by assumption) (by assumption) (by assumption) (by assumption)) ?_; rintro r ob ⟨rfl, rfl⟩; generalize hro : rrOk _ _ _ _ _ _ _ = ro; cbv) | (refine calld_intro (iRrOk hP (by assumption) (by assumption) (by assumption) (by assumption)) ?_; generalize hro : rrOk _ _ _ _ _ _ _ = ro; cbv) | (refine call_intro (iRrWire hP (by assumption) (by assumption) (by assumption) (by assumption) (by assumption) (by omega) (by assumption) (by omega)) ?_; rintro r ob ⟨rfl, rfl⟩; generalize hrw : encB (rrI _ _ _ _ _ _ _) = rw1; cbv) | (refine calld_intro (iRrWire hP (by assumption) (by assumption) (by assumption) (by assumption) (by assumption) (by omega) (by assumption) (by omega)) ?_; generalize hrw : encB (rrI _ _ _ _ _ _ _) = rw1; cbv))
  · have h1 : ro = false := by rename_i h; subst har; simpa [std] using h
    subst h1
    exact ⟨⟨rfl, rfl⟩⟩
  · have h1 : ro = true := by rename_i h; subst har; simpa [std] using h
    subst h1
    have hrl := rrI_len (t := t) (ttl := ttl) (addr := addr) hnb htob htxl hnul
    refine call_intro (iConcat hP (n := [l, rrI n t ttl addr to tx nu]) ?_ (by simp) ?_) ?_
    · simp only [encN, List.map_cons, List.map_nil, hl, hrw]
    · intro x hx
      simp only [List.mem_cons, List.not_mem_nil, or_false] at hx
      rcases hx with rfl | rfl
      · omega
      · exact hrl
    rintro r ob ⟨rfl, rfl⟩
    generalize hcat : encB (catB _) = cat1
    cbv
    repeat' (first | (intro; cbv) | (with_reducible refine and_side ?_ ?_; rotate_left; try cbv) | (refine ChkP.mk (by rfl) ?_; cbv) | (refine br_intro ?_ ?_ <;> intro <;> cbv) | (refine get_at har (by assumption) (by assumption) (by assumption) (by assumption) ?_; cbv) | (refine get_lt har (by assumption) (by assumption) (by assumption) ?_; intro x xx hx hxx; cbv) | (refine get_atN har (by assumption) (by assumption) (by assumption) (by assumption) ?_; cbv) | (refine get_ltN har (by assumption) (by assumption) (by assumption) ?_; intro x xx hx hxx; cbv) | (refine get_atI har (by assumption) (by assumption) (by decide) ?_; cbv) | (refine get_twoA har (by assumption) (by assumption) (by decide) ?_; intro x hx; cbv) | (refine get_twoB har (by assumption) (by assumption) (by decide) ?_; intro x hx; cbv) | (refine bytes_intro (by assumption) ?_; cbv) | (exact side_lt har (by assumption) (by assumption)) | (exact side_inb har (by assumption) (by assumption) (by assumption)) | (exact side_sh har (by decide)) | (exact side_app har (by assumption) (by assumption) (by omega)) | (exact side_app0 har (by assumption) (by omega)) | (exact side_new har (by assumption) (by omega)) | (exact side_one har (by assumption) (by omega)) | (exact side_oneN har (by assumption) (by omega)) | (exact side_flat har (by assumption)) | (exact side_sbig har (by omega)) | (refine side_sbig har ?_; simp; done) | (exact side_oneI har (by assumption) (by omega)) | (refine side_ix har ?_; simp; done) | (refine side_ix har ?_; simp; omega))
    exact ⟨⟨rfl, by rw [if_pos rfl, hcat]⟩⟩
end Go.TL.Tryz

/- TfOrdS -/
namespace Go.TL.Tryz
open Go Go.TL Go.Proofs
variable {P : Program}

def cmpR (m : List (List UInt8)) (t addr : Int) (to : List (List UInt8)) (tx : List UInt8) (nu : List Int) (n : List (List UInt8)) (t2 addr2 : Int) (qo : List (List UInt8)) (vx : List UInt8) (nv : List Int) : Int :=
  if cmpN m n = 0 then (if cmpI t t2 = 0 then cmpB (dataS t addr to tx nu) (dataS t2 addr2 qo vx nv) else cmpI t t2) else cmpN m n
theorem rrOk_facts {n to : List (List UInt8)} {t ttl addr : Int} {tx : List UInt8} {nu : List Int} (h : rrOk n t ttl addr to tx nu = true) : NmB n ∧ NmB to ∧ tx.length ≤ 40 ∧ (t = 6 → nu.length = 2) ∧ nu.length ≤ 2 := by
  simp only [rrOk, dataOk, numsOk, Bool.and_eq_true] at h
  obtain ⟨h1, _, _, _, h2, h3, h4⟩ := h
  refine ⟨nmB_ok h1, ?_, ?_, ?_, ?_⟩
  · split at h2
    · exact nmB_ok h2
    · have : to = [] := List.eq_nil_of_length_eq_zero (by simpa using h2)
      subst this; exact ⟨by simp, by simp⟩
  · split at h3
    · simpa using h3
    · have : tx.length = 0 := by simpa using h3
      omega
  · intro e
    rw [if_pos e] at h4
    simp only [Bool.and_eq_true, decide_eq_true_eq] at h4
    exact h4.1
  · split at h4
    · simp only [Bool.and_eq_true, decide_eq_true_eq] at h4
      omega
    · have : nu.length = 0 := by simpa using h4
      omega
set_option maxRecDepth 20000 in
theorem fn99 : Tryz.prog.funcs[99]? = some Tryz.f99 := rfl
set_option maxHeartbeats 40000000 in
set_option maxRecDepth 3000 in
theorem sl3cmp (hP : Prg P) {m n to qo : List (List UInt8)} {ms ns tos qos txs nus ux vs : List (List T)} {t ttl addr t2 ttl2 addr2 : Int} {tx vx : List UInt8} {nu nv : List Int} (hm : encN m = ms) (hn : encN n = ns) (hml : m.length ≤ 1000) (hnl : n.length ≤ 1000)
   (hto : encN to = tos) (htob : NmB to) (htx : encB tx = txs) (htxl : tx.length ≤ 500) (hnu : encI nu = nus) (hnu6 : t = 6 → nu.length = 2)
   (hqo : encN qo = qos) (hqob : NmB qo) (hvx : encB vx = ux) (hvxl : vx.length ≤ 500) (hnv : encI nv = vs) (hnv6 : t2 = 6 → nv.length = 2) :
   ACall P 99 [.agg [.t (.sl ms), .t (.int .i64 t), .t (.int .i64 ttl), .t (.int .i64 addr), .t (.sl tos), .t (.sl txs), .t (.sl nus)], .agg [.t (.sl ns), .t (.int .i64 t2), .t (.int .i64 ttl2), .t (.int .i64 addr2), .t (.sl qos), .t (.sl ux), .t (.sl vs)]] []
     (fun r ob => r = .one (.t (.int .i64 (cmpR m t addr to tx nu n t2 addr2 qo vx nv))) ∧ ob = []) := by
  refine acall_fn (md := md) [none] v99 hP.mixed hP.tab (fn_at hP fn99) 2 rfl (by decide +kernel) rfl ?_
  intro ar har
  cbv
  repeat' (first | (intro; cbv) | (with_reducible refine and_side ?_ ?_; rotate_left; try cbv) | (refine ChkP.mk (by rfl) ?_; cbv) | (refine br_intro ?_ ?_ <;> intro <;> cbv) | (refine get_at har (by assumption) (by assumption) (by assumption) (by assumption) ?_; cbv) | (refine get_lt har (by assumption) (by assumption) (by assumption) ?_; intro x xx hx hxx; cbv) | (refine get_atN har (by assumption) (by assumption) (by assumption) (by assumption) ?_; cbv) | (refine get_ltN har (by assumption) (by assumption) (by assumption) ?_; intro x xx hx hxx; cbv) | (refine get_atI har (by assumption) (by assumption) (by decide) ?_; cbv) | (refine get_twoA har (by assumption) (by assumption) (by decide) ?_; intro x hx; cbv) | (refine get_twoB har (by assumption) (by assumption) (by decide) ?_; intro x hx; cbv) | (refine bytes_intro (by assumption) ?_; cbv) | (exact side_lt har (by assumption) (by assumption)) | (exact side_inb har (by assumption) (by assumption) (by assumption)) | (exact side_sh har (by decide)) | (exact side_app har (by assumption) (by assumption) (by omega)) | (exact side_app0 har (by assumption) (by omega)) | (exact side_new har (by assumption) (by omega)) | (exact side_one har (by assumption) (by omega)) | (exact side_oneN har (by assumption) (by omega)) | (exact side_flat har (by assumption)) | (exact side_sbig har (by omega)) | (refine side_sbig har ?_; simp; done) | (exact side_oneI har (by assumption) (by omega)) | (refine side_ix har ?_; simp; done) | (refine side_ix har ?_; simp; omega) | (refine call_intro (sl2cmp hP (by assumption) (by assumption) (by omega) (by omega)) ?_; rintro r ob ⟨rfl, rfl⟩; generalize hcn : cmpN _ _ = cn; cbv) | (refine calld_intro (sl2cmp hP (by assumption) (by assumption) (by omega) (by omega)) ?_; generalize hcn : cmpN _ _ = cn; cbv) | (refine call_intro (sl3num hP) ?_; rintro r ob ⟨rfl, rfl⟩; generalize hcm : cmpI _ _ = cm; cbv) | (refine calld_intro (sl3num hP) ?_; generalize hcm : cmpI _ _ = cm; cbv) | (refine call_intro (sl3put hP (by assumption) (by assumption) (by assumption) (by omega) (by assumption) (by first | assumption | omega)) ?_; rintro r ob ⟨rfl, rfl⟩; generalize hld : encB (dataS _ _ _ _ _) = ld; cbv) | (refine calld_intro (sl3put hP (by assumption) (by assumption) (by assumption) (by omega) (by assumption) (by first | assumption | omega)) ?_; generalize hld : encB (dataS _ _ _ _ _) = ld; cbv) | (refine call_intro (sl2bytes hP (by assumption) (by assumption)) ?_; rintro r ob ⟨rfl, rfl⟩; generalize hcm : cmpB _ _ = cm; cbv) | (refine calld_intro (sl2bytes hP (by assumption) (by assumption)) ?_; generalize hcm : cmpB _ _ = cm; cbv))
  all_goals subst har; simp only [std, icmpS, decide_eq_true_eq, decide_eq_false_iff_not, Bool.not_eq_true', Bool.not_eq_false', bne_iff_ne, ne_eq, bne_eq_false_iff_eq, beq_iff_eq, beq_eq_false_iff_ne, Int.not_lt, Int.not_le, Bool.not_true, Bool.not_false, reduceCtorEq] at *
  all_goals first
    | (exfalso; omega)
    | (refine ⟨⟨?_, rfl⟩⟩; simp_all [cmpR]; done)
set_option maxRecDepth 20000 in
theorem fn43 : Tryz.prog.funcs[43]? = some Tryz.f43 := rfl
set_option maxHeartbeats 40000000 in
set_option maxRecDepth 3000 in
theorem sRrSame (hP : Prg P) {m n to qo : List (List UInt8)} {ms ns tos qos txs nus ux vs : List (List T)} {t ttl addr t2 ttl2 addr2 : Int} {tx vx : List UInt8} {nu nv : List Int} (hm : encN m = ms) (hto : encN to = tos) (htx : encB tx = txs) (hnu : encI nu = nus) (hn : encN n = ns) (hqo : encN qo = qos) (hvx : encB vx = ux) (hnv : encI nv = vs) :
   ACall P 43 [.agg [.t (.sl ms), .t (.int .i64 t), .t (.int .i64 ttl), .t (.int .i64 addr), .t (.sl tos), .t (.sl txs), .t (.sl nus)], .agg [.t (.sl ns), .t (.int .i64 t2), .t (.int .i64 ttl2), .t (.int .i64 addr2), .t (.sl qos), .t (.sl ux), .t (.sl vs)]] []
     (fun r ob => r = .one (.t (.bool (rrOk m t ttl addr to tx nu && (rrOk n t2 ttl2 addr2 qo vx nv && (cmpR m t addr to tx nu n t2 addr2 qo vx nv == 0))))) ∧ ob = []) := by
  refine acall_fn (md := md) [none] v43 hP.mixed hP.tab (fn_at hP fn43) 2 rfl (by decide +kernel) rfl ?_
  intro ar har
  cbv
  refine call_intro (sRrOk hP hm hto htx hnu) ?_; rintro r ob ⟨rfl, rfl⟩; generalize hr1 : rrOk m t ttl addr to tx nu = r1; cbv
  repeat' (first | (intro; cbv) | (with_reducible refine and_side ?_ ?_; rotate_left; try cbv) | (refine ChkP.mk (by rfl) ?_; cbv) | (refine br_intro ?_ ?_ <;> intro <;> cbv) | (refine get_at har (by assumption) (by assumption) (by assumption) (by assumption) ?_; cbv) | (refine get_lt har (by assumption) (by assumption) (by assumption) ?_; intro x xx hx hxx; cbv) | (refine get_atN har (by assumption) (by assumption) (by assumption) (by assumption) ?_; cbv) | (refine get_ltN har (by assumption) (by assumption) (by assumption) ?_; intro x xx hx hxx; cbv) | (refine get_atI har (by assumption) (by assumption) (by decide) ?_; cbv) | (refine get_twoA har (by assumption) (by assumption) (by decide) ?_; intro x hx; cbv) | (refine get_twoB har (by assumption) (by assumption) (by decide) ?_; intro x hx; cbv) | (refine bytes_intro (by assumption) ?_; cbv) | (exact side_lt har (by assumption) (by assumption)) | (exact side_inb har (by assumption) (by assumption) (by assumption)) | (exact side_sh har (by decide)) | (exact side_app har (by assumption) (by assumption) (by omega)) | (exact side_app0 har (by assumption) (by omega)) | (exact side_new har (by assumption) (by omega)) | (exact side_one har (by assumption) (by omega)) | (exact side_oneN har (by assumption) (by omega)) | (exact side_flat har (by assumption)) | (exact side_sbig har (by omega)) | (refine side_sbig har ?_; simp; done) | (exact side_oneI har (by assumption) (by omega)) | (refine side_ix har ?_; simp; done) | (refine side_ix har ?_; simp; omega))
  rotate_left
  · rename_i h; exact ⟨⟨by rw [h]; simp, rfl⟩⟩
  refine call_intro (sRrOk hP hn hqo hvx hnv) ?_; rintro r ob ⟨rfl, rfl⟩; generalize hr2 : rrOk n t2 ttl2 addr2 qo vx nv = r2; cbv
  repeat' (first | (intro; cbv) | (with_reducible refine and_side ?_ ?_; rotate_left; try cbv) | (refine ChkP.mk (by rfl) ?_; cbv) | (refine br_intro ?_ ?_ <;> intro <;> cbv) | (refine get_at har (by assumption) (by assumption) (by assumption) (by assumption) ?_; cbv) | (refine get_lt har (by assumption) (by assumption) (by assumption) ?_; intro x xx hx hxx; cbv) | (refine get_atN har (by assumption) (by assumption) (by assumption) (by assumption) ?_; cbv) | (refine get_ltN har (by assumption) (by assumption) (by assumption) ?_; intro x xx hx hxx; cbv) | (refine get_atI har (by assumption) (by assumption) (by decide) ?_; cbv) | (refine get_twoA har (by assumption) (by assumption) (by decide) ?_; intro x hx; cbv) | (refine get_twoB har (by assumption) (by assumption) (by decide) ?_; intro x hx; cbv) | (refine bytes_intro (by assumption) ?_; cbv) | (exact side_lt har (by assumption) (by assumption)) | (exact side_inb har (by assumption) (by assumption) (by assumption)) | (exact side_sh har (by decide)) | (exact side_app har (by assumption) (by assumption) (by omega)) | (exact side_app0 har (by assumption) (by omega)) | (exact side_new har (by assumption) (by omega)) | (exact side_one har (by assumption) (by omega)) | (exact side_oneN har (by assumption) (by omega)) | (exact side_flat har (by assumption)) | (exact side_sbig har (by omega)) | (refine side_sbig har ?_; simp; done) | (exact side_oneI har (by assumption) (by omega)) | (refine side_ix har ?_; simp; done) | (refine side_ix har ?_; simp; omega))
  rotate_left
  · rename_i h1 h; exact ⟨⟨by rw [h]; simp, rfl⟩⟩
  rename_i h1 h2
  obtain ⟨f1, f2, f3, f4, f5⟩ := rrOk_facts (hr1.trans h1)
  obtain ⟨g1, g2, g3, g4, g5⟩ := rrOk_facts (hr2.trans h2)
  have f6 := f1.1
  have g6 := g1.1
  refine call_intro (sl3cmp hP hm hn (by omega) (by omega) hto f2 htx (by omega) hnu f4 hqo g2 hvx (by omega) hnv g4) ?_; rintro r ob ⟨rfl, rfl⟩; generalize hcr : cmpR m t addr to tx nu n t2 addr2 qo vx nv = cr; cbv
  repeat' (first | (intro; cbv) | (with_reducible refine and_side ?_ ?_; rotate_left; try cbv) | (refine ChkP.mk (by rfl) ?_; cbv) | (refine br_intro ?_ ?_ <;> intro <;> cbv) | (refine get_at har (by assumption) (by assumption) (by assumption) (by assumption) ?_; cbv) | (refine get_lt har (by assumption) (by assumption) (by assumption) ?_; intro x xx hx hxx; cbv) | (refine get_atN har (by assumption) (by assumption) (by assumption) (by assumption) ?_; cbv) | (refine get_ltN har (by assumption) (by assumption) (by assumption) ?_; intro x xx hx hxx; cbv) | (refine get_atI har (by assumption) (by assumption) (by decide) ?_; cbv) | (refine get_twoA har (by assumption) (by assumption) (by decide) ?_; intro x hx; cbv) | (refine get_twoB har (by assumption) (by assumption) (by decide) ?_; intro x hx; cbv) | (refine bytes_intro (by assumption) ?_; cbv) | (exact side_lt har (by assumption) (by assumption)) | (exact side_inb har (by assumption) (by assumption) (by assumption)) | (exact side_sh har (by decide)) | (exact side_app har (by assumption) (by assumption) (by omega)) | (exact side_app0 har (by assumption) (by omega)) | (exact side_new har (by assumption) (by omega)) | (exact side_one har (by assumption) (by omega)) | (exact side_oneN har (by assumption) (by omega)) | (exact side_flat har (by assumption)) | (exact side_sbig har (by omega)) | (refine side_sbig har ?_; simp; done) | (exact side_oneI har (by assumption) (by omega)) | (refine side_ix har ?_; simp; done) | (refine side_ix har ?_; simp; omega))
  subst har
  exact ⟨⟨by rw [h1, h2]; rfl, rfl⟩⟩
set_option maxRecDepth 20000 in
theorem fn15 : Tryz.prog.funcs[15]? = some Tryz.f15 := rfl
set_option maxHeartbeats 40000000 in
set_option maxRecDepth 3000 in
theorem lSame (hP : Prg P) {b c : List UInt8} {es fs : List (List T)} (hl : encB b = es) (hm : encB c = fs) : ACall P 15 [.one (.t (.sl es)), .one (.t (.sl fs))] [] (fun r ob => r = .one (.t (.bool (b == c))) ∧ ob = []) := by
  refine acall_fn (md := md) [none] v15 hP.mixed hP.tab (fn_at hP fn15) 2 rfl (by decide +kernel) rfl ?_
  intro ar har
  cbv
  repeat' (first | (intro; cbv) | (with_reducible refine and_side ?_ ?_; rotate_left; try cbv) | (refine ChkP.mk (by rfl) ?_; cbv) | (refine br_intro ?_ ?_ <;> intro <;> cbv) | (refine get_at har (by assumption) (by assumption) (by assumption) (by assumption) ?_; cbv) | (refine get_lt har (by assumption) (by assumption) (by assumption) ?_; intro x xx hx hxx; cbv) | (refine get_atN har (by assumption) (by assumption) (by assumption) (by assumption) ?_; cbv) | (refine get_ltN har (by assumption) (by assumption) (by assumption) ?_; intro x xx hx hxx; cbv) | (refine get_atI har (by assumption) (by assumption) (by decide) ?_; cbv) | (refine get_twoA har (by assumption) (by assumption) (by decide) ?_; intro x hx; cbv) | (refine get_twoB har (by assumption) (by assumption) (by decide) ?_; intro x hx; cbv) | (refine bytes_intro (by assumption) ?_; cbv) | (exact side_lt har (by assumption) (by assumption)) | (exact side_inb har (by assumption) (by assumption) (by assumption)) | (exact side_sh har (by decide)) | (exact side_app har (by assumption) (by assumption) (by omega)) | (exact side_app0 har (by assumption) (by omega)) | (exact side_new har (by assumption) (by omega)) | (exact side_one har (by assumption) (by omega)) | (exact side_oneN har (by assumption) (by omega)) | (exact side_flat har (by assumption)) | (exact side_sbig har (by omega)) | (refine side_sbig har ?_; simp; done) | (exact side_oneI har (by assumption) (by omega)) | (refine side_ix har ?_; simp; done) | (refine side_ix har ?_; simp; omega))
  subst har
  exact ⟨⟨rfl, rfl⟩⟩
set_option maxRecDepth 20000 in
theorem fn14 : Tryz.prog.funcs[14]? = some Tryz.f14 := rfl
set_option maxHeartbeats 40000000 in
set_option maxRecDepth 3000 in
theorem lSameName (hP : Prg P) {m n : List (List UInt8)} {ms ns : List (List T)} (hm : encN m = ms) (hn : encN n = ns) : ACall P 14 [.agg [.t (.sl ms)], .agg [.t (.sl ns)]] [] (fun r ob => r = .one (.t (.bool (nameTextB m == nameTextB n))) ∧ ob = []) := by
  refine acall_fn (md := md) [none] v14 hP.mixed hP.tab (fn_at hP fn14) 2 rfl (by decide +kernel) rfl ?_
  intro ar har
  cbv
  repeat' (first | (intro; cbv) | (with_reducible refine and_side ?_ ?_; rotate_left; try cbv) | (refine ChkP.mk (by rfl) ?_; cbv) | (refine br_intro ?_ ?_ <;> intro <;> cbv) | (refine get_at har (by assumption) (by assumption) (by assumption) (by assumption) ?_; cbv) | (refine get_lt har (by assumption) (by assumption) (by assumption) ?_; intro x xx hx hxx; cbv) | (refine get_atN har (by assumption) (by assumption) (by assumption) (by assumption) ?_; cbv) | (refine get_ltN har (by assumption) (by assumption) (by assumption) ?_; intro x xx hx hxx; cbv) | (refine get_atI har (by assumption) (by assumption) (by decide) ?_; cbv) | (refine get_twoA har (by assumption) (by assumption) (by decide) ?_; intro x hx; cbv) | (refine get_twoB har (by assumption) (by assumption) (by decide) ?_; intro x hx; cbv) | (refine bytes_intro (by assumption) ?_; cbv) | (exact side_lt har (by assumption) (by assumption)) | (exact side_inb har (by assumption) (by assumption) (by assumption)) | (exact side_sh har (by decide)) | (exact side_app har (by assumption) (by assumption) (by omega)) | (exact side_app0 har (by assumption) (by omega)) | (exact side_new har (by assumption) (by omega)) | (exact side_one har (by assumption) (by omega)) | (exact side_oneN har (by assumption) (by omega)) | (exact side_flat har (by assumption)) | (exact side_sbig har (by omega)) | (refine side_sbig har ?_; simp; done) | (exact side_oneI har (by assumption) (by omega)) | (refine side_ix har ?_; simp; done) | (refine side_ix har ?_; simp; omega) | (refine call_intro (sNameText hP (by assumption)) ?_; rintro r ob ⟨rfl, rfl⟩; generalize hnt : encB (nameTextB _) = nt; cbv) | (refine calld_intro (sNameText hP (by assumption)) ?_; generalize hnt : encB (nameTextB _) = nt; cbv))
  rename_i h1
  refine calld_intro (lSame hP h1 hnt) ?_
  generalize hsm : (nameTextB m == nameTextB n) = sm
  cbv
  repeat' (first | (intro; cbv) | (with_reducible refine and_side ?_ ?_; rotate_left; try cbv) | (refine ChkP.mk (by rfl) ?_; cbv) | (refine br_intro ?_ ?_ <;> intro <;> cbv) | (refine get_at har (by assumption) (by assumption) (by assumption) (by assumption) ?_; cbv) | (refine get_lt har (by assumption) (by assumption) (by assumption) ?_; intro x xx hx hxx; cbv) | (refine get_atN har (by assumption) (by assumption) (by assumption) (by assumption) ?_; cbv) | (refine get_ltN har (by assumption) (by assumption) (by assumption) ?_; intro x xx hx hxx; cbv) | (refine get_atI har (by assumption) (by assumption) (by decide) ?_; cbv) | (refine get_twoA har (by assumption) (by assumption) (by decide) ?_; intro x hx; cbv) | (refine get_twoB har (by assumption) (by assumption) (by decide) ?_; intro x hx; cbv) | (refine bytes_intro (by assumption) ?_; cbv) | (exact side_lt har (by assumption) (by assumption)) | (exact side_inb har (by assumption) (by assumption) (by assumption)) | (exact side_sh har (by decide)) | (exact side_app har (by assumption) (by assumption) (by omega)) | (exact side_app0 har (by assumption) (by omega)) | (exact side_new har (by assumption) (by omega)) | (exact side_one har (by assumption) (by omega)) | (exact side_oneN har (by assumption) (by omega)) | (exact side_flat har (by assumption)) | (exact side_sbig har (by omega)) | (refine side_sbig har ?_; simp; done) | (exact side_oneI har (by assumption) (by omega)) | (refine side_ix har ?_; simp; done) | (refine side_ix har ?_; simp; omega))
  exact ⟨⟨rfl, rfl⟩⟩
end Go.TL.Tryz

/- TfCopI -/
namespace Go.TL.Tryz
open Go Go.TL Go.Proofs
variable {P : Program}

set_option maxRecDepth 20000 in
theorem fn168 : Tryz.prog.funcs[168]? = some Tryz.f168 := rfl
set_option maxHeartbeats 40000000 in
set_option maxRecDepth 3000 in
theorem iEqual (hP : Prg P) {b c : List UInt8} {es fs : List (List T)} (hl : encB b = es) (hm : encB c = fs) : ACall P 168 [.one (.t (.sl es)), .one (.t (.sl fs))] [] (fun r ob => r = .one (.t (.bool (b == c))) ∧ ob = []) := by
  refine acall_fn (md := md) [none] v168 hP.mixed hP.tab (fn_at hP fn168) 2 rfl (by decide +kernel) rfl ?_
  intro ar har
  cbv
  repeat' (first | (intro; cbv) | (with_reducible refine and_side ?_ ?_; rotate_left; try cbv) | (refine ChkP.mk (by rfl) ?_; cbv) | (refine br_intro ?_ ?_ <;> intro <;> cbv) | (refine get_at har (by assumption) (by assumption) (by assumption) (by assumption) ?_; cbv) | (refine get_lt har (by assumption) (by assumption) (by assumption) ?_; intro x xx hx hxx; cbv) | (refine get_atN har (by assumption) (by assumption) (by assumption) (by assumption) ?_; cbv) | (refine get_ltN har (by assumption) (by assumption) (by assumption) ?_; intro x xx hx hxx; cbv) | (refine get_atI har (by assumption) (by assumption) (by decide) ?_; cbv) | (refine get_twoA har (by assumption) (by assumption) (by decide) ?_; intro x hx; cbv) | (refine get_twoB har (by assumption) (by assumption) (by decide) ?_; intro x hx; cbv) | (refine bytes_intro (by assumption) ?_; cbv) | (exact side_lt har (by assumption) (by assumption)) | (exact side_inb har (by assumption) (by assumption) (by assumption)) | (exact side_sh har (by decide)) | (exact side_app har (by assumption) (by assumption) (by omega)) | (exact side_app0 har (by assumption) (by omega)) | (exact side_new har (by assumption) (by omega)) | (exact side_one har (by assumption) (by omega)) | (exact side_oneN har (by assumption) (by omega)) | (exact side_flat har (by assumption)) | (exact side_sbig har (by omega)) | (refine side_sbig har ?_; simp; done) | (exact side_oneI har (by assumption) (by omega)) | (refine side_ix har ?_; simp; done) | (refine side_ix har ?_; simp; omega))
  subst har
  exact ⟨⟨rfl, rfl⟩⟩
set_option maxRecDepth 20000 in
theorem fn108 : Tryz.prog.funcs[108]? = some Tryz.f108 := rfl
set_option maxHeartbeats 40000000 in
set_option maxRecDepth 3000 in
theorem iCopied (hP : Prg P) {n : List (List UInt8)} {ns : List (List T)} (hn : encN n = ns) (hnb : NmB n) : ACall P 108 [.agg [.t (.sl ns)]] [] (fun r ob => r = .agg [.row 32 0] ∧ ob = [(32, .row 1 ns 0 [0] false)]) := by
  refine acall_fn (md := md) [some [(0, 1)]] v108 hP.mixed hP.tab (fn_at hP fn108) 1 rfl (by decide +kernel) rfl ?_
  intro ar har
  cbv
  repeat' (first | (intro; cbv) | (with_reducible refine and_side ?_ ?_; rotate_left; try cbv) | (refine ChkP.mk (by rfl) ?_; cbv) | (refine br_intro ?_ ?_ <;> intro <;> cbv) | (refine get_at har (by assumption) (by assumption) (by assumption) (by assumption) ?_; cbv) | (refine get_lt har (by assumption) (by assumption) (by assumption) ?_; intro x xx hx hxx; cbv) | (refine get_atN har (by assumption) (by assumption) (by assumption) (by assumption) ?_; cbv) | (refine get_ltN har (by assumption) (by assumption) (by assumption) ?_; intro x xx hx hxx; cbv) | (refine get_atI har (by assumption) (by assumption) (by decide) ?_; cbv) | (refine get_twoA har (by assumption) (by assumption) (by decide) ?_; intro x hx; cbv) | (refine get_twoB har (by assumption) (by assumption) (by decide) ?_; intro x hx; cbv) | (refine bytes_intro (by assumption) ?_; cbv) | (exact side_lt har (by assumption) (by assumption)) | (exact side_inb har (by assumption) (by assumption) (by assumption)) | (exact side_sh har (by decide)) | (exact side_app har (by assumption) (by assumption) (by omega)) | (exact side_app0 har (by assumption) (by omega)) | (exact side_new har (by assumption) (by omega)) | (exact side_one har (by assumption) (by omega)) | (exact side_oneN har (by assumption) (by omega)) | (exact side_flat har (by assumption)) | (exact side_sbig har (by omega)) | (refine side_sbig har ?_; simp; done) | (exact side_oneI har (by assumption) (by omega)) | (refine side_ix har ?_; simp; done) | (refine side_ix har ?_; simp; omega))
  refine LoopP.mk (List (List UInt8) × List (List T) × Int) [2, 3, 8, 9, 10] [.cell 3 0 1 12]
    (fun x => ⟨[(2, .one (.ptr 16 0)), (3, .one (.ptr 17 0)), (8, .one (.t (.sl ns))), (9, .one (.t (.int .i64 (ar.len ns)))), (10, .one (.t (.int .i64 x.2.2)))], [(16, .box [.nil] false), (17, .box [.row 18 0] false), (18, .row 1 x.2.1 0 [0] false)]⟩)
    (fun x => encN x.1 = x.2.1 ∧ 0 ≤ x.2.2 ∧ x.1 = n.take x.2.2.toNat ∧ x.1.length ≤ 7) (fun x => n.length - x.2.2.toNat) ([], [], 0) ?e ?f ?g
  case e => kernel_rfl
  case f => exact ⟨rfl, Int.le_refl _, by simp, by simp⟩
  case g =>
    intro x hx
    obtain ⟨m, ms, i⟩ := x
    have hm : encN m = ms := hx.1
    have hi0 : 0 ≤ i := hx.2.1
    have hmm : m = n.take i.toNat := hx.2.2.1
    have hml : m.length ≤ 7 := hx.2.2.2
    have hnl : n.length ≤ 7 := hnb.1
    clear hx
    cbv
    repeat' (first | (intro; cbv) | (with_reducible refine and_side ?_ ?_; rotate_left; try cbv) | (refine ChkP.mk (by rfl) ?_; cbv) | (refine br_intro ?_ ?_ <;> intro <;> cbv) | (refine get_at har (by assumption) (by assumption) (by assumption) (by assumption) ?_; cbv) | (refine get_lt har (by assumption) (by assumption) (by assumption) ?_; intro x xx hx hxx; cbv) | (refine get_atN har (by assumption) (by assumption) (by assumption) (by assumption) ?_; cbv) | (refine get_ltN har (by assumption) (by assumption) (by assumption) ?_; intro x xx hx hxx; cbv) | (refine get_atI har (by assumption) (by assumption) (by decide) ?_; cbv) | (refine get_twoA har (by assumption) (by assumption) (by decide) ?_; intro x hx; cbv) | (refine get_twoB har (by assumption) (by assumption) (by decide) ?_; intro x hx; cbv) | (refine bytes_intro (by assumption) ?_; cbv) | (exact side_lt har (by assumption) (by assumption)) | (exact side_inb har (by assumption) (by assumption) (by assumption)) | (exact side_sh har (by decide)) | (exact side_app har (by assumption) (by assumption) (by omega)) | (exact side_app0 har (by assumption) (by omega)) | (exact side_new har (by assumption) (by omega)) | (exact side_one har (by assumption) (by omega)) | (exact side_oneN har (by assumption) (by omega)) | (exact side_flat har (by assumption)) | (exact side_sbig har (by omega)) | (refine side_sbig har ?_; simp; done) | (exact side_oneI har (by assumption) (by omega)) | (refine side_ix har ?_; simp; done) | (refine side_ix har ?_; simp; omega))
    · have hx16 := hnb.2 x (List.mem_of_getElem? hx)
      have hlt := (List.getElem?_eq_some_iff.1 hx).1
      refine calld_intro (iClone hP hxx (by omega)) ?_
      rw [hxx]
      cbv
      repeat' (first | (intro; cbv) | (with_reducible refine and_side ?_ ?_; rotate_left; try cbv) | (refine ChkP.mk (by rfl) ?_; cbv) | (refine br_intro ?_ ?_ <;> intro <;> cbv) | (refine get_at har (by assumption) (by assumption) (by assumption) (by assumption) ?_; cbv) | (refine get_lt har (by assumption) (by assumption) (by assumption) ?_; intro x xx hx hxx; cbv) | (refine get_atN har (by assumption) (by assumption) (by assumption) (by assumption) ?_; cbv) | (refine get_ltN har (by assumption) (by assumption) (by assumption) ?_; intro x xx hx hxx; cbv) | (refine get_atI har (by assumption) (by assumption) (by decide) ?_; cbv) | (refine get_twoA har (by assumption) (by assumption) (by decide) ?_; intro x hx; cbv) | (refine get_twoB har (by assumption) (by assumption) (by decide) ?_; intro x hx; cbv) | (refine bytes_intro (by assumption) ?_; cbv) | (exact side_lt har (by assumption) (by assumption)) | (exact side_inb har (by assumption) (by assumption) (by assumption)) | (exact side_sh har (by decide)) | (exact side_app har (by assumption) (by assumption) (by omega)) | (exact side_app0 har (by assumption) (by omega)) | (exact side_new har (by assumption) (by omega)) | (exact side_one har (by assumption) (by omega)) | (exact side_oneN har (by assumption) (by omega)) | (exact side_flat har (by assumption)) | (exact side_sbig har (by omega)) | (refine side_sbig har ?_; simp; done) | (exact side_oneI har (by assumption) (by omega)) | (refine side_ix har ?_; simp; done) | (refine side_ix har ?_; simp; omega))
      have hm1 : m ++ [x] = n.take (i.toNat + 1) := by rw [List.take_add_one, hx, hmm]; rfl
      subst har
      refine ⟨(m ++ [x], encN (m ++ [x]), i + 1), ?_, ⟨rfl, by dsimp only; omega, by dsimp only; rw [hm1, show (i + 1).toNat = i.toNat + 1 by omega], by dsimp only; rw [hm1]; simp; omega⟩, by dsimp only; omega⟩
      rw [show encN (m ++ [x]) = std.app ms [[.sl xx]] from encN_app hm (encN_one hxx), show i + 1 = std.iop .add .i64 i 1 from (addI (by omega) (by omega)).symm]
      kernel_rfl
    · have hg := ge_len har (by assumption) hi0
      rw [encN_len hn] at hg
      rw [take_all (by omega)] at hmm
      exact ⟨⟨rfl, by rw [← hm, hmm, hn]⟩⟩
def sufB (b c : List UInt8) : Bool := decide (c.length ≤ b.length) && (b.drop (b.length - c.length) == c)
set_option maxRecDepth 20000 in
theorem fn152 : Tryz.prog.funcs[152]? = some Tryz.f152 := rfl
set_option maxHeartbeats 40000000 in
set_option maxRecDepth 3000 in
theorem iHasSuffix (hP : Prg P) {b c : List UInt8} {es fs : List (List T)} (hl : encB b = es) (hm : encB c = fs) (hb : b.length ≤ 1000000) (hc : c.length ≤ 1000000) : ACall P 152 [.one (.t (.sl es)), .one (.t (.sl fs))] [] (fun r ob => r = .one (.t (.bool (sufB b c))) ∧ ob = []) := by
  have hl1 := encB_len hl
  have hl2 := encB_len hm
  refine acall_fn (md := md) [none] v152 hP.mixed hP.tab (fn_at hP fn152) 2 rfl (by decide +kernel) rfl ?_
  intro ar har
  cbv
  repeat' (first | (intro; cbv) | (with_reducible refine and_side ?_ ?_; rotate_left; try cbv) | (refine ChkP.mk (by rfl) ?_; cbv) | (refine br_intro ?_ ?_ <;> intro <;> cbv) | (refine get_at har (by assumption) (by assumption) (by assumption) (by assumption) ?_; cbv) | (refine get_lt har (by assumption) (by assumption) (by assumption) ?_; intro x xx hx hxx; cbv) | (refine get_atN har (by assumption) (by assumption) (by assumption) (by assumption) ?_; cbv) | (refine get_ltN har (by assumption) (by assumption) (by assumption) ?_; intro x xx hx hxx; cbv) | (refine get_atI har (by assumption) (by assumption) (by decide) ?_; cbv) | (refine get_twoA har (by assumption) (by assumption) (by decide) ?_; intro x hx; cbv) | (refine get_twoB har (by assumption) (by assumption) (by decide) ?_; intro x hx; cbv) | (refine bytes_intro (by assumption) ?_; cbv) | (exact side_lt har (by assumption) (by assumption)) | (exact side_inb har (by assumption) (by assumption) (by assumption)) | (exact side_sh har (by decide)) | (exact side_app har (by assumption) (by assumption) (by omega)) | (exact side_app0 har (by assumption) (by omega)) | (exact side_new har (by assumption) (by omega)) | (exact side_one har (by assumption) (by omega)) | (exact side_oneN har (by assumption) (by omega)) | (exact side_flat har (by assumption)) | (exact side_sbig har (by omega)) | (refine side_sbig har ?_; simp; done) | (exact side_oneI har (by assumption) (by omega)) | (refine side_ix har ?_; simp; done) | (refine side_ix har ?_; simp; omega))
  · rename_i h1 _ _ _
    have hle : c.length ≤ b.length := by subst har; simp only [std, icmpS, decide_eq_true_eq] at h1; omega
    have e : encB (b.drop (b.length - c.length)) = ar.sub es (ar.iop .sub .i64 (ar.len es) (ar.len fs)) (ar.len es) := by
      subst har; subst hl; subst hm
      show _ = ((encB b).take (((encB b).length : Int)).toNat).drop (iopS .sub .i64 ((encB b).length : Int) ((encB c).length : Int)).toNat
      rw [subI (by omega) (by omega), hl1, hl2, show ((b.length : Int) - (c.length : Int)).toNat = b.length - c.length by omega, Int.toNat_natCast, List.take_of_length_le (by omega)]
      simp [encB]
    refine call_intro (iEqual hP e hm) ?_
    rintro r ob ⟨rfl, rfl⟩
    generalize heq : (b.drop (b.length - c.length) == c) = q
    cbv
    repeat' (first | (intro; cbv) | (with_reducible refine and_side ?_ ?_; rotate_left; try cbv) | (refine ChkP.mk (by rfl) ?_; cbv) | (refine br_intro ?_ ?_ <;> intro <;> cbv) | (refine get_at har (by assumption) (by assumption) (by assumption) (by assumption) ?_; cbv) | (refine get_lt har (by assumption) (by assumption) (by assumption) ?_; intro x xx hx hxx; cbv) | (refine get_atN har (by assumption) (by assumption) (by assumption) (by assumption) ?_; cbv) | (refine get_ltN har (by assumption) (by assumption) (by assumption) ?_; intro x xx hx hxx; cbv) | (refine get_atI har (by assumption) (by assumption) (by decide) ?_; cbv) | (refine get_twoA har (by assumption) (by assumption) (by decide) ?_; intro x hx; cbv) | (refine get_twoB har (by assumption) (by assumption) (by decide) ?_; intro x hx; cbv) | (refine bytes_intro (by assumption) ?_; cbv) | (exact side_lt har (by assumption) (by assumption)) | (exact side_inb har (by assumption) (by assumption) (by assumption)) | (exact side_sh har (by decide)) | (exact side_app har (by assumption) (by assumption) (by omega)) | (exact side_app0 har (by assumption) (by omega)) | (exact side_new har (by assumption) (by omega)) | (exact side_one har (by assumption) (by omega)) | (exact side_oneN har (by assumption) (by omega)) | (exact side_flat har (by assumption)) | (exact side_sbig har (by omega)) | (refine side_sbig har ?_; simp; done) | (exact side_oneI har (by assumption) (by omega)) | (refine side_ix har ?_; simp; done) | (refine side_ix har ?_; simp; omega))
    exact ⟨⟨by rw [sufB, heq, decide_eq_true hle]; simp, rfl⟩⟩
  · rename_i h1 _ _ _
    have e : ar.iop .sub .i64 (ar.len es) (ar.len fs) = (b.length : Int) - c.length := by
      subst har; show iopS .sub .i64 (es.length : Int) (fs.length : Int) = _; rw [subI (by omega) (by omega), hl1, hl2]
    have e2 : ar.len es = (b.length : Int) := by subst har; show (es.length : Int) = _; rw [hl1]
    have hle : c.length ≤ b.length := by subst har; simp only [std, icmpS, decide_eq_true_eq] at h1; omega
    exact (show Side (ar.insub (ar.iop .sub .i64 (ar.len es) (ar.len fs)) (ar.len es) es ∧ ar.wid 1 es) by rw [e, e2]; exact side_sub har hl ⟨by omega, by omega, by omega⟩)
  · rename_i h1
    have hle : ¬ c.length ≤ b.length := by subst har; simp only [std, icmpS, decide_eq_false_iff_not] at h1; omega
    exact ⟨⟨by rw [sufB, decide_eq_false hle]; rfl, rfl⟩⟩
end Go.TL.Tryz

/- TfSamR -/
namespace Go.TL.Tryz
open Go Go.TL Go.Proofs
variable {P : Program}

def sameR (m : List (List UInt8)) (t ttl addr : Int) (to : List (List UInt8)) (tx : List UInt8) (nu : List Int) (n : List (List UInt8)) (t2 ttl2 addr2 : Int) (qo : List (List UInt8)) (vx : List UInt8) (nv : List Int) : Bool :=
  rrOk m t ttl addr to tx nu && (rrOk n t2 ttl2 addr2 qo vx nv && (cmpR m t addr to tx nu n t2 addr2 qo vx nv == 0))
theorem get_zero {ar : Ar} (har : ar = std) {e : List T} {i : Int} {K : List T → Prop} (hi : i = 0) (k : K e) : GetP ar [e] i K := by
  subst har; subst hi
  exact ⟨by simp [std], k⟩
set_option maxRecDepth 20000 in
theorem fn13 : Tryz.prog.funcs[13]? = some Tryz.f13 := rfl
set_option maxHeartbeats 40000000 in
set_option maxRecDepth 3000 in
theorem lSameRrs (hP : Prg P) {m n to qo : List (List UInt8)} {ms ns tos qos txs nus ux vs : List (List T)} {t ttl addr t2 ttl2 addr2 : Int} {tx vx : List UInt8} {nu nv : List Int} (hm : encN m = ms) (hto : encN to = tos) (htx : encB tx = txs) (hnu : encI nu = nus) (hn : encN n = ns) (hqo : encN qo = qos) (hvx : encB vx = ux) (hnv : encI nv = vs) :
   ACall P 13 [.one (.t (.sl [[.sl ms, .int .i64 t, .int .i64 ttl, .int .i64 addr, .sl tos, .sl txs, .sl nus]])), .one (.t (.sl [[.sl ns, .int .i64 t2, .int .i64 ttl2, .int .i64 addr2, .sl qos, .sl ux, .sl vs]]))] []
     (fun r ob => r = .one (.t (.bool (sameR m t ttl addr to tx nu n t2 ttl2 addr2 qo vx nv && ttl == ttl2))) ∧ ob = []) := by
  refine acall_fn (md := md) [none] v13 hP.mixed hP.tab (fn_at hP fn13) 2 rfl (by decide +kernel) rfl ?_
  intro ar har
  cbv
  repeat' (first | (intro; cbv) | (with_reducible refine and_side ?_ ?_; rotate_left; try cbv) | (refine ChkP.mk (by rfl) ?_; cbv) | (refine br_intro ?_ ?_ <;> intro <;> cbv) | (refine get_at har (by assumption) (by assumption) (by assumption) (by assumption) ?_; cbv) | (refine get_lt har (by assumption) (by assumption) (by assumption) ?_; intro x xx hx hxx; cbv) | (refine get_atN har (by assumption) (by assumption) (by assumption) (by assumption) ?_; cbv) | (refine get_ltN har (by assumption) (by assumption) (by assumption) ?_; intro x xx hx hxx; cbv) | (refine get_atI har (by assumption) (by assumption) (by decide) ?_; cbv) | (refine get_twoA har (by assumption) (by assumption) (by decide) ?_; intro x hx; cbv) | (refine get_twoB har (by assumption) (by assumption) (by decide) ?_; intro x hx; cbv) | (refine bytes_intro (by assumption) ?_; cbv) | (exact side_lt har (by assumption) (by assumption)) | (exact side_inb har (by assumption) (by assumption) (by assumption)) | (exact side_sh har (by decide)) | (exact side_app har (by assumption) (by assumption) (by omega)) | (exact side_app0 har (by assumption) (by omega)) | (exact side_new har (by assumption) (by omega)) | (exact side_one har (by assumption) (by omega)) | (exact side_oneN har (by assumption) (by omega)) | (exact side_flat har (by assumption)) | (exact side_sbig har (by omega)) | (refine side_sbig har ?_; simp; done) | (exact side_oneI har (by assumption) (by omega)) | (refine side_ix har ?_; simp; done) | (refine side_ix har ?_; simp; omega))
  · exfalso
    rename_i h1
    subst har; simp [std, icmpS] at h1
  refine LoopP.mk Int [0, 1, 4, 5] [] (fun i => ⟨[(0, .one (.t (.sl [[.sl ms, .int .i64 t, .int .i64 ttl, .int .i64 addr, .sl tos, .sl txs, .sl nus]]))), (1, .one (.t (.sl [[.sl ns, .int .i64 t2, .int .i64 ttl2, .int .i64 addr2, .sl qos, .sl ux, .sl vs]]))), (4, .one (.t (.bool false))), (5, .one (.t (.int .i64 i)))], []⟩)
    (fun i => i = 0 ∨ i = 1 ∧ (sameR m t ttl addr to tx nu n t2 ttl2 addr2 qo vx nv && ttl == ttl2) = true) (fun i => 1 - i.toNat) 0 ?e ?f ?g
  case e => kernel_rfl
  case f => exact .inl rfl
  case g =>
    intro i hi
    cbv
    repeat' (first | (intro; cbv) | (with_reducible refine and_side ?_ ?_; rotate_left; try cbv) | (refine ChkP.mk (by rfl) ?_; cbv) | (refine br_intro ?_ ?_ <;> intro <;> cbv) | (refine get_at har (by assumption) (by assumption) (by assumption) (by assumption) ?_; cbv) | (refine get_lt har (by assumption) (by assumption) (by assumption) ?_; intro x xx hx hxx; cbv) | (refine get_atN har (by assumption) (by assumption) (by assumption) (by assumption) ?_; cbv) | (refine get_ltN har (by assumption) (by assumption) (by assumption) ?_; intro x xx hx hxx; cbv) | (refine get_atI har (by assumption) (by assumption) (by decide) ?_; cbv) | (refine get_twoA har (by assumption) (by assumption) (by decide) ?_; intro x hx; cbv) | (refine get_twoB har (by assumption) (by assumption) (by decide) ?_; intro x hx; cbv) | (refine bytes_intro (by assumption) ?_; cbv) | (exact side_lt har (by assumption) (by assumption)) | (exact side_inb har (by assumption) (by assumption) (by assumption)) | (exact side_sh har (by decide)) | (exact side_app har (by assumption) (by assumption) (by omega)) | (exact side_app0 har (by assumption) (by omega)) | (exact side_new har (by assumption) (by omega)) | (exact side_one har (by assumption) (by omega)) | (exact side_oneN har (by assumption) (by omega)) | (exact side_flat har (by assumption)) | (exact side_sbig har (by omega)) | (refine side_sbig har ?_; simp; done) | (exact side_oneI har (by assumption) (by omega)) | (refine side_ix har ?_; simp; done) | (refine side_ix har ?_; simp; omega))
    · have hi0 : i = 0 := by
        rename_i h1
        rcases hi with hi | hi
        · exact hi
        · subst har; simp [std, icmpS] at h1; omega
      refine get_zero har hi0 ?_
      cbv
      repeat' (first | (intro; cbv) | (with_reducible refine and_side ?_ ?_; rotate_left; try cbv) | (refine ChkP.mk (by rfl) ?_; cbv) | (refine br_intro ?_ ?_ <;> intro <;> cbv) | (refine get_at har (by assumption) (by assumption) (by assumption) (by assumption) ?_; cbv) | (refine get_lt har (by assumption) (by assumption) (by assumption) ?_; intro x xx hx hxx; cbv) | (refine get_atN har (by assumption) (by assumption) (by assumption) (by assumption) ?_; cbv) | (refine get_ltN har (by assumption) (by assumption) (by assumption) ?_; intro x xx hx hxx; cbv) | (refine get_atI har (by assumption) (by assumption) (by decide) ?_; cbv) | (refine get_twoA har (by assumption) (by assumption) (by decide) ?_; intro x hx; cbv) | (refine get_twoB har (by assumption) (by assumption) (by decide) ?_; intro x hx; cbv) | (refine bytes_intro (by assumption) ?_; cbv) | (exact side_lt har (by assumption) (by assumption)) | (exact side_inb har (by assumption) (by assumption) (by assumption)) | (exact side_sh har (by decide)) | (exact side_app har (by assumption) (by assumption) (by omega)) | (exact side_app0 har (by assumption) (by omega)) | (exact side_new har (by assumption) (by omega)) | (exact side_one har (by assumption) (by omega)) | (exact side_oneN har (by assumption) (by omega)) | (exact side_flat har (by assumption)) | (exact side_sbig har (by omega)) | (refine side_sbig har ?_; simp; done) | (exact side_oneI har (by assumption) (by omega)) | (refine side_ix har ?_; simp; done) | (refine side_ix har ?_; simp; omega))
      refine get_zero har hi0 ?_
      cbv
      repeat' (first | (intro; cbv) | (with_reducible refine and_side ?_ ?_; rotate_left; try cbv) | (refine ChkP.mk (by rfl) ?_; cbv) | (refine br_intro ?_ ?_ <;> intro <;> cbv) | (refine get_at har (by assumption) (by assumption) (by assumption) (by assumption) ?_; cbv) | (refine get_lt har (by assumption) (by assumption) (by assumption) ?_; intro x xx hx hxx; cbv) | (refine get_atN har (by assumption) (by assumption) (by assumption) (by assumption) ?_; cbv) | (refine get_ltN har (by assumption) (by assumption) (by assumption) ?_; intro x xx hx hxx; cbv) | (refine get_atI har (by assumption) (by assumption) (by decide) ?_; cbv) | (refine get_twoA har (by assumption) (by assumption) (by decide) ?_; intro x hx; cbv) | (refine get_twoB har (by assumption) (by assumption) (by decide) ?_; intro x hx; cbv) | (refine bytes_intro (by assumption) ?_; cbv) | (exact side_lt har (by assumption) (by assumption)) | (exact side_inb har (by assumption) (by assumption) (by assumption)) | (exact side_sh har (by decide)) | (exact side_app har (by assumption) (by assumption) (by omega)) | (exact side_app0 har (by assumption) (by omega)) | (exact side_new har (by assumption) (by omega)) | (exact side_one har (by assumption) (by omega)) | (exact side_oneN har (by assumption) (by omega)) | (exact side_flat har (by assumption)) | (exact side_sbig har (by omega)) | (refine side_sbig har ?_; simp; done) | (exact side_oneI har (by assumption) (by omega)) | (refine side_ix har ?_; simp; done) | (refine side_ix har ?_; simp; omega))
      refine calld_intro (sRrSame hP hm hto htx hnu hn hqo hvx hnv) ?_
      generalize hsr : (rrOk m t ttl addr to tx nu && (rrOk n t2 ttl2 addr2 qo vx nv && (cmpR m t addr to tx nu n t2 addr2 qo vx nv == 0))) = sr
      cbv
      repeat' (first | (intro; cbv) | (with_reducible refine and_side ?_ ?_; rotate_left; try cbv) | (refine ChkP.mk (by rfl) ?_; cbv) | (refine br_intro ?_ ?_ <;> intro <;> cbv) | (refine get_at har (by assumption) (by assumption) (by assumption) (by assumption) ?_; cbv) | (refine get_lt har (by assumption) (by assumption) (by assumption) ?_; intro x xx hx hxx; cbv) | (refine get_atN har (by assumption) (by assumption) (by assumption) (by assumption) ?_; cbv) | (refine get_ltN har (by assumption) (by assumption) (by assumption) ?_; intro x xx hx hxx; cbv) | (refine get_atI har (by assumption) (by assumption) (by decide) ?_; cbv) | (refine get_twoA har (by assumption) (by assumption) (by decide) ?_; intro x hx; cbv) | (refine get_twoB har (by assumption) (by assumption) (by decide) ?_; intro x hx; cbv) | (refine bytes_intro (by assumption) ?_; cbv) | (exact side_lt har (by assumption) (by assumption)) | (exact side_inb har (by assumption) (by assumption) (by assumption)) | (exact side_sh har (by decide)) | (exact side_app har (by assumption) (by assumption) (by omega)) | (exact side_app0 har (by assumption) (by omega)) | (exact side_new har (by assumption) (by omega)) | (exact side_one har (by assumption) (by omega)) | (exact side_oneN har (by assumption) (by omega)) | (exact side_flat har (by assumption)) | (exact side_sbig har (by omega)) | (refine side_sbig har ?_; simp; done) | (exact side_oneI har (by assumption) (by omega)) | (refine side_ix har ?_; simp; done) | (refine side_ix har ?_; simp; omega))
      · rename_i h1 _
        have h2 : sr = false := by subst har; simpa [std] using h1
        exact ⟨⟨by rw [sameR, hsr, h2]; rfl, rfl⟩⟩
      · have h2 : sr = true := by rename_i h1; subst har; simpa [std] using h1
        refine get_zero har hi0 ?_
        cbv
        repeat' (first | (intro; cbv) | (with_reducible refine and_side ?_ ?_; rotate_left; try cbv) | (refine ChkP.mk (by rfl) ?_; cbv) | (refine br_intro ?_ ?_ <;> intro <;> cbv) | (refine get_at har (by assumption) (by assumption) (by assumption) (by assumption) ?_; cbv) | (refine get_lt har (by assumption) (by assumption) (by assumption) ?_; intro x xx hx hxx; cbv) | (refine get_atN har (by assumption) (by assumption) (by assumption) (by assumption) ?_; cbv) | (refine get_ltN har (by assumption) (by assumption) (by assumption) ?_; intro x xx hx hxx; cbv) | (refine get_atI har (by assumption) (by assumption) (by decide) ?_; cbv) | (refine get_twoA har (by assumption) (by assumption) (by decide) ?_; intro x hx; cbv) | (refine get_twoB har (by assumption) (by assumption) (by decide) ?_; intro x hx; cbv) | (refine bytes_intro (by assumption) ?_; cbv) | (exact side_lt har (by assumption) (by assumption)) | (exact side_inb har (by assumption) (by assumption) (by assumption)) | (exact side_sh har (by decide)) | (exact side_app har (by assumption) (by assumption) (by omega)) | (exact side_app0 har (by assumption) (by omega)) | (exact side_new har (by assumption) (by omega)) | (exact side_one har (by assumption) (by omega)) | (exact side_oneN har (by assumption) (by omega)) | (exact side_flat har (by assumption)) | (exact side_sbig har (by omega)) | (refine side_sbig har ?_; simp; done) | (exact side_oneI har (by assumption) (by omega)) | (refine side_ix har ?_; simp; done) | (refine side_ix har ?_; simp; omega))
        refine get_zero har hi0 ?_
        cbv
        repeat' (first | (intro; cbv) | (with_reducible refine and_side ?_ ?_; rotate_left; try cbv) | (refine ChkP.mk (by rfl) ?_; cbv) | (refine br_intro ?_ ?_ <;> intro <;> cbv) | (refine get_at har (by assumption) (by assumption) (by assumption) (by assumption) ?_; cbv) | (refine get_lt har (by assumption) (by assumption) (by assumption) ?_; intro x xx hx hxx; cbv) | (refine get_atN har (by assumption) (by assumption) (by assumption) (by assumption) ?_; cbv) | (refine get_ltN har (by assumption) (by assumption) (by assumption) ?_; intro x xx hx hxx; cbv) | (refine get_atI har (by assumption) (by assumption) (by decide) ?_; cbv) | (refine get_twoA har (by assumption) (by assumption) (by decide) ?_; intro x hx; cbv) | (refine get_twoB har (by assumption) (by assumption) (by decide) ?_; intro x hx; cbv) | (refine bytes_intro (by assumption) ?_; cbv) | (exact side_lt har (by assumption) (by assumption)) | (exact side_inb har (by assumption) (by assumption) (by assumption)) | (exact side_sh har (by decide)) | (exact side_app har (by assumption) (by assumption) (by omega)) | (exact side_app0 har (by assumption) (by omega)) | (exact side_new har (by assumption) (by omega)) | (exact side_one har (by assumption) (by omega)) | (exact side_oneN har (by assumption) (by omega)) | (exact side_flat har (by assumption)) | (exact side_sbig har (by omega)) | (refine side_sbig har ?_; simp; done) | (exact side_oneI har (by assumption) (by omega)) | (refine side_ix har ?_; simp; done) | (refine side_ix har ?_; simp; omega))
        · rename_i h3
          have h4 : (ttl == ttl2) = false := by subst har; simp only [std, icmpS, bne_iff_ne, ne_eq] at h3; simpa using h3
          exact ⟨⟨by rw [h4, Bool.and_false], rfl⟩⟩
        · rename_i h3 _
          have h4 : (ttl == ttl2) = true := by subst har; simp only [std, icmpS, bne_eq_false_iff_eq] at h3; simpa using h3
          have h5 : (sameR m t ttl addr to tx nu n t2 ttl2 addr2 qo vx nv && ttl == ttl2) = true := by rw [sameR, hsr, h2, h4]; rfl
          subst hi0
          refine ⟨1, ?_, .inr ⟨rfl, h5⟩, by decide⟩
          subst har
          kernel_rfl
    · rename_i h1
      have hi1 : (sameR m t ttl addr to tx nu n t2 ttl2 addr2 qo vx nv && ttl == ttl2) = true := by
        rcases hi with hi | hi
        · subst har; simp [std, icmpS] at h1; omega
        · exact hi.2
      exact ⟨⟨by rw [hi1], rfl⟩⟩
end Go.TL.Tryz

/- TfWrd -/
namespace Go.TL.Tryz
open Go Go.TL Go.Proofs
variable {P : Program}

def encS (l : List (List UInt8)) : List (List T) := l.map fun s => [.str s]
theorem encS_len {l : List (List UInt8)} {es : List (List T)} (h : encS l = es) : es.length = l.length := by subst h; simp [encS]
theorem get_word {ar : Ar} (har : ar = std) {l : List (List UInt8)} {es : List (List T)} {i : Int} {K : List T → Prop} (hes : encS l = es) (h : ar.icmp .lss i (ar.len es) = true) (h0 : 0 ≤ i)
    (k : ∀ s : List UInt8, l[i.toNat]? = some s → K [.str s]) : GetP ar es i K := by
  have hl : i.toNat < l.length := by rw [← encS_len hes]; exact lt_len har h h0
  subst har; subst hes
  refine ⟨by simp [std, encS]; omega, ?_⟩
  have := k l[i.toNat] (List.getElem?_eq_getElem hl)
  simpa [std, encS, hl] using this
def joinW : List (List UInt8) → List UInt8
  | [] => []
  | x :: r => x ++ r.flatMap fun s => 32 :: s
theorem join_step {l : List (List UInt8)} {i : Nat} {s : List UInt8} (h : l[i]? = some s) : joinW (l.take (i + 1)) = if i = 0 then s else joinW (l.take i) ++ [32] ++ s := by
  cases l with
  | nil => simp at h
  | cons x r =>
    cases i with
    | zero => simp at h; subst h; simp [joinW]
    | succ j =>
      simp at h
      simp only [List.take_succ_cons, joinW, if_neg (Nat.succ_ne_zero j)]
      rw [List.take_add_one, h]
      simp
theorem join_first {l : List (List UInt8)} : joinW (l.take 0) = [] := by simp [joinW]
theorem side_cat {ar : Ar} (har : ar = std) {a b : List UInt8} (h1 : a.length ≤ 1000000) (h2 : b.length ≤ 1000000) : Side (ar.sbig a ∧ ar.sbig b) := by
  subst har; exact ⟨by simp [std]; omega, by simp [std]; omega⟩
set_option maxRecDepth 20000 in
theorem fn88 : Tryz.prog.funcs[88]? = some Tryz.f88 := rfl
set_option maxHeartbeats 40000000 in
set_option maxRecDepth 3000 in
theorem iWords (hP : Prg P) {l : List (List UInt8)} {ws : List (List T)} (hl : encS l = ws) (hb : ∀ s ∈ l, s.length ≤ 1000) (hn : l.length ≤ 10) : ACall P 88 [.one (.t (.sl ws))] [] (fun r ob => r = .one (.t (.str (joinW l))) ∧ ob = []) := by
  refine acall_fn (md := md) [none] v88 hP.mixed hP.tab (fn_at hP fn88) 1 rfl (by decide +kernel) rfl ?_
  intro ar har
  cbv
  repeat' (first | (intro; cbv) | (with_reducible refine and_side ?_ ?_; rotate_left; try cbv) | (refine ChkP.mk (by rfl) ?_; cbv) | (refine br_intro ?_ ?_ <;> intro <;> cbv) | (refine get_at har (by assumption) (by assumption) (by assumption) (by assumption) ?_; cbv) | (refine get_lt har (by assumption) (by assumption) (by assumption) ?_; intro x xx hx hxx; cbv) | (refine get_atN har (by assumption) (by assumption) (by assumption) (by assumption) ?_; cbv) | (refine get_ltN har (by assumption) (by assumption) (by assumption) ?_; intro x xx hx hxx; cbv) | (refine get_atI har (by assumption) (by assumption) (by decide) ?_; cbv) | (refine get_twoA har (by assumption) (by assumption) (by decide) ?_; intro x hx; cbv) | (refine get_twoB har (by assumption) (by assumption) (by decide) ?_; intro x hx; cbv) | (refine bytes_intro (by assumption) ?_; cbv) | (exact side_lt har (by assumption) (by assumption)) | (exact side_inb har (by assumption) (by assumption) (by assumption)) | (exact side_sh har (by decide)) | (exact side_app har (by assumption) (by assumption) (by omega)) | (exact side_app0 har (by assumption) (by omega)) | (exact side_new har (by assumption) (by omega)) | (exact side_one har (by assumption) (by omega)) | (exact side_oneN har (by assumption) (by omega)) | (exact side_flat har (by assumption)) | (exact side_sbig har (by omega)) | (refine side_sbig har ?_; simp; done) | (exact side_oneI har (by assumption) (by omega)) | (refine side_ix har ?_; simp; done) | (refine side_ix har ?_; simp; omega))
  refine LoopP.mk (List UInt8 × Int) [3, 6, 7, 8] [] (fun x => ⟨[(3, .one (.t (.str x.1))), (6, .one (.t (.sl ws))), (7, .one (.t (.int .i64 (ar.len ws)))), (8, .one (.t (.int .i64 x.2)))], []⟩)
    (fun x => 0 ≤ x.2 ∧ x.2.toNat ≤ l.length ∧ x.1 = joinW (l.take x.2.toNat) ∧ x.1.length ≤ 1001 * x.2.toNat) (fun x => l.length - x.2.toNat) ([], 0) ?e ?f ?g
  case e => kernel_rfl
  case f => exact ⟨Int.le_refl _, by simp, by simp [joinW], by simp⟩
  case g =>
    intro x hx
    obtain ⟨o, i⟩ := x
    have hi0 : 0 ≤ i := hx.1
    have hib : i.toNat ≤ l.length := hx.2.1
    have ho : o = joinW (l.take i.toNat) := hx.2.2.1
    have hol : o.length ≤ 1001 * i.toNat := hx.2.2.2
    clear hx
    cbv
    repeat' (first | (intro; cbv) | (with_reducible refine and_side ?_ ?_; rotate_left; try cbv) | (refine ChkP.mk (by rfl) ?_; cbv) | (refine br_intro ?_ ?_ <;> intro <;> cbv) | (refine get_at har (by assumption) (by assumption) (by assumption) (by assumption) ?_; cbv) | (refine get_lt har (by assumption) (by assumption) (by assumption) ?_; intro x xx hx hxx; cbv) | (refine get_atN har (by assumption) (by assumption) (by assumption) (by assumption) ?_; cbv) | (refine get_ltN har (by assumption) (by assumption) (by assumption) ?_; intro x xx hx hxx; cbv) | (refine get_atI har (by assumption) (by assumption) (by decide) ?_; cbv) | (refine get_twoA har (by assumption) (by assumption) (by decide) ?_; intro x hx; cbv) | (refine get_twoB har (by assumption) (by assumption) (by decide) ?_; intro x hx; cbv) | (refine bytes_intro (by assumption) ?_; cbv) | (exact side_lt har (by assumption) (by assumption)) | (exact side_inb har (by assumption) (by assumption) (by assumption)) | (exact side_sh har (by decide)) | (exact side_app har (by assumption) (by assumption) (by omega)) | (exact side_app0 har (by assumption) (by omega)) | (exact side_new har (by assumption) (by omega)) | (exact side_one har (by assumption) (by omega)) | (exact side_oneN har (by assumption) (by omega)) | (exact side_flat har (by assumption)) | (exact side_sbig har (by omega)) | (refine side_sbig har ?_; simp; done) | (exact side_oneI har (by assumption) (by omega)) | (refine side_ix har ?_; simp; done) | (refine side_ix har ?_; simp; omega))
    · refine get_word har hl (by assumption) hi0 ?_
      intro s hs
      have hsl := hb s (List.mem_of_getElem? hs)
      have hlt := (List.getElem?_eq_some_iff.1 hs).1
      have hst := join_step hs
      rw [← ho] at hst
      cbv
      repeat' (first | (intro; cbv) | (with_reducible refine and_side ?_ ?_; rotate_left; try cbv) | (refine ChkP.mk (by rfl) ?_; cbv) | (refine br_intro ?_ ?_ <;> intro <;> cbv) | (refine get_at har (by assumption) (by assumption) (by assumption) (by assumption) ?_; cbv) | (refine get_lt har (by assumption) (by assumption) (by assumption) ?_; intro x xx hx hxx; cbv) | (refine get_atN har (by assumption) (by assumption) (by assumption) (by assumption) ?_; cbv) | (refine get_ltN har (by assumption) (by assumption) (by assumption) ?_; intro x xx hx hxx; cbv) | (refine get_atI har (by assumption) (by assumption) (by decide) ?_; cbv) | (refine get_twoA har (by assumption) (by assumption) (by decide) ?_; intro x hx; cbv) | (refine get_twoB har (by assumption) (by assumption) (by decide) ?_; intro x hx; cbv) | (refine bytes_intro (by assumption) ?_; cbv) | (exact side_lt har (by assumption) (by assumption)) | (exact side_inb har (by assumption) (by assumption) (by assumption)) | (exact side_sh har (by decide)) | (exact side_app har (by assumption) (by assumption) (by omega)) | (exact side_app0 har (by assumption) (by omega)) | (exact side_new har (by assumption) (by omega)) | (exact side_one har (by assumption) (by omega)) | (exact side_oneN har (by assumption) (by omega)) | (exact side_flat har (by assumption)) | (exact side_sbig har (by omega)) | (refine side_sbig har ?_; simp; done) | (exact side_oneI har (by assumption) (by omega)) | (refine side_ix har ?_; simp; done) | (refine side_ix har ?_; simp; omega))
      · rename_i h1 _
        have hi : 0 < i := by subst har; simp only [std, icmpS, decide_eq_true_eq] at h1; omega
        rw [if_neg (by omega)] at hst
        subst har
        refine ⟨(o ++ [32] ++ s, i + 1), ?_, ⟨by dsimp only; omega, by dsimp only; omega, by dsimp only; rw [← hst, show (i + 1).toNat = i.toNat + 1 by omega], by simp; omega⟩, by dsimp only; omega⟩
        rw [show i + 1 = std.iop .add .i64 i 1 from (addI (by omega) (by omega)).symm]
        kernel_rfl
      · exact side_cat har (by subst har; show (o ++ [32]).length ≤ _; simp; omega) (by omega)
      · exact side_cat har (by omega) (by decide)
      · rename_i h1 _
        have hi : i = 0 := by subst har; simp only [std, icmpS, decide_eq_false_iff_not] at h1; omega
        rw [if_pos (by omega)] at hst
        have ho0 : o = [] := by rw [ho, hi]; rfl
        subst har; subst ho0
        refine ⟨(s, i + 1), ?_, ⟨by dsimp only; omega, by dsimp only; omega, by dsimp only; rw [← hst, show (i + 1).toNat = i.toNat + 1 by omega], by dsimp only; omega⟩, by dsimp only; omega⟩
        rw [show i + 1 = std.iop .add .i64 i 1 from (addI (by omega) (by omega)).symm]
        kernel_rfl
      · exact side_cat har (by omega) (by omega)
    · have hg := ge_len har (by assumption) hi0
      rw [encS_len hl] at hg
      rw [take_all (by omega)] at ho
      exact ⟨⟨by rw [ho], rfl⟩⟩
end Go.TL.Tryz

/- TfShelf -/
namespace Go.Proofs
open Go.Shelf
def Tryz.lays156_ren : Go.Shelf.Ren := ⟨fun | 156 => 147 | 165 => 179 | 166 => 180 | 169 => 181 | 240 => 198 | 241 => 199 | 276 => 218 | 277 => 219 | n => n, fun | 31 => 146 | 9 => 9 | 3 => 3 | 4 => 4 | 0 => 0 | 20 => 20 | 72 => 169 | 76 => 173 | 70 => 167 | 37 => 22 | 75 => 172 | 127 => 194 | 164 => 211 | 5 => 5 | 80 => 74 | n => n, fun | n => n⟩
theorem Tryz.lays156 : Go.Proofs.Lays.n156 Tryz.prog Tryz.lays156_ren := {
  mixed := by kernel_rfl
  f156 := Tryz.func147.trans (congrArg some (by kernel_rfl))
  f165 := Tryz.func179.trans (congrArg some (by kernel_rfl))
  f166 := Tryz.func180.trans (congrArg some (by kernel_rfl))
  f169 := Tryz.func181.trans (congrArg some (by kernel_rfl))
  f240 := Tryz.func198.trans (congrArg some (by kernel_rfl))
  f241 := Tryz.func199.trans (congrArg some (by kernel_rfl))
  f276 := Tryz.func218.trans (congrArg some (by kernel_rfl))
  f277 := Tryz.func219.trans (congrArg some (by kernel_rfl))
  t0 := Tryz.underlying0
  a0 := Tryz.isAgg0
  z0 := Tryz.sizeOf0
  v0 := Tryz.zeroValue0
  t3 := Tryz.underlying3
  a3 := Tryz.isAgg3
  z3 := Tryz.sizeOf3
  v3 := Tryz.zeroValue3
  t4 := Tryz.underlying4
  a4 := Tryz.isAgg4
  z4 := Tryz.sizeOf4
  v4 := Tryz.zeroValue4
  t9 := Tryz.underlying9
  a9 := Tryz.isAgg9
  z9 := Tryz.sizeOf9
  v9 := Tryz.zeroValue9
  t20 := Tryz.underlying20
  a20 := Tryz.isAgg20
  z20 := Tryz.sizeOf20
  v20 := Tryz.zeroValue20
  t31 := Tryz.underlying146
  a31 := Tryz.isAgg146
  z31 := Tryz.sizeOf146
  v31 := Tryz.zeroValue146
  t37 := Tryz.underlying22
  a37 := Tryz.isAgg22
  z37 := Tryz.sizeOf22
  v37 := Tryz.zeroValue22
  t70 := Tryz.underlying167
  a70 := Tryz.isAgg167
  z70 := Tryz.sizeOf167
  v70 := Tryz.zeroValue167
  t72 := Tryz.underlying169
  a72 := Tryz.isAgg169
  z72 := Tryz.sizeOf169
  v72 := Tryz.zeroValue169
  t75 := Tryz.underlying172
  a75 := Tryz.isAgg172
  z75 := Tryz.sizeOf172
  v75 := Tryz.zeroValue172
  t76 := Tryz.underlying173
  a76 := Tryz.isAgg173
  z76 := Tryz.sizeOf173
  v76 := Tryz.zeroValue173
  t127 := Tryz.underlying194
  a127 := Tryz.isAgg194
  z127 := Tryz.sizeOf194
  v127 := Tryz.zeroValue194
  t164 := Tryz.underlying211
  a164 := Tryz.isAgg211
  z164 := Tryz.sizeOf211
  v164 := Tryz.zeroValue211 }
theorem Tryz.Builder_Extra_156 : Builder.Extra Tryz.prog Tryz.lays156_ren := {
  sizeBuilder := by kernel_rfl
  liesBuilder := by kernel_rfl
  t5 := Tryz.underlying5
  a5 := Tryz.isAgg5
  z5 := Tryz.sizeOf5
  v5 := Tryz.zeroValue5
  infoByte := by kernel_rfl
  cellsByte := by kernel_rfl
  sizeByte := by kernel_rfl
  neB5 := by decide }
open Go.RowKit in
/-- No element: the empty string; the world is as it was. (Whatever the slice's address and capacity: a nil slice too.) (LAID: no walk: one application.) -/
theorem Tryz.strings_Join_none (a : Option Addr) (c : Nat) (sep : ByteArray) (w : World) :
    Calls Tryz.prog 147 #[.slice a 0 c, .string sep] w fun e w' => e = .returned (.string ⟨#[]⟩) ∧ w' = w := Any.strings_Join_none Tryz.lays156 Tryz.Builder_Extra_156 a c sep w
open Go.RowKit in
/-- strings.Join: "Join concatenates the elements of its first argument to create a single string. The separator string sep is placed between elements in the resulting string.": HOWEVER MANY ELEMENTS. Below the heap's end the world is as it was. (LAID: no walk: one application.) -/
theorem Tryz.strings_Join (bk o c : Nat) (xs : List ByteArray) (sep : ByteArray) (w : World) (hcells : ∀ (j : Nat) x, xs[j]? = some x → w.cell? ⟨bk, o + j, none⟩ = some (.string x)) (hbk : bk < w.heap.size) (hN : xs.length ≤ 140737488355328) (hcap : xs.length ≤ c) (hlen : (Lib.join (xs.map (·.data.toList)) sep.data.toList).length ≤ 140737488355328) :
    Calls Tryz.prog 147 #[.slice (some ⟨bk, o, none⟩) xs.length c, .string sep] w fun e w' => e = .returned (.string ⟨(Lib.join (xs.map (·.data.toList)) sep.data.toList).toArray⟩) ∧ Below w.heap.size w w' := Any.strings_Join Tryz.lays156 Tryz.Builder_Extra_156 bk o c xs sep w hcells hbk hN hcap hlen
def Tryz.laysM171_ren : Go.Shelf.Ren := ⟨fun | 171 => 89 | 243 => 149 | 246 => 182 | 283 => 200 | 284 => 201 | 285 => 202 | 286 => 203 | 129 => 221 | 317 => 220 | 318 => 222 | 319 => 223 | 320 => 224 | 337 => 232 | 338 => 233 | n => n, fun | 3 => 3 | 9 => 9 | 2 => 2 | 4 => 4 | 171 => 195 | 0 => 0 | 53 => 189 | 37 => 22 | 5 => 5 | 173 => 198 | 212 => 214 | 51 => 178 | 20 => 20 | 213 => 215 | 46 => 118 | 232 => 229 | 233 => 230 | n => n, fun | 17 => 1 | 18 => 4 | 19 => 5 | n => n⟩
theorem Tryz.laysM171 : Go.Proofs.LaysM.n171 Tryz.prog Tryz.laysM171_ren := {
  mixed := by kernel_rfl
  f129 := Tryz.func221.trans (congrArg some (by kernel_rfl))
  f171 := Tryz.func89.trans (congrArg some (by kernel_rfl))
  f243 := Tryz.func149.trans (congrArg some (by kernel_rfl))
  f246 := Tryz.func182.trans (congrArg some (by kernel_rfl))
  f283 := Tryz.func200.trans (congrArg some (by kernel_rfl))
  f284 := Tryz.func201.trans (congrArg some (by kernel_rfl))
  f285 := Tryz.func202.trans (congrArg some (by kernel_rfl))
  f286 := Tryz.func203.trans (congrArg some (by kernel_rfl))
  f317 := Tryz.func220.trans (congrArg some (by kernel_rfl))
  f318 := Tryz.func222.trans (congrArg some (by kernel_rfl))
  f319 := Tryz.func223.trans (congrArg some (by kernel_rfl))
  f320 := Tryz.func224.trans (congrArg some (by kernel_rfl))
  f337 := Tryz.func232.trans (congrArg some (by kernel_rfl))
  f338 := Tryz.func233.trans (congrArg some (by kernel_rfl))
  t0 := Tryz.underlying0
  a0 := Tryz.isAgg0
  z0 := Tryz.sizeOf0
  v0 := Tryz.zeroValue0
  t2 := Tryz.underlying2
  a2 := Tryz.isAgg2
  z2 := Tryz.sizeOf2
  v2 := Tryz.zeroValue2
  t3 := Tryz.underlying3
  a3 := Tryz.isAgg3
  z3 := Tryz.sizeOf3
  v3 := Tryz.zeroValue3
  t4 := Tryz.underlying4
  a4 := Tryz.isAgg4
  z4 := Tryz.sizeOf4
  v4 := Tryz.zeroValue4
  t5 := Tryz.underlying5
  a5 := Tryz.isAgg5
  z5 := Tryz.sizeOf5
  v5 := Tryz.zeroValue5
  t9 := Tryz.underlying9
  a9 := Tryz.isAgg9
  z9 := Tryz.sizeOf9
  v9 := Tryz.zeroValue9
  t20 := Tryz.underlying20
  a20 := Tryz.isAgg20
  z20 := Tryz.sizeOf20
  v20 := Tryz.zeroValue20
  t37 := Tryz.underlying22
  a37 := Tryz.isAgg22
  z37 := Tryz.sizeOf22
  v37 := Tryz.zeroValue22
  t46 := Tryz.underlying118
  a46 := Tryz.isAgg118
  z46 := Tryz.sizeOf118
  v46 := Tryz.zeroValue118
  t51 := Tryz.underlying178
  a51 := Tryz.isAgg178
  z51 := Tryz.sizeOf178
  v51 := Tryz.zeroValue178
  t53 := Tryz.underlying189
  a53 := Tryz.isAgg189
  z53 := Tryz.sizeOf189
  v53 := Tryz.zeroValue189
  t171 := Tryz.underlying195
  a171 := Tryz.isAgg195
  z171 := Tryz.sizeOf195
  v171 := Tryz.zeroValue195
  t173 := Tryz.underlying198
  a173 := Tryz.isAgg198
  z173 := Tryz.sizeOf198
  v173 := Tryz.zeroValue198
  t212 := Tryz.underlying214
  a212 := Tryz.isAgg214
  z212 := Tryz.sizeOf214
  v212 := Tryz.zeroValue214
  t213 := Tryz.underlying215
  a213 := Tryz.isAgg215
  z213 := Tryz.sizeOf215
  t232 := Tryz.underlying229
  a232 := Tryz.isAgg229
  z232 := Tryz.sizeOf229
  v232 := Tryz.zeroValue229
  t233 := Tryz.underlying230
  a233 := Tryz.isAgg230
  z233 := Tryz.sizeOf230
  v233 := Tryz.zeroValue230
  g17 := by kernel_rfl
  g18 := by kernel_rfl
  g19 := by kernel_rfl
  i0 := by kernel_rfl
  i2 := by kernel_rfl
  i3 := by kernel_rfl
  i4 := by kernel_rfl
  i5 := by kernel_rfl
  i9 := by kernel_rfl
  i20 := by kernel_rfl
  i37 := by kernel_rfl
  i46 := by kernel_rfl
  i51 := by kernel_rfl
  i53 := by kernel_rfl
  i171 := by kernel_rfl
  i173 := by kernel_rfl
  i212 := by kernel_rfl
  i232 := by kernel_rfl
  i233 := by kernel_rfl
  m17 := by kernel_rfl
  m18 := by kernel_rfl
  m19 := by kernel_rfl }
open Go.RowKit Go.Sort Go.Lib in
/-- strconv.Itoa: "Itoa is equivalent to FormatInt(int64(i), 10).": i's DECIMAL NUMERAL ('Lib.itoa': a '-' where i is negative, then the digits), FOR EVERY int. The world behind the call: the world before it, new blocks behind the heap (the library's 'var a [24]byte'), draws. (LAID: no walk: one application.) -/
theorem Tryz.strconv_Itoa (n : Int) (h0 : -9223372036854775808 ≤ n) (h1 : n ≤ 9223372036854775807) (w : World) (htab : Lib.TabIs Tryz.prog w "internal/strconv.uint64pow10" .u64 Lib.pow10Tab) :
    Calls Tryz.prog 89 #[.int .i64 n] w fun e w' => e = .returned (.string ⟨(Lib.itoa n).toArray⟩) ∧ ∃ k os, w' = grow (w.drewN k) os := Any.strconv_Itoa Tryz.laysM171 n h0 h1 w htab
def Tryz.lays185_ren : Go.Shelf.Ren := ⟨fun | 185 => 185 | 187 => 207 | 115 => 168 | 253 => 208 | 224 => 209 | 254 => 210 | 255 => 227 | 291 => 228 | n => n, fun | 37 => 22 | 3 => 3 | 4 => 4 | 0 => 0 | 5 => 5 | 46 => 118 | 9 => 9 | 146 => 218 | 51 => 178 | n => n, fun | 1 => 0 | n => n⟩
theorem Tryz.lays185 : Go.Proofs.Lays.n185 Tryz.prog Tryz.lays185_ren := {
  mixed := by kernel_rfl
  f115 := Tryz.func168.trans (congrArg some (by kernel_rfl))
  f185 := Tryz.func185.trans (congrArg some (by kernel_rfl))
  f187 := Tryz.func207.trans (congrArg some (by kernel_rfl))
  f224 := Tryz.func209.trans (congrArg some (by kernel_rfl))
  f253 := Tryz.func208.trans (congrArg some (by kernel_rfl))
  f254 := Tryz.func210.trans (congrArg some (by kernel_rfl))
  f255 := Tryz.func227.trans (congrArg some (by kernel_rfl))
  f291 := Tryz.func228.trans (congrArg some (by kernel_rfl))
  t0 := Tryz.underlying0
  a0 := Tryz.isAgg0
  z0 := Tryz.sizeOf0
  v0 := Tryz.zeroValue0
  t3 := Tryz.underlying3
  a3 := Tryz.isAgg3
  z3 := Tryz.sizeOf3
  v3 := Tryz.zeroValue3
  t4 := Tryz.underlying4
  a4 := Tryz.isAgg4
  z4 := Tryz.sizeOf4
  v4 := Tryz.zeroValue4
  t5 := Tryz.underlying5
  a5 := Tryz.isAgg5
  z5 := Tryz.sizeOf5
  v5 := Tryz.zeroValue5
  t9 := Tryz.underlying9
  a9 := Tryz.isAgg9
  z9 := Tryz.sizeOf9
  v9 := Tryz.zeroValue9
  t37 := Tryz.underlying22
  a37 := Tryz.isAgg22
  z37 := Tryz.sizeOf22
  v37 := Tryz.zeroValue22
  t46 := Tryz.underlying118
  a46 := Tryz.isAgg118
  z46 := Tryz.sizeOf118
  v46 := Tryz.zeroValue118
  t51 := Tryz.underlying178
  a51 := Tryz.isAgg178
  z51 := Tryz.sizeOf178
  v51 := Tryz.zeroValue178
  t146 := Tryz.underlying218
  a146 := Tryz.isAgg218
  z146 := Tryz.sizeOf218
  v146 := Tryz.zeroValue218
  g1 := by kernel_rfl }
open Go.RowKit Go.Lib in
/-- bytes.Index at a separator of one byte: "Index returns the index of the first instance of sep in s, or -1 if sep is not present in s.": 'Lib.indexByte' of s's bytes and that byte; the world is as it was. 'xs': s's elements; 'cv': the separator's one byte. (LAID: no walk: one application.) -/
theorem Tryz.bytes_Index_one (b o n c b2 o2 d : Nat) (xs : List Int) (cv : Int) (w : World) (hx : xs.length = n) (hc : ∀ i, i < n → w.cell? ⟨b, o + i, none⟩ = some (.int .u8 (xs.getD i 0))) (hc2 : w.cell? ⟨b2, o2, none⟩ = some (.int .u8 cv)) :
    Calls Tryz.prog 185 #[.slice (some ⟨b, o, none⟩) n c, .slice (some ⟨b2, o2, none⟩) 1 d] w fun e w' => e = .returned (.int .i64 (Lib.indexByte (Lib.bytesOf xs) cv.toNat.toUInt8)) ∧ w' = w := Any.bytes_Index_one Tryz.lays185 b o n c b2 o2 d xs cv w hx hc hc2
open Go.RowKit Go.Lib in
/-- The same where s is nil: -1. (LAID: no walk: one application.) -/
theorem Tryz.bytes_Index_one_nil (b2 o2 d : Nat) (cv : Int) (w : World) (hc2 : w.cell? ⟨b2, o2, none⟩ = some (.int .u8 cv)) :
    Calls Tryz.prog 185 #[.slice none 0 0, .slice (some ⟨b2, o2, none⟩) 1 d] w fun e w' => e = .returned (.int .i64 (-1)) ∧ w' = w := Any.bytes_Index_one_nil Tryz.lays185 b2 o2 d cv w hc2
def Tryz.laysSlB13_ren : Go.Shelf.Ren := ⟨fun | 13 => 184 | 24 => 205 | 25 => 206 | 12 => 185 | 31 => 226 | 19 => 207 | 20 => 168 | 21 => 208 | 22 => 209 | 23 => 210 | 29 => 227 | 30 => 228 | n => n, fun | 22 => 22 | 3 => 3 | 4 => 4 | 0 => 0 | 5 => 5 | 9 => 9 | 33 => 118 | 40 => 218 | 39 => 178 | n => n, fun | 0 => 0 | n => n⟩
theorem Tryz.laysSlB13 : Go.Proofs.SlLaysB.n13 Tryz.prog Tryz.laysSlB13_ren := {
  mixed := by kernel_rfl
  f13 := Tryz.func184.trans (congrArg some (by kernel_rfl))
  f25 := Tryz.func206.trans (congrArg some (by kernel_rfl))
  t0 := Tryz.underlying0
  a0 := Tryz.isAgg0
  z0 := Tryz.sizeOf0
  v0 := Tryz.zeroValue0
  t3 := Tryz.underlying3
  a3 := Tryz.isAgg3
  z3 := Tryz.sizeOf3
  v3 := Tryz.zeroValue3
  t4 := Tryz.underlying4
  a4 := Tryz.isAgg4
  z4 := Tryz.sizeOf4
  v4 := Tryz.zeroValue4
  t5 := Tryz.underlying5
  a5 := Tryz.isAgg5
  z5 := Tryz.sizeOf5
  v5 := Tryz.zeroValue5
  t22 := Tryz.underlying22
  a22 := Tryz.isAgg22
  z22 := Tryz.sizeOf22
  v22 := Tryz.zeroValue22 }
open Go.RowKit Go.Lib in
/-- bytes.Count at a separator of one byte: "Count counts the number of non-overlapping instances of sep in s.": how often that byte stands among s's ('Lib.countByte': 'List.count'); the world is as it was. 'xs': s's elements; 'cv': the separator's one byte. (LAID: no walk: one application.) -/
theorem Tryz.bytes_Count_one (b o n c b2 o2 d : Nat) (xs : List Int) (cv : Int) (w : World) (hx : xs.length = n) (hc : ∀ i, i < n → w.cell? ⟨b, o + i, none⟩ = some (.int .u8 (xs.getD i 0))) (hc2 : w.cell? ⟨b2, o2, none⟩ = some (.int .u8 cv)) :
    Calls Tryz.prog 184 #[.slice (some ⟨b, o, none⟩) n c, .slice (some ⟨b2, o2, none⟩) 1 d] w fun e w' => e = .returned (.int .i64 (Lib.countByte (Lib.bytesOf xs) cv.toNat.toUInt8)) ∧ w' = w := Any.bytes_Count_one Tryz.laysSlB13 b o n c b2 o2 d xs cv w hx hc hc2
open Go.RowKit Go.Lib in
/-- The same where s is nil: 0. (LAID: no walk: one application.) -/
theorem Tryz.bytes_Count_one_nil (b2 o2 d : Nat) (cv : Int) (w : World) (hc2 : w.cell? ⟨b2, o2, none⟩ = some (.int .u8 cv)) :
    Calls Tryz.prog 184 #[.slice none 0 0, .slice (some ⟨b2, o2, none⟩) 1 d] w fun e w' => e = .returned (.int .i64 0) ∧ w' = w := Any.bytes_Count_one_nil Tryz.laysSlB13 b2 o2 d cv w hc2
end Go.Proofs

/- TfItoT -/
namespace Go.TL.Tryz
open Go Go.TL Go.Proofs Go.RowKit Go.Sort
set_option maxRecDepth 20000

theorem acall_pure {P : Program} {f : Nat} {fn : Func} {args : List A} {K : A → Obs → Prop} (hf : P.funcs[f]? = some fn) (hb : fn.body.isSome = true) (hn : fn.name ≠ "runtime.NumGoroutine")
    (h : ∀ (w : World) (ok : Nat → Prop) (hd : HF) (vs : List Value), Gl P w ok → (∀ b, ok b → b < w.heap.size) → vs.length = args.length → (∀ (i : Nat) v x, vs[i]? = some v → args[i]? = some x → AR w ok hd (look []) v x) →
      Calls P f vs.toArray w fun e w' => ∃ v t, e = .returned v ∧ Below w.heap.size w w' ∧ (∀ w'', Rep w'' ok v t) ∧ K (.one (.t t)) []) : ACall P f args [] K := by
  refine acall_calls hf hb hn ?_
  intro w ok hd vs G R hl ha
  refine (h w ok hd vs G R.okLt hl ha).mono ?_
  rintro e w' ⟨v, t, rfl, hb, hr, hk⟩
  refine ⟨_, rfl, ok, hd, _, [], hk, ?_, .one _ _ (hr w')⟩
  exact ⟨⟨fun b hb' => Nat.lt_of_lt_of_le (R.okLt b hb') hb.size, fun n b h => absurd rfl h, fun n m b _ h => absurd rfl h, fun n o h => by cases h⟩, hb.os, hb.tape, hb.output, hb.size, fun b h1 _ => hb.block b h1, fun _ h => h, fun _ h => .inl h, fun n b h => absurd rfl h, TL.Keep.refl _ _⟩
theorem rep_string (l : List UInt8) (h : l.length ≤ 2 ^ 63 - 1) (w : World) (ok : Nat → Prop) : Rep w ok (.string ⟨l.toArray⟩) (.str l) := by
  have := Rep.str (w := w) (ok := ok) ⟨l.toArray⟩ (by simpa [ByteArray.size] using h)
  simpa using this
theorem drewN_heap (w : World) (k : Nat) : (w.drewN k).heap = w.heap ∧ (w.drewN k).os = w.os ∧ (w.drewN k).tape = w.tape ∧ (w.drewN k).output = w.output := by
  exact ⟨rfl, rfl, rfl, rfl⟩
theorem below_grow (w : World) (k : Nat) (os : Array Obj) : Below w.heap.size w (grow (w.drewN k) os) :=
  ⟨rfl, rfl, rfl, by simp [grow, (drewN_heap w k).1], fun i hi => by simp only [grow, (drewN_heap w k).1]; rw [Array.getElem?_append_left hi]⟩
theorem pow10_eq : Lib.pow10Tab = pow10L := by decide +kernel
theorem iItoa {P : Program} (hP : Prg P) {n : Int} : ACall P 89 [.one (.t (.int .i64 n))] [] (fun r ob => r = .one (.t (.str (Lib.itoa n))) ∧ ob = []) := by
  have hP := hP.eq
  subst hP
  refine acall_pure Tryz.func89 (by rfl) (by decide) ?_
  intro w ok hd vs G hlt hl ha
  obtain ⟨v, rfl⟩ : ∃ v, vs = [v] := by
    match vs, hl with
    | [v], _ => exact ⟨v, rfl⟩
  have hv := (ha 0 v _ rfl rfl).one_inv
  cases hv with
  | int _ _ hk =>
    obtain ⟨h0, h1⟩ := i64_rng hk
    obtain ⟨g, hg⟩ : ∃ g, Tryz.prog.globalNamed "internal/strconv.uint64pow10" = some g := ⟨_, by rfl⟩
    have htab : Lib.TabIs Tryz.prog w "internal/strconv.uint64pow10" .u64 Lib.pow10Tab := by
      have := (G g hg).2
      rw [Lib.TabIs, pow10_eq]; exact this
    refine (Tryz.strconv_Itoa n h0 h1 w htab).mono ?_
    rintro e w' ⟨rfl, k, os, rfl⟩
    exact ⟨_, _, rfl, below_grow w k os, fun w'' => rep_string _ (by have := Lib.itoa_length_le n h0 h1; omega) w'' ok, rfl, rfl⟩
theorem dec_digits (u : Nat) : ∀ x, x ∈ Lib.decDigits u → 48 ≤ iB x ∧ iB x ≤ 57 := by
  induction u using Nat.strongRecOn with
  | _ u ih =>
    intro x hx
    have key : ∀ d : Nat, d < 10 → 48 ≤ iB (UInt8.ofNat (48 + d)) ∧ iB (UInt8.ofNat (48 + d)) ≤ 57 := by
      intro d hd
      simp only [iB, UInt8.toNat_ofNat']; omega
    rw [Lib.decDigits] at hx
    split at hx
    · rw [List.mem_singleton] at hx; subst hx; exact key u (by assumption)
    · rcases List.mem_append.1 hx with h | h
      · exact ih (u / 10) (by omega) x h
      · rw [List.mem_singleton] at h; subst h; exact key (u % 10) (by omega)
theorem itoa_chars {n : Int} : ∀ x, x ∈ Lib.itoa n → 45 ≤ iB x ∧ iB x ≤ 57 := by
  intro x hx
  unfold Lib.itoa at hx
  split at hx
  · rcases List.mem_cons.1 hx with e | h
    · subst e; decide
    · have := dec_digits _ x h; omega
  · have := dec_digits _ x hx; omega
theorem itoa_len {n : Int} (h : IntKind.i64.has n) : (Lib.itoa n).length ≤ 21 := Lib.itoa_length_le n (i64_rng h).1 (i64_rng h).2

theorem rep_str_inv {w : World} {ok : Nat → Prop} {v : Value} {s : List UInt8} (h : Rep w ok v (.str s)) : v = .string ⟨s.toArray⟩ := by
  cases h with
  | str b hb => congr
theorem iJoin {P : Program} (hP : Prg P) {l : List (List UInt8)} {ws : List (List T)} {sep : List UInt8} (hl : encS l = ws) (hn : l.length ≤ 100) (hb : (Lib.join l sep).length ≤ 1000000) :
    ACall P 147 [.one (.t (.sl ws)), .one (.t (.str sep))] [] (fun r ob => r = .one (.t (.str (Lib.join l sep))) ∧ ob = []) := by
  have hP := hP.eq
  subst hP
  refine acall_pure Tryz.func147 (by rfl) (by decide) ?_
  intro w ok hd vs G hlt hvl ha
  obtain ⟨v, u, rfl⟩ : ∃ v u, vs = [v, u] := by
    match vs, hvl with
    | [v, u], _ => exact ⟨v, u, rfl⟩
  have hv : Rep w ok v (.sl ws) := (ha 0 v _ rfl rfl).one_inv
  have hu := rep_str_inv (show Rep w ok u (.str sep) from (ha 1 u _ rfl rfl).one_inv)
  subst hu
  subst hl
  have hml : (l.map fun s => (⟨s.toArray⟩ : ByteArray)).map (·.data.toList) = l := by
    rw [List.map_map]; exact List.map_id'' (fun s => by simp) l
  generalize hes : encS l = es at hv
  cases hv with
  | snil =>
    have : l = [] := by simpa [encS] using hes
    subst this
    refine (Tryz.strings_Join_none none 0 ⟨sep.toArray⟩ w).mono ?_
    rintro e w' ⟨rfl, rfl⟩
    exact ⟨_, _, rfl, Below.refl _ _, fun w'' => rep_string [] (by simp) w'' ok, rfl, rfl⟩
  | sl b off cap sz _ vs hm hcap hsz hok hc hr =>
    have hel : es.length = l.length := encS_len hes
    have := Tryz.strings_Join b off cap (l.map fun s => (⟨s.toArray⟩ : ByteArray)) ⟨sep.toArray⟩ w ?_ (hlt b hok) (by simp; omega) (by simp; omega) (by rw [hml]; simpa using Nat.le_trans hb (by decide))
    · rw [hml, List.length_map, ← hel] at this
      refine this.mono ?_
      rintro e w' ⟨rfl, hB⟩
      exact ⟨_, _, rfl, hB, fun w'' => rep_string _ (by simp; omega) w'' ok, rfl, rfl⟩
    · intro j x hj
      rw [List.getElem?_map] at hj
      cases hs : l[j]? with
      | none => rw [hs] at hj; cases hj
      | some s =>
        rw [hs] at hj
        injection hj with hj; subst hj
        have hjl := (List.getElem?_eq_some_iff.1 hs).1
        have he : es[j]? = some [.str s] := by rw [← hes, encS, List.getElem?_map, hs]; rfl
        have hz : sz = 1 := by rw [← hsz _ (List.mem_of_getElem? he)]; rfl
        subst hz
        have h1 := hc j 0 (by omega) (by omega)
        have h2 := rep_str_inv (hr j 0 _ _ he rfl)
        rw [h2] at h1
        simpa using h1
end Go.TL.Tryz

/- TfTrm -/
namespace Go.TL.Tryz
open Go Go.TL Go.Proofs
variable {P : Program}

def trimB (b c : List UInt8) : List UInt8 := if sufB b c then b.take (b.length - c.length) else b
set_option maxRecDepth 20000 in
theorem fn107 : Tryz.prog.funcs[107]? = some Tryz.f107 := rfl
set_option maxHeartbeats 40000000 in
set_option maxRecDepth 3000 in
theorem iTrimSuffix (hP : Prg P) {b c : List UInt8} {es fs : List (List T)} (hl : encB b = es) (hm : encB c = fs) (hb : b.length ≤ 1000000) (hc : c.length ≤ 1000000) : ACall P 107 [.one (.t (.sl es)), .one (.t (.sl fs))] [] (fun r ob => r = .one (.t (.sl (encB (trimB b c)))) ∧ ob = []) := by
  have hl1 := encB_len hl
  have hl2 := encB_len hm
  refine acall_fn (md := md) [none] v107 hP.mixed hP.tab (fn_at hP fn107) 2 rfl (by decide +kernel) rfl ?_
  intro ar har
  cbv
  repeat' (first | (intro; cbv) | (with_reducible refine and_side ?_ ?_; rotate_left; try cbv) | (refine ChkP.mk (by rfl) ?_; cbv) | (refine br_intro ?_ ?_ <;> intro <;> cbv) | (refine get_at har (by assumption) (by assumption) (by assumption) (by assumption) ?_; cbv) | (refine get_lt har (by assumption) (by assumption) (by assumption) ?_; intro x xx hx hxx; cbv) | (refine get_atN har (by assumption) (by assumption) (by assumption) (by assumption) ?_; cbv) | (refine get_ltN har (by assumption) (by assumption) (by assumption) ?_; intro x xx hx hxx; cbv) | (refine get_atI har (by assumption) (by assumption) (by decide) ?_; cbv) | (refine get_twoA har (by assumption) (by assumption) (by decide) ?_; intro x hx; cbv) | (refine get_twoB har (by assumption) (by assumption) (by decide) ?_; intro x hx; cbv) | (refine bytes_intro (by assumption) ?_; cbv) | (exact side_lt har (by assumption) (by assumption)) | (exact side_inb har (by assumption) (by assumption) (by assumption)) | (exact side_sh har (by decide)) | (exact side_app har (by assumption) (by assumption) (by omega)) | (exact side_app0 har (by assumption) (by omega)) | (exact side_new har (by assumption) (by omega)) | (exact side_one har (by assumption) (by omega)) | (exact side_oneN har (by assumption) (by omega)) | (exact side_flat har (by assumption)) | (exact side_sbig har (by omega)) | (refine side_sbig har ?_; simp; done) | (exact side_oneI har (by assumption) (by omega)) | (refine side_ix har ?_; simp; done) | (refine side_ix har ?_; simp; omega) | (refine call_intro (iHasSuffix hP (by assumption) (by assumption) (by omega) (by omega)) ?_; rintro r ob ⟨rfl, rfl⟩; generalize hsf : sufB _ _ = sf; cbv) | (refine calld_intro (iHasSuffix hP (by assumption) (by assumption) (by omega) (by omega)) ?_; generalize hsf : sufB _ _ = sf; cbv))
  · rename_i h1 _ _ _
    have hle : c.length ≤ b.length := by rw [h1] at hsf; simp only [sufB, Bool.and_eq_true, decide_eq_true_eq] at hsf; exact hsf.1
    refine ⟨⟨?_, rfl⟩⟩
    rw [trimB, hsf, if_pos h1]
    refine congrArg (fun q => A.one (.t (.sl q))) ?_
    subst har; subst hl; subst hm
    show ((encB b).take (iopS .sub .i64 ((encB b).length : Int) ((encB c).length : Int)).toNat).drop (0 : Int).toNat = _
    rw [subI (by omega) (by omega), hl1, hl2, show ((b.length : Int) - (c.length : Int)).toNat = b.length - c.length by omega]
    simp [encB]
  · rename_i h1 _ _ _
    have hle : c.length ≤ b.length := by rw [h1] at hsf; simp only [sufB, Bool.and_eq_true, decide_eq_true_eq] at hsf; exact hsf.1
    have e : ar.iop .sub .i64 (ar.len es) (ar.len fs) = (b.length : Int) - c.length := by
      subst har; show iopS .sub .i64 (es.length : Int) (fs.length : Int) = _; rw [subI (by omega) (by omega), hl1, hl2]
    exact (show Side (ar.insub 0 (ar.iop .sub .i64 (ar.len es) (ar.len fs)) es ∧ ar.wid 1 es) by rw [e]; exact side_sub har hl ⟨by omega, by omega, by omega⟩)
  · rename_i h1
    exact ⟨⟨by rw [trimB, hsf, h1]; simp [hl], rfl⟩⟩
end Go.TL.Tryz

/- TfSpxI -/
namespace Go.TL.Tryz
open Go Go.TL Go.Proofs Go.RowKit
set_option maxRecDepth 20000

theorem rep_u8 {w : World} {ok : Nat → Prop} {v : Value} {n : Int} (h : Rep w ok v (.int .u8 n)) : v = .int .u8 n := by cases h; rfl
/-- What the kit is told of bytes. -/
theorem cells_of {w : World} {ok : Nat → Prop} {v : Value} {s : List UInt8} (h : Rep w ok v (.sl (encB s))) : (v = .slice none 0 0 ∧ s = []) ∨
    ∃ b off cap, v = .slice (some ⟨b, off, none⟩) s.length cap ∧ ∀ i, i < s.length → w.cell? ⟨b, off + i, none⟩ = some (.int .u8 ((s.map iB).getD i 0)) := by
  generalize hes : encB s = es at h
  cases h with
  | snil => exact .inl ⟨rfl, by simpa [encB] using hes⟩
  | sl b off cap sz _ vs hm hcap hsz hok hc hr =>
    have hel := encB_len hes
    refine .inr ⟨b, off, cap, by rw [hel], fun i hi => ?_⟩
    have he : es[i]? = some [.int .u8 (iB s[i])] := by rw [← hes, encB, List.getElem?_map, List.getElem?_eq_getElem hi]; rfl
    have hz : sz = 1 := by rw [← hsz _ (List.mem_of_getElem? he)]; rfl
    subst hz
    have h1 := hc i 0 (by omega) (by omega)
    rw [rep_u8 (hr i 0 _ _ he rfl)] at h1
    rw [List.getD, List.getElem?_map, List.getElem?_eq_getElem hi]
    simpa using h1
theorem bytesOf_iB (s : List UInt8) : Lib.bytesOf (s.map iB) = s := by
  rw [Lib.bytesOf, List.map_map]
  exact List.map_id'' (fun x => by simp [iB]) s
theorem iB_u8 (x : UInt8) : (iB x).toNat.toUInt8 = x := by simp [iB]
theorem one_cell {w : World} {ok : Nat → Prop} {v : Value} {x : UInt8} (h : Rep w ok v (.sl [[.int .u8 (iB x)]])) : ∃ b off cap, v = .slice (some ⟨b, off, none⟩) 1 cap ∧ w.cell? ⟨b, off, none⟩ = some (.int .u8 (iB x)) := by
  rcases cells_of (s := [x]) h with ⟨_, h2⟩ | ⟨b, off, cap, h1, h2⟩
  · cases h2
  · exact ⟨b, off, cap, h1, by simpa using h2 0 (by simp)⟩
theorem rep_i64 (n : Int) (h0 : -9223372036854775808 ≤ n) (h1 : n ≤ 9223372036854775807) (w : World) (ok : Nat → Prop) : Rep w ok (.int .i64 n) (.int .i64 n) :=
  .int _ _ (by simp [IntKind.has, IntKind.min, IntKind.max, IntKind.signed, IntKind.bits]; omega)
theorem index_lt (s : List UInt8) (x : UInt8) : -1 ≤ Lib.indexByte s x ∧ Lib.indexByte s x < (s.length : Int) + 1 := by
  induction s with
  | nil => exact ⟨Int.le_refl _, by show (-1 : Int) < 0 + 1; decide⟩
  | cons b l ih =>
    unfold Lib.indexByte
    split
    · exact ⟨by decide, by simp only [List.length_cons]; omega⟩
    · split
      · exact ⟨by decide, by simp only [List.length_cons]; omega⟩
      · exact ⟨by omega, by simp only [List.length_cons]; omega⟩
theorem iIndex1 {P : Program} (hP : Prg P) {s : List UInt8} {ss : List (List T)} {x : UInt8} {xx : Int} (hs : encB s = ss) (hx : iB x = xx) (hb : s.length ≤ 1000000) :
    ACall P 185 [.one (.t (.sl ss)), .one (.t (.sl [[.int .u8 xx]]))] [] (fun r ob => r = .one (.t (.int .i64 (Lib.indexByte s x))) ∧ ob = []) := by
  have hP := hP.eq
  subst hP
  subst hs
  subst hx
  refine acall_pure Tryz.func185 (by rfl) (by decide) ?_
  intro w ok hd vs G hlt hl ha
  obtain ⟨v, u, rfl⟩ : ∃ v u, vs = [v, u] := by
    match vs, hl with
    | [v, u], _ => exact ⟨v, u, rfl⟩
  obtain ⟨b2, o2, c2, rfl, hc2⟩ := one_cell (show Rep w ok u (.sl [[.int .u8 (iB x)]]) from (ha 1 u _ rfl rfl).one_inv)
  have hr := index_lt s x
  rcases cells_of (show Rep w ok v (.sl (encB s)) from (ha 0 v _ rfl rfl).one_inv) with ⟨rfl, rfl⟩ | ⟨b, off, cap, rfl, hc⟩
  · refine (Tryz.bytes_Index_one_nil b2 o2 c2 (iB x) w hc2).mono ?_
    rintro e w' ⟨rfl, rfl⟩
    exact ⟨_, _, rfl, Below.refl _ _, fun w'' => rep_i64 (-1) (by decide) (by decide) w'' ok, rfl, rfl⟩
  · refine (Tryz.bytes_Index_one b off s.length cap b2 o2 c2 (s.map iB) (iB x) w (by simp) hc hc2).mono ?_
    rintro e w' ⟨rfl, rfl⟩
    rw [bytesOf_iB, iB_u8]
    exact ⟨_, _, rfl, Below.refl _ _, fun w'' => rep_i64 _ (by omega) (by omega) w'' ok, rfl, rfl⟩
theorem count_le (s : List UInt8) (x : UInt8) : Lib.countByte s x ≤ s.length := List.count_le_length
theorem iCount1 {P : Program} (hP : Prg P) {s : List UInt8} {ss : List (List T)} {x : UInt8} {xx : Int} (hs : encB s = ss) (hx : iB x = xx) (hb : s.length ≤ 1000000) :
    ACall P 184 [.one (.t (.sl ss)), .one (.t (.sl [[.int .u8 xx]]))] [] (fun r ob => r = .one (.t (.int .i64 (Lib.countByte s x))) ∧ ob = []) := by
  have hP := hP.eq
  subst hP
  subst hs
  subst hx
  refine acall_pure Tryz.func184 (by rfl) (by decide) ?_
  intro w ok hd vs G hlt hl ha
  obtain ⟨v, u, rfl⟩ : ∃ v u, vs = [v, u] := by
    match vs, hl with
    | [v, u], _ => exact ⟨v, u, rfl⟩
  obtain ⟨b2, o2, c2, rfl, hc2⟩ := one_cell (show Rep w ok u (.sl [[.int .u8 (iB x)]]) from (ha 1 u _ rfl rfl).one_inv)
  have hr := count_le s x
  rcases cells_of (show Rep w ok v (.sl (encB s)) from (ha 0 v _ rfl rfl).one_inv) with ⟨rfl, rfl⟩ | ⟨b, off, cap, rfl, hc⟩
  · refine (Tryz.bytes_Count_one_nil b2 o2 c2 (iB x) w hc2).mono ?_
    rintro e w' ⟨rfl, rfl⟩
    exact ⟨_, _, rfl, Below.refl _ _, fun w'' => rep_i64 0 (by decide) (by decide) w'' ok, rfl, rfl⟩
  · refine (Tryz.bytes_Count_one b off s.length cap b2 o2 c2 (s.map iB) (iB x) w (by simp) hc hc2).mono ?_
    rintro e w' ⟨rfl, rfl⟩
    rw [bytesOf_iB, iB_u8]
    exact ⟨_, _, rfl, Below.refl _ _, fun w'' => rep_i64 _ (by omega) (by omega) w'' ok, rfl, rfl⟩

/-- The pieces between a byte's places. -/
def splitC (x : UInt8) : List UInt8 → List (List UInt8)
  | [] => [[]]
  | b :: l => if b = x then [] :: splitC x l else match splitC x l with
    | [] => [[b]]
    | p :: r => (b :: p) :: r
theorem split_none {x : UInt8} : ∀ {s : List UInt8}, Lib.indexByte s x = -1 → splitC x s = [s] ∧ Lib.countByte s x = 0
  | [], _ => ⟨rfl, rfl⟩
  | b :: l, h => by
    unfold Lib.indexByte at h
    split at h
    · omega
    · rename_i hb
      have hne : ¬ b = x := by simpa using hb
      split at h
      · rename_i h1
        obtain ⟨i1, i2⟩ := split_none (s := l) (by simpa using h1)
        refine ⟨by rw [splitC, if_neg hne, i1], ?_⟩
        unfold Lib.countByte at *
        rw [List.count_cons_of_ne (by simpa using hne)]; exact i2
      · have := Lib.indexByte_ge l x; rename_i h1; simp at h1; omega
theorem split_some {x : UInt8} : ∀ {s : List UInt8} {m : Nat}, Lib.indexByte s x = m → m < s.length ∧ splitC x s = s.take m :: splitC x (s.drop (m + 1)) ∧ Lib.countByte s x = Lib.countByte (s.drop (m + 1)) x + 1
  | [], m, h => by unfold Lib.indexByte at h; omega
  | b :: l, m, h => by
    unfold Lib.indexByte at h
    split at h
    · rename_i hb
      have hb : b = x := by simpa using hb
      have : m = 0 := by omega
      subst this
      exact ⟨by simp, by rw [splitC, if_pos hb]; rfl, by unfold Lib.countByte; rw [hb, List.count_cons_self]; rfl⟩
    · rename_i hb
      have hne : ¬ b = x := by simpa using hb
      split at h
      · omega
      · rename_i h1
        have hge := Lib.indexByte_ge l x
        have h1 : Lib.indexByte l x ≠ -1 := by simpa using h1
        obtain ⟨j, rfl⟩ : ∃ j, m = j + 1 := ⟨m - 1, by omega⟩
        obtain ⟨i1, i2, i3⟩ := split_some (x := x) (s := l) (m := j) (by omega)
        refine ⟨by simp; omega, ?_, ?_⟩
        · rw [splitC, if_neg hne, i2]; rfl
        · unfold Lib.countByte at *
          rw [List.count_cons_of_ne (by simpa using hne), i3]; rfl
theorem split_zero {x : UInt8} {s : List UInt8} (h : Lib.countByte s x = 0) : splitC x s = [s] := by
  by_cases hi : Lib.indexByte s x = -1
  · exact (split_none hi).1
  · have hge := Lib.indexByte_ge s x
    obtain ⟨m, hm⟩ := Int.eq_ofNat_of_zero_le (show 0 ≤ Lib.indexByte s x by omega)
    have := (split_some hm).2.2
    omega
end Go.TL.Tryz

/- TfSplI -/
namespace Go.TL.Tryz
open Go Go.TL Go.Proofs Go.RowKit
set_option maxRecDepth 20000

set_option maxRecDepth 20000 in
theorem fn151 : Tryz.prog.funcs[151]? = some Tryz.f151 := rfl
set_option maxHeartbeats 40000000 in
set_option maxRecDepth 3000 in
theorem split_n {ar : Ar} (har : ar = std) {s : List UInt8} {ss : List (List T)} {c : Nat} {ct : Int} (hs : encB s = ss) (hb : s.length ≤ 1000000) (hc : c ≤ s.length) (hct : ((c : Nat) : Int) = ct) :
    ar.imin (ar.iop .add .i64 ct 1) (ar.iop .add .i64 (ar.len ss) 1) = ct + 1 ∧ ar.iop .sub .i64 (ar.imin (ar.iop .add .i64 ct 1) (ar.iop .add .i64 (ar.len ss) 1)) 1 = ct := by
  have hl := encB_len hs
  subst har
  have e1 : iopS .add .i64 ct 1 = ct + 1 := addI (by omega) (by omega)
  have e2 : iopS .add .i64 (ss.length : Int) 1 = ss.length + 1 := addI (by omega) (by omega)
  have e3 : std.imin (std.iop .add .i64 ct 1) (std.iop .add .i64 (std.len ss) 1) = ct + 1 := by
    show (if iopS .add .i64 (ss.length : Int) 1 < iopS .add .i64 ct 1 then iopS .add .i64 (ss.length : Int) 1 else iopS .add .i64 ct 1) = _
    rw [e1, e2, if_neg (by omega)]
  refine ⟨e3, ?_⟩
  rw [e3]
  show iopS .sub .i64 (ct + 1) 1 = ct
  rw [subI (by omega) (by omega)]; omega
theorem sp_lt {ar : Ar} (har : ar = std) {a b c : Int} (e : b = c) (h : ar.icmp .lss a b = true) : a < c := by subst har; subst e; simpa [std, icmpS] using h
theorem sp_ge {ar : Ar} (har : ar = std) {a b c : Int} (e : b = c) (h : ar.icmp .lss a b = false) : c ≤ a := by subst har; subst e; simpa [std, icmpS] using h
def SQ (N : Nat) (done : List (List UInt8)) (es : List (List T)) (i : Int) : Prop :=
  es = encN (done ++ List.replicate (N + 1 - done.length) []) ∧ i.toNat = done.length ∧ 0 ≤ i ∧ done.length ≤ N ∧ N ≤ 1000000
theorem SQ.len {N done es i} (h : SQ N done es i) : es.length = N + 1 := by
  obtain ⟨rfl, _, _, h4, _⟩ := h
  simp [encN]; omega
theorem sp_inb {ar : Ar} (har : ar = std) {N done es i} (h : SQ N done es i) : Side (ar.inb i es) := by
  have hl := h.len
  obtain ⟨_, h2, h3, h4, _⟩ := h
  subst har
  exact ⟨⟨h3, by omega⟩⟩
theorem drop_mid {α : Type} (l : List α) (a : α) (r : List α) {n : Nat} (h : l.length = n) : (l ++ a :: r).drop (n + 1) = r := by
  subst h
  induction l with
  | nil => rfl
  | cons b l ih => simpa using ih
theorem sp_set {ar : Ar} (har : ar = std) {N done es i} (h : SQ N done es i) {p : List UInt8} {ps : List (List T)} (hp : encB p = ps) :
    ar.setc es i 0 [.sl ps] = encN ((done ++ [p]) ++ List.replicate (N + 1 - (done ++ [p]).length) []) := by
  obtain ⟨rfl, h2, h3, h4, h5⟩ := h
  subst har
  subst hp
  show (encN _).modify i.toNat (fun e => setAt e 0 [.sl (encB p)]) = _
  rw [h2]
  obtain ⟨k, hk⟩ : ∃ k, N + 1 - done.length = k + 1 := ⟨N - done.length, by omega⟩
  have hk2 : N + 1 - (done ++ [p]).length = k := by simp; omega
  rw [hk, hk2]
  simp only [encN, List.map_append, List.replicate_succ, List.map_cons, List.append_assoc, List.cons_append, List.nil_append, List.map_nil]
  rw [List.modify_eq_take_cons_drop (by simp), drop_mid _ _ _ (by simp)]
  simp
  rfl
theorem sp_i {ar : Ar} (har : ar = std) {N done es i} (h : SQ N done es i) : ar.iop .add .i64 i 1 = i + 1 := by
  obtain ⟨_, h2, h3, h4, h5⟩ := h
  subst har
  exact addI (by omega) (by omega)
theorem sp_next {ar : Ar} (har : ar = std) {N done es i} (h : SQ N done es i) {p : List UInt8} {ps : List (List T)} (hp : encB p = ps) (hN : done.length < N) : SQ N (done ++ [p]) (ar.setc es i 0 [.sl ps]) (i + 1) :=
  ⟨sp_set har h hp, by obtain ⟨_, h2, h3, h4, h5⟩ := h; simp; omega, by obtain ⟨_, h2, h3, h4, h5⟩ := h; omega, by simp; omega, h.2.2.2.2⟩
theorem sp_cut {ar : Ar} (har : ar = std) {N done es i} (h : SQ N done es i) {p : List UInt8} {ps : List (List T)} (hp : encB p = ps) :
    Side (ar.insub 0 (ar.iop .add .i64 i 1) (ar.setc es i 0 [.sl ps]) ∧ ar.wid 1 (ar.setc es i 0 [.sl ps])) := by
  rw [sp_i har h]
  have hw : ar.wid 1 (ar.setc es i 0 [.sl ps]) := by rw [sp_set har h hp]; subst har; exact wid_encN _
  have hl : (ar.setc es i 0 [.sl ps]).length = N + 1 := by
    have hl := h.len
    subst har
    show (es.modify _ _).length = _
    rw [List.length_modify, hl]
  obtain ⟨_, h2, h3, h4, h5⟩ := h
  subst har
  exact ⟨⟨⟨by omega, by omega, by omega⟩, hw⟩⟩
theorem sp_end {ar : Ar} (har : ar = std) {N done es i} (h : SQ N done es i) {p : List UInt8} {ps : List (List T)} (hp : encB p = ps) :
    ar.sub (ar.setc es i 0 [.sl ps]) 0 (ar.iop .add .i64 i 1) = encN (done ++ [p]) := by
  rw [sp_i har h, sp_set har h hp]
  obtain ⟨_, h2, h3, h4, h5⟩ := h
  subst har
  show ((encN _).take (i + 1).toNat).drop 0 = _
  have : (i + 1).toNat = (encN (done ++ [p])).length := by simp [encN]; omega
  have ha : ∀ a b, encN (a ++ b) = encN a ++ encN b := fun a b => List.map_append
  rw [this, List.drop_zero, ha (done ++ [p])]
  exact List.take_left
theorem sp_sub {ar : Ar} (har : ar = std) {s : List UInt8} {ss : List (List T)} (hs : encB s = ss) {x : Int} {ix : Int} {m : Nat} (hm : ix = m) (hl : m < s.length) (hb : s.length ≤ 1000000) :
    ar.sub ss 0 (ar.iop .add .i64 ix 0) = encB (s.take m) ∧ ar.iop .add .i64 ix 0 = ix ∧ ar.sub ss (ar.iop .add .i64 ix (ar.len [[.int .u8 x]])) (ar.len ss) = encB (s.drop (m + 1)) ∧
    Side (ar.insub 0 (ar.iop .add .i64 ix 0) ss ∧ ar.insub (ar.iop .add .i64 ix 0) (ar.iop .add .i64 ix 0) ss ∧ ar.wid 1 ss) ∧
    Side (ar.insub (ar.iop .add .i64 ix (ar.len [[.int .u8 x]])) (ar.len ss) ss ∧ ar.wid 1 ss) := by
  have hel := encB_len hs
  have hw : std.wid 1 ss := by rw [← hs]; intro y hy; obtain ⟨z, _, rfl⟩ := List.mem_map.1 hy; rfl
  subst har
  subst hm
  have e0 : iopS .add .i64 (m : Int) 0 = m := by rw [addI (by omega) (by omega)]; omega
  have e1 : iopS .add .i64 (m : Int) 1 = m + 1 := addI (by omega) (by omega)
  refine ⟨?_, e0, ?_, ?_, ?_⟩
  · show (ss.take (iopS .add .i64 (m : Int) 0).toNat).drop 0 = _
    rw [e0, ← hs]; simp [encB, List.map_take]
  · show (ss.take (ss.length : Int).toNat).drop (iopS .add .i64 (m : Int) 1).toNat = _
    rw [e1, ← hs]
    rw [show ((m : Int) + 1).toNat = m + 1 by omega, List.take_of_length_le (by simp)]
    simp [encB, List.map_drop]
  · rw [show std.iop .add .i64 (m : Int) 0 = m from e0]
    exact ⟨⟨⟨by omega, by omega, by omega⟩, ⟨by omega, by omega, by omega⟩, hw⟩⟩
  · show Side (std.insub (iopS .add .i64 (m : Int) 1) (ss.length : Int) ss ∧ _)
    rw [e1]
    exact ⟨⟨⟨by omega, by omega, by omega⟩, hw⟩⟩
theorem iGenSplit {P : Program} (hP : Prg P) {s : List UInt8} {ss : List (List T)} {x : UInt8} {xx : Int} (hs : encB s = ss) (hx : iB x = xx) (hb : s.length ≤ 1000000) :
    ACall P 151 [.one (.t (.sl ss)), .one (.t (.sl [[.int .u8 xx]])), .one (.t (.int .i64 0)), .one (.t (.int .i64 (-1)))] [] (fun r ob => r = .one (.t (.sl (encN (splitC x s)))) ∧ ob = []) := by
  have hcl := count_le s x
  generalize hn : Lib.countByte s x = N at hcl
  generalize hK : (fun (r : A) (ob : Obs) => r = .one (.t (.sl (encN (splitC x s)))) ∧ ob = []) = K
  have hk : ∀ t, t = encN (splitC x s) → RetP K (A.one (V.t (T.sl t))) [] := by
    intro t ht
    subst hK
    exact ⟨⟨by rw [ht], rfl⟩⟩
  refine acall_fn (md := md) [none] v151 hP.mixed hP.tab (fn_at hP fn151) 4 rfl (by decide +kernel) rfl ?_
  intro ar har
  cbv
  repeat' (first | (intro; cbv) | (with_reducible refine and_side ?_ ?_; rotate_left; try cbv) | (refine ChkP.mk (by rfl) ?_; cbv) | (refine br_intro ?_ ?_ <;> intro <;> cbv) | (refine get_at har (by assumption) (by assumption) (by assumption) (by assumption) ?_; cbv) | (refine get_lt har (by assumption) (by assumption) (by assumption) ?_; intro x xx hx hxx; cbv) | (refine get_atN har (by assumption) (by assumption) (by assumption) (by assumption) ?_; cbv) | (refine get_ltN har (by assumption) (by assumption) (by assumption) ?_; intro x xx hx hxx; cbv) | (refine get_atI har (by assumption) (by assumption) (by decide) ?_; cbv) | (refine get_twoA har (by assumption) (by assumption) (by decide) ?_; intro x hx; cbv) | (refine get_twoB har (by assumption) (by assumption) (by decide) ?_; intro x hx; cbv) | (refine bytes_intro (by assumption) ?_; cbv) | (exact side_lt har (by assumption) (by assumption)) | (exact side_inb har (by assumption) (by assumption) (by assumption)) | (exact side_sh har (by decide)) | (exact side_app har (by assumption) (by assumption) (by omega)) | (exact side_app0 har (by assumption) (by omega)) | (exact side_new har (by assumption) (by omega)) | (exact side_one har (by assumption) (by omega)) | (exact side_oneN har (by assumption) (by omega)) | (exact side_flat har (by assumption)) | (exact side_sbig har (by omega)) | (refine side_sbig har ?_; simp; done) | (exact side_oneI har (by assumption) (by omega)) | (refine side_ix har ?_; simp; done) | (refine side_ix har ?_; simp; omega) | (refine call_intro (iCount1 hP (by assumption) (by assumption) (by omega)) ?_; rintro r ob ⟨rfl, rfl⟩; generalize hct : ((Lib.countByte _ _ : Nat) : Int) = ct; cbv) | (refine calld_intro (iCount1 hP (by assumption) (by assumption) (by omega)) ?_; generalize hct : ((Lib.countByte _ _ : Nat) : Int) = ct; cbv))
  case refine_1 => exact absurd (show std.icmp .eql (-1) 0 = true by subst har; assumption) (by decide)
  case refine_2.refine_1 => exact absurd (show std.icmp .eql (std.len [[T.int .u8 xx]]) 0 = true by subst har; assumption) (by show ¬ (icmpS .eql ((1 : Nat) : Int) 0 = true); decide)
  case refine_2.refine_2.refine_2.refine_2 => exact absurd (show std.icmp .lss (-1) 0 = false by subst har; assumption) (by decide)
  case refine_2.refine_2.refine_2.refine_1 => exact absurd (show std.icmp .lss (-1) 0 = false by subst har; assumption) (by decide)
  case refine_2.refine_2.refine_1.refine_1 =>
    have e1 := (split_n har hs hb (by omega) hct).1
    have hct : ((N : Nat) : Int) = ct := by rw [← hn]; exact hct
    exact (show Side (ar.mkroom 24 (ar.imin (ar.iop .add .i64 ct 1) (ar.iop .add .i64 (ar.len ss) 1))) by
      rw [e1]; subst har; exact ⟨⟨by omega, by show (ct + 1) * (((24 : Nat) : Int) + 1) ≤ 2 ^ 46; omega⟩⟩)
  obtain ⟨e1, e2⟩ := split_n har hs hb (by omega) hct
  have hctn : ((N : Nat) : Int) = ct := by rw [← hn]; exact hct
  refine LoopP.mk (List (List UInt8) × List UInt8 × List (List T) × List (List T) × Int) [0, 1, 2, 3, 9, 10] []
    (fun q => ⟨[(0, .one (.t (.sl q.2.2.1))), (1, .one (.t (.sl [[.int .u8 xx]]))), (2, .one (.t (.int .i64 0))), (3, .one (.t (.int .i64 (ar.iop .sub .i64 (ar.imin (ar.iop .add .i64 ct 1) (ar.iop .add .i64 (ar.len ss) 1)) 1)))), (9, .one (.row 16 0)), (10, .one (.t (.int .i64 q.2.2.2.2)))], [(16, .row 1 q.2.2.2.1 0 [0] false)]⟩)
    (fun q => SQ N q.1 q.2.2.2.1 q.2.2.2.2 ∧ encB q.2.1 = q.2.2.1 ∧ q.1 ++ splitC x q.2.1 = splitC x s ∧ Lib.countByte q.2.1 x + q.1.length = N ∧ q.2.1.length ≤ s.length) (fun q => N - q.1.length) ([], s, ss, ar.rep (ar.imin (ar.iop .add .i64 ct 1) (ar.iop .add .i64 (ar.len ss) 1)) [.sl []], 0) ?e ?f ?g
  case e => kernel_rfl
  case f =>
    refine ⟨⟨?_, rfl, Int.le_refl _, by simp, by omega⟩, hs, rfl, by simpa using hn, Nat.le_refl _⟩
    dsimp only
    rw [e1]
    subst har
    show List.replicate (ct + 1).toNat [T.sl []] = _
    rw [← hctn, show (((N : Nat) : Int) + 1).toNat = N + 1 by omega]
    simp [encN]; rfl
  case g =>
    intro q hq
    obtain ⟨done, cur, cs, es, i⟩ := q
    have hsq : SQ N done es i := hq.1
    have hcs : encB cur = cs := hq.2.1
    have hsp : done ++ splitC x cur = splitC x s := hq.2.2.1
    have hcc : Lib.countByte cur x + done.length = N := hq.2.2.2.1
    have hcl2 : cur.length ≤ s.length := hq.2.2.2.2
    have hge := Lib.indexByte_ge cur x
    clear hq
    cbv
    repeat' (first | (intro; cbv) | (with_reducible refine and_side ?_ ?_; rotate_left; try cbv) | (refine ChkP.mk (by rfl) ?_; cbv) | (refine br_intro ?_ ?_ <;> intro <;> cbv) | (refine get_at har (by assumption) (by assumption) (by assumption) (by assumption) ?_; cbv) | (refine get_lt har (by assumption) (by assumption) (by assumption) ?_; intro x xx hx hxx; cbv) | (refine get_atN har (by assumption) (by assumption) (by assumption) (by assumption) ?_; cbv) | (refine get_ltN har (by assumption) (by assumption) (by assumption) ?_; intro x xx hx hxx; cbv) | (refine get_atI har (by assumption) (by assumption) (by decide) ?_; cbv) | (refine get_twoA har (by assumption) (by assumption) (by decide) ?_; intro x hx; cbv) | (refine get_twoB har (by assumption) (by assumption) (by decide) ?_; intro x hx; cbv) | (refine bytes_intro (by assumption) ?_; cbv) | (exact side_lt har (by assumption) (by assumption)) | (exact side_inb har (by assumption) (by assumption) (by assumption)) | (exact side_sh har (by decide)) | (exact side_app har (by assumption) (by assumption) (by omega)) | (exact side_app0 har (by assumption) (by omega)) | (exact side_new har (by assumption) (by omega)) | (exact side_one har (by assumption) (by omega)) | (exact side_oneN har (by assumption) (by omega)) | (exact side_flat har (by assumption)) | (exact side_sbig har (by omega)) | (refine side_sbig har ?_; simp; done) | (exact side_oneI har (by assumption) (by omega)) | (refine side_ix har ?_; simp; done) | (refine side_ix har ?_; simp; omega) | (refine call_intro (iIndex1 hP (by assumption) (by assumption) (by omega)) ?_; rintro r ob ⟨rfl, rfl⟩; generalize hix : Lib.indexByte _ _ = ix; cbv) | (refine calld_intro (iIndex1 hP (by assumption) (by assumption) (by omega)) ?_; generalize hix : Lib.indexByte _ _ = ix; cbv))
    all_goals replace hctn : ((N : Nat) : Int) = ct := hctn
    case refine_1.refine_1.refine_2.refine_2.refine_2 =>
      have h1 := sp_lt har e2 (by assumption)
      have h2 := sp_lt har rfl (show ar.icmp .lss ix 0 = true by assumption)
      have := (split_none (s := cur) (x := x) (by omega)).2
      have := hsq.2.1
      have := hsq.2.2.1
      exact absurd h1 (by omega)
    case refine_1.refine_1.refine_2.refine_2.refine_1 => exact sp_cut har hsq hcs
    case refine_1.refine_1.refine_2.refine_1 => exact sp_inb har hsq
    case refine_1.refine_1.refine_1 => exact sp_inb har hsq
    case refine_2.refine_2.refine_2.refine_2 =>
      have h1 := sp_ge har e2 (by assumption)
      have := hsq.2.1
      have := hsq.2.2.1
      refine hk _ ((sp_end har hsq hcs).trans ?_)
      rw [← hsp, split_zero (s := cur) (by omega)]
    case refine_2.refine_2.refine_2.refine_1 => exact sp_cut har hsq hcs
    case refine_2.refine_2.refine_1 => exact sp_inb har hsq
    case refine_2.refine_1 => exact sp_inb har hsq
    all_goals
      have h1 := sp_lt har e2 (by assumption)
      have h2 := sp_ge har rfl (show ar.icmp .lss ix 0 = false by assumption)
      obtain ⟨m, hm⟩ := Int.eq_ofNat_of_zero_le (show 0 ≤ ix by omega)
      obtain ⟨p1, p2, p3⟩ := split_some (x := x) (s := cur) (m := m) (by omega)
      obtain ⟨q1, q2, q3, q4, q5⟩ := sp_sub har hcs (x := xx) hm p1 (by omega)
    case refine_1.refine_2.refine_1 => exact q4
    case refine_1.refine_2.refine_2.refine_1 => exact sp_inb har hsq
    case refine_1.refine_2.refine_2.refine_2.refine_1 => exact sp_inb har hsq
    case refine_1.refine_2.refine_2.refine_2.refine_2.refine_1 => exact q5
    have hN : done.length < N := by omega
    have hnx := sp_next har hsq (p := cur.take m) rfl hN
    refine ⟨(done ++ [cur.take m], cur.drop (m + 1), encB (cur.drop (m + 1)), ar.setc es i 0 [.sl (encB (cur.take m))], i + 1), ?_, ⟨hnx, rfl, ?_, ?_, ?_⟩, ?_⟩
    · dsimp only
      rw [← sp_i har hsq, ← q1, ← q3]
      kernel_rfl
    · dsimp only
      rw [← hsp, p2]; simp
    · dsimp only
      simp; omega
    · dsimp only
      simp; omega
    · dsimp only
      simp; omega
end Go.TL.Tryz
