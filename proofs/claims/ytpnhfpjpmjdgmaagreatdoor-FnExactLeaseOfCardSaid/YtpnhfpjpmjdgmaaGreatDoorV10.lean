/- Texts of a proof, joined by a program (merge.py): TfOrdI TfCopI TfMoB TfZoI TfZoJ TfLeaB TfDigB TfDhcS TfHasB TfRecS TfLeaO. -/
import Derived.Test.YtpnhfpjpmjdgmaaGreatDoorV09
set_option linter.all false
/- TfOrdI -/
namespace Go.TL.Tryz
open Go Go.TL Go.Proofs
set_option maxRecDepth 20000
variable {P : Program}
set_option maxRecDepth 20000 in
theorem fn148 : Tryz.prog.funcs[148]? = some Tryz.f148 := rfl
set_option maxHeartbeats 40000000 in
set_option maxRecDepth 3000 in
theorem iIsNaN (hP : Prg P) {a : Int} : ACall P 148 [.one (.t (.int .i64 a))] [] (fun r ob => r = .one (.t (.bool false)) ∧ ob = []) := by
  refine acall_fn (md := md) [none] v148 hP.mixed hP.tab (fn_at hP fn148) 1 rfl (by decide +kernel) rfl ?_
  intro ar har
  cbv
  repeat' (first | (intro; cbv) | (with_reducible refine and_side ?_ ?_; rotate_left; try cbv) | (refine ChkP.mk (by decide +kernel) ?_; cbv) | (refine br_intro ?_ ?_ <;> intro <;> cbv) | (refine get_at har (by assumption) (by assumption) (by assumption) (by assumption) ?_; cbv) | (refine get_lt har (by assumption) (by assumption) (by assumption) ?_; intro x xx hx hxx; cbv) | (refine get_atN har (by assumption) (by assumption) (by assumption) (by assumption) ?_; cbv) | (refine get_ltN har (by assumption) (by assumption) (by assumption) ?_; intro x xx hx hxx; cbv) | (refine get_atI har (by assumption) (by assumption) (by decide) ?_; cbv) | (refine get_twoA har (by assumption) (by assumption) (by decide) ?_; intro x hx; cbv) | (refine get_twoB har (by assumption) (by assumption) (by decide) ?_; intro x hx; cbv) | (refine bytes_intro (by assumption) ?_; cbv) | (exact side_lt har (by assumption) (by assumption)) | (exact side_inb har (by assumption) (by assumption) (by assumption)) | (exact side_sh har (by decide)) | (exact side_app har (by assumption) (by assumption) (by omega)) | (exact side_app0 har (by assumption) (by omega)) | (exact side_new har (by assumption) (by omega)) | (exact side_one har (by assumption) (by omega)) | (exact side_oneN har (by assumption) (by omega)) | (exact side_flat har (by assumption)) | (exact side_sbig har (by omega)) | (refine side_sbig har ?_; simp; done) | (exact side_oneI har (by assumption) (by omega)) | (refine side_ix har ?_; simp; done) | (refine side_ix har ?_; simp; omega))
  refine ret_bb ?_
  subst har; simp [std, icmpS]
set_option maxRecDepth 20000 in
theorem fn117 : Tryz.prog.funcs[117]? = some Tryz.f117 := rfl
set_option maxHeartbeats 40000000 in
set_option maxRecDepth 3000 in
theorem iCmpI (hP : Prg P) {a b : Int} : ACall P 117 [.one (.t (.int .i64 a)), .one (.t (.int .i64 b))] [] (fun r ob => r = .one (.t (.int .i64 (cmpI a b))) ∧ ob = []) := by
  refine acall_fn (md := md) [none] v117 hP.mixed hP.tab (fn_at hP fn117) 2 rfl (by decide +kernel) rfl ?_
  intro ar har
  cbv
  repeat' (first | (refine br_intro ?_ ?_ <;> intro <;> cbv) | (refine call_intro (iIsNaN hP) ?_; rintro r ob ⟨rfl, rfl⟩; cbv))
  all_goals refine ⟨⟨?_, rfl⟩⟩
  all_goals subst har; simp only [std, icmpS, decide_eq_true_eq, decide_eq_false_iff_not, Bool.not_eq_true', Bool.not_eq_false', bne_iff_ne, ne_eq, bne_eq_false_iff_eq, beq_iff_eq, beq_eq_false_iff_ne, Int.not_lt, Int.not_le, Bool.not_true, Bool.not_false, reduceCtorEq] at *
  all_goals unfold cmpI
  · rw [if_pos (by assumption)]
  · rw [if_neg (by omega), if_pos (by assumption)]
  · rw [if_neg (by omega), if_neg (by omega)]
set_option maxRecDepth 20000 in
theorem fn118 : Tryz.prog.funcs[118]? = some Tryz.f118 := rfl
set_option maxHeartbeats 40000000 in
set_option maxRecDepth 3000 in
theorem iBytesCmp (hP : Prg P) {l m : List UInt8} {ls ms : List (List T)} (hl : encB l = ls) (hm : encB m = ms) : ACall P 118 [.one (.t (.sl ls)), .one (.t (.sl ms))] [] (fun r ob => r = .one (.t (.int .i64 (cmpB l m))) ∧ ob = []) := by
  refine acall_fn (md := md) [none] v118 hP.mixed hP.tab (fn_at hP fn118) 2 rfl (by decide +kernel) rfl ?_
  intro ar har
  cbv
  repeat' (first | (refine call_intro (iBaCmp hP (by assumption) (by assumption)) ?_; rintro r ob ⟨rfl, rfl⟩; generalize hcm : cmpB _ _ = cm; cbv))
  exact ⟨⟨rfl, rfl⟩⟩
theorem get_backN {ar : Ar} (har : ar = std) {n : List (List UInt8)} {es : List (List T)} {i : Int} {K : List T → Prop} (hes : encN n = es) (h1 : 1 ≤ i) (hi : i.toNat ≤ n.length) (hl : n.length ≤ 2000000)
    (k : ∀ (x : List UInt8) (xx : List (List T)), n[n.length - i.toNat]? = some x → encB x = xx → K [.sl xx]) : GetP ar es (ar.iop .sub .i64 (ar.len es) i) K := by
  have hlen := encN_len hes
  have e : ar.iop .sub .i64 (ar.len es) i = (n.length : Int) - i := by
    subst har
    show iopS .sub .i64 (es.length : Int) i = _
    rw [subI (by omega) (by omega)]; omega
  rw [e]
  refine get_label har hes ⟨by omega, by omega⟩ ?_
  intro x xx hx hxx
  exact k x xx (by rw [show n.length - i.toNat = ((n.length : Int) - i).toNat by omega]; exact hx) hxx
theorem min_le {ar : Ar} (har : ar = std) {ms ns : List (List T)} {a b : Nat} (h1 : ms.length = a) (h2 : ns.length = b) {i : Int} (h0 : 1 ≤ i) {c : Bool} (h : ar.icmp .leq i (ar.imin (ar.len ms) (ar.len ns)) = c) : decide (i.toNat ≤ a ∧ i.toNat ≤ b) = c := by
  subst har
  rw [← h, Bool.eq_iff_iff]
  simp only [std, icmpS, decide_eq_true_eq]
  split <;> omega
set_option maxRecDepth 20000 in
theorem fn76 : Tryz.prog.funcs[76]? = some Tryz.f76 := rfl
set_option maxHeartbeats 40000000 in
set_option maxRecDepth 3000 in
theorem iNameCmp (hP : Prg P) {m n : List (List UInt8)} {ms ns : List (List T)} (hm : encN m = ms) (hn : encN n = ns) (hml : m.length ≤ 2000000) (hnl : n.length ≤ 2000000) : ACall P 76 [.agg [.t (.sl ms)], .agg [.t (.sl ns)]] []
    (fun r ob => r = .one (.t (.int .i64 (cmpN m n))) ∧ ob = []) := by
  have hlm := encN_len hm
  have hln := encN_len hn
  refine acall_fn (md := md) [none] v76 hP.mixed hP.tab (fn_at hP fn76) 2 rfl (by decide +kernel) rfl ?_
  intro ar har
  cbv
  repeat' (first | (intro; cbv) | (with_reducible refine and_side ?_ ?_; rotate_left; try cbv) | (refine ChkP.mk (by decide +kernel) ?_; cbv) | (refine br_intro ?_ ?_ <;> intro <;> cbv) | (refine get_at har (by assumption) (by assumption) (by assumption) (by assumption) ?_; cbv) | (refine get_lt har (by assumption) (by assumption) (by assumption) ?_; intro x xx hx hxx; cbv) | (refine get_atN har (by assumption) (by assumption) (by assumption) (by assumption) ?_; cbv) | (refine get_ltN har (by assumption) (by assumption) (by assumption) ?_; intro x xx hx hxx; cbv) | (refine get_atI har (by assumption) (by assumption) (by decide) ?_; cbv) | (refine get_twoA har (by assumption) (by assumption) (by decide) ?_; intro x hx; cbv) | (refine get_twoB har (by assumption) (by assumption) (by decide) ?_; intro x hx; cbv) | (refine bytes_intro (by assumption) ?_; cbv) | (exact side_lt har (by assumption) (by assumption)) | (exact side_inb har (by assumption) (by assumption) (by assumption)) | (exact side_sh har (by decide)) | (exact side_app har (by assumption) (by assumption) (by omega)) | (exact side_app0 har (by assumption) (by omega)) | (exact side_new har (by assumption) (by omega)) | (exact side_one har (by assumption) (by omega)) | (exact side_oneN har (by assumption) (by omega)) | (exact side_flat har (by assumption)) | (exact side_sbig har (by omega)) | (refine side_sbig har ?_; simp; done) | (exact side_oneI har (by assumption) (by omega)) | (refine side_ix har ?_; simp; done) | (refine side_ix har ?_; simp; omega))
  refine loop_start [] [] ?_
  cbv
  refine LoopR.mk Int (fun i => ([(5, .one (.t (.int .i64 i)))], []))
    (fun i => 1 ≤ i ∧ i.toNat ≤ m.length + 1 ∧ i.toNat ≤ n.length + 1 ∧ cmpN m n = cmpGo (m.reverse.drop (i.toNat - 1)) (n.reverse.drop (i.toNat - 1))) (fun i => m.length + 1 - i.toNat) 1 ?e ?f ?g
  case e => kernel_rfl
  case f => exact ⟨Int.le_refl _, by simp, by simp, rfl⟩
  case g =>
    intro i hi
    have hi0 : 1 ≤ i := hi.1
    have hi1 : i.toNat ≤ m.length + 1 := hi.2.1
    have hi2 : i.toNat ≤ n.length + 1 := hi.2.2.1
    have hc : cmpN m n = cmpGo (m.reverse.drop (i.toNat - 1)) (n.reverse.drop (i.toNat - 1)) := hi.2.2.2
    have hi0nat : 1 ≤ i.toNat := by omega
    clear hi
    cbv
    repeat' (first | (intro; cbv) | (refine br_intro ?_ ?_ <;> intro <;> cbv))
    case refine_2 =>
      have hmi := min_le har hlm hln hi0 (by assumption : ar.icmp .leq i _ = false)
      have hmi : ¬ (i.toNat ≤ m.length ∧ i.toNat ≤ n.length) := by simpa using hmi
      repeat' (first | (refine call_intro (iCmpI hP) ?_; rintro r ob ⟨rfl, rfl⟩; generalize hci : cmpI _ _ = ci; cbv))
      refine ⟨⟨?_, rfl⟩⟩
      rw [cmp_done (i := i.toNat - 1) (by omega) (by omega) (by omega) hc, ← hci]
      subst har
      show A.one (V.t (T.int .i64 (cmpI (ms.length : Int) (ns.length : Int)))) = _
      rw [hlm, hln]
    case refine_1 =>
      have hmi := min_le har hlm hln hi0 (by assumption : ar.icmp .leq i _ = true)
      have hmi : i.toNat ≤ m.length ∧ i.toNat ≤ n.length := by simpa using hmi
      have hma := hmi.1
      have hmb := hmi.2
      clear hmi
      refine get_backN har hm hi0 hma hml fun x xx hx hxx => ?_
      cbv
      repeat' (first | (intro; cbv) | (with_reducible refine and_side ?_ ?_; rotate_left; try cbv) | (refine ChkP.mk (by decide +kernel) ?_; cbv) | (refine br_intro ?_ ?_ <;> intro <;> cbv) | (refine get_at har (by assumption) (by assumption) (by assumption) (by assumption) ?_; cbv) | (refine get_lt har (by assumption) (by assumption) (by assumption) ?_; intro x xx hx hxx; cbv) | (refine get_atN har (by assumption) (by assumption) (by assumption) (by assumption) ?_; cbv) | (refine get_ltN har (by assumption) (by assumption) (by assumption) ?_; intro x xx hx hxx; cbv) | (refine get_atI har (by assumption) (by assumption) (by decide) ?_; cbv) | (refine get_twoA har (by assumption) (by assumption) (by decide) ?_; intro x hx; cbv) | (refine get_twoB har (by assumption) (by assumption) (by decide) ?_; intro x hx; cbv) | (refine bytes_intro (by assumption) ?_; cbv) | (exact side_lt har (by assumption) (by assumption)) | (exact side_inb har (by assumption) (by assumption) (by assumption)) | (exact side_sh har (by decide)) | (exact side_app har (by assumption) (by assumption) (by omega)) | (exact side_app0 har (by assumption) (by omega)) | (exact side_new har (by assumption) (by omega)) | (exact side_one har (by assumption) (by omega)) | (exact side_oneN har (by assumption) (by omega)) | (exact side_flat har (by assumption)) | (exact side_sbig har (by omega)) | (refine side_sbig har ?_; simp; done) | (exact side_oneI har (by assumption) (by omega)) | (refine side_ix har ?_; simp; done) | (refine side_ix har ?_; simp; omega))
      refine get_backN har hn hi0 hmb hnl fun y yy hy hyy => ?_
      cbv
      repeat' (first | (intro; cbv) | (refine ChkP.mk (by decide +kernel) ?_; cbv) | (refine br_intro ?_ ?_ <;> intro <;> cbv) | (refine calld_intro (iBytesCmp hP (by assumption) (by assumption)) ?_; generalize hcm : cmpB _ _ = cm; cbv))
      case refine_1 =>
        have h0 := neq_t har (by assumption : ar.icmp .neq cm 0 = true)
        rw [cmpGo_step (rev_at hi0nat hx hma) (rev_at hi0nat hy hmb), hcm, if_neg h0] at hc
        exact ⟨⟨by rw [hc], rfl⟩⟩
      case refine_2 =>
        have h0 := neq_f har (by assumption : ar.icmp .neq cm 0 = false)
        rw [cmpGo_step (rev_at hi0nat hx hma) (rev_at hi0nat hy hmb), hcm, if_pos h0] at hc
        have e1 : ar.iop .add .i64 i 1 = i + 1 := add_std har (by omega) (by omega)
        exact ⟨i + 1, by rw [← e1]; kernel_rfl, ⟨by omega, by omega, by omega, by rw [hc, show (i + 1).toNat - 1 = i.toNat - 1 + 1 by omega]⟩, by omega⟩
set_option maxRecDepth 20000 in
theorem fn31 : Tryz.prog.funcs[31]? = some Tryz.f31 := rfl
set_option maxHeartbeats 40000000 in
set_option maxRecDepth 3000 in
theorem iNameIs (hP : Prg P) {m n : List (List UInt8)} {ms ns : List (List T)} (hm : encN m = ms) (hn : encN n = ns) (hml : m.length ≤ 2000000) (hnl : n.length ≤ 2000000) : ACall P 31 [.agg [.t (.sl ms)], .agg [.t (.sl ns)]] []
    (fun r ob => r = .one (.t (.bool (m == n))) ∧ ob = []) := by
  refine acall_fn (md := md) [none] v31 hP.mixed hP.tab (fn_at hP fn31) 2 rfl (by decide +kernel) rfl ?_
  intro ar har
  cbv
  repeat' (first | (refine call_intro (iNameCmp hP (by assumption) (by assumption) (by omega) (by omega)) ?_; rintro r ob ⟨rfl, rfl⟩; generalize hcn : cmpN _ _ = cn; cbv))
  refine ret_bb ?_
  subst har; subst hcn
  show (cmpN m n == 0) = _
  rw [Bool.eq_iff_iff]; simp [cmpN_zero]
/-- The first number that is not nothing. -/
def orV : List Int → Int
  | [] => 0
  | x :: r => if x = 0 then orV r else x
theorem orV_step {l : List Int} {i : Nat} {x : Int} (h : l[i]? = some x) : orV (l.drop i) = if x = 0 then orV (l.drop (i + 1)) else x := by
  have hl := (List.getElem?_eq_some_iff.1 h).1
  rw [List.drop_eq_getElem_cons hl, orV, (List.getElem?_eq_some_iff.1 h).2]
set_option maxRecDepth 20000 in
theorem fn116 : Tryz.prog.funcs[116]? = some Tryz.f116 := rfl
set_option maxHeartbeats 40000000 in
set_option maxRecDepth 3000 in
theorem iOr (hP : Prg P) {l : List Int} {es : List (List T)} (hes : encI l = es) : ACall P 116 [.one (.t (.sl es))] [] (fun r ob => r = .one (.t (.int .i64 (orV l))) ∧ ob = []) := by
  have hl := encI_len hes
  refine acall_fn (md := md) [none] v116 hP.mixed hP.tab (fn_at hP fn116) 1 rfl (by decide +kernel) rfl ?_
  intro ar har
  cbv
  repeat' (first | (intro; cbv))
  refine loop_start [] [] ?_
  cbv
  refine LoopR.mk Int (fun i => ([(8, .one (.t (.int .i64 i)))], [])) (fun i => 0 ≤ i ∧ i.toNat ≤ l.length ∧ orV l = orV (l.drop i.toNat)) (fun i => l.length - i.toNat) 0 ?e ?f ?g
  case e => kernel_rfl
  case f => exact ⟨Int.le_refl _, Nat.zero_le _, rfl⟩
  case g =>
    intro i hi
    have hi0 : 0 ≤ i := hi.1
    have hil : i.toNat ≤ l.length := hi.2.1
    have ho : orV l = orV (l.drop i.toNat) := hi.2.2
    clear hi
    cbv
    repeat' (first | (intro; cbv) | (refine br_intro ?_ ?_ <;> intro <;> cbv) | (refine get_ltIE har (by assumption) (by assumption) (by assumption) ?_; intro x hx; cbv))
    case refine_1.refine_1 =>
      have h0 := neq_t har (by assumption : ar.icmp .neq x 0 = true)
      rw [orV_step hx, if_neg h0] at ho
      exact ⟨⟨by rw [ho], rfl⟩⟩
    case refine_1.refine_2 =>
      have h0 := neq_f har (by assumption : ar.icmp .neq x 0 = false)
      have hlt := (List.getElem?_eq_some_iff.1 hx).1
      have hbg := big_le har (by assumption : ar.big es)
      have e1 : ar.iop .add .i64 i 1 = i + 1 := add_std har (by omega) (by omega)
      rw [orV_step hx, if_pos h0] at ho
      exact ⟨i + 1, by rw [← e1]; kernel_rfl, ⟨by omega, by omega, by rw [ho, show (i + 1).toNat = i.toNat + 1 by omega]⟩, by omega⟩
    case refine_2 =>
      have hend := ge_len har (by assumption : ar.icmp .lss i (ar.len es) = false) hi0
      rw [List.drop_of_length_le (by omega)] at ho
      exact ⟨⟨by rw [ho]; rfl, rfl⟩⟩
theorem four_put {n : Int} (h : 0 ≤ n ∧ n < 4294967296) : fourB n = put32 n := by
  rw [put32, if_pos h]
  show [byteOf (shr8 (shr8 n 16) 8), byteOf (shr8 n 16), byteOf (shr8 n 8), byteOf n] = _
  rw [show shr8 (shr8 n 16) 8 = shr8 n 16 / 2 ^ 8 from shr8_eq _ 8 (by decide), show shr8 n 16 = n / 2 ^ 16 from shr8_eq n 16 (by decide), show shr8 n 24 = n / 2 ^ 24 from shr8_eq n 24 (by decide), show n / 2 ^ 16 / 2 ^ 8 = n / 2 ^ 24 by omega]
theorem data_eq {n to : List (List UInt8)} {t ttl addr : Int} {tx : List UInt8} {nu : List Int} (h : rrOk n t ttl addr to tx nu = true) : dataI t addr to tx nu = dataS t addr to tx nu := by
  simp only [rrOk, dataOk, numsOk, Bool.and_eq_true] at h
  obtain ⟨_, _, _, h1, _, _, h4⟩ := h
  unfold dataI dataS
  by_cases e1 : t = 1
  · rw [if_pos e1] at h1 ⊢
    rw [if_pos e1]
    simp only [isWordB, withinB, decide_eq_true_eq] at h1
    exact four_put ⟨h1.1, by omega⟩
  rw [if_neg e1, if_neg e1]
  by_cases e6 : t = 6
  · rw [if_pos e6] at h4 ⊢
    have hn : namedB t = true := by rw [e6]; rfl
    rw [if_pos hn]
    simp only [isWordB, withinB, Bool.and_eq_true, decide_eq_true_eq] at h4
    obtain ⟨hl, h5, h6⟩ := h4
    match nu, hl with
    | [x, y], _ =>
      have h5 : 0 ≤ x ∧ x ≤ 4294967295 := h5
      have h6 : 0 ≤ y ∧ y ≤ 100000 := h6
      show wireN to ++ [x, y].flatMap fourB = wireN to ++ put32 x ++ put32 y
      simp only [List.flatMap_cons, List.flatMap_nil, List.append_nil, four_put (show 0 ≤ x ∧ x < 4294967296 by omega), four_put (show 0 ≤ y ∧ y < 4294967296 by omega), List.append_assoc]
  · rw [if_neg e6] at h4 ⊢
    have hnil : nu = [] := List.eq_nil_of_length_eq_zero (by simpa using h4)
    subst hnil
    split <;> simp [wireL]
set_option maxRecDepth 20000 in
theorem fn73 : Tryz.prog.funcs[73]? = some Tryz.f73 := rfl
set_option maxHeartbeats 40000000 in
set_option maxRecDepth 3000 in
theorem iRrCmp (hP : Prg P) {m n to qo : List (List UInt8)} {ms ns tos qos txs nus ux vs : List (List T)} {t ttl addr t2 ttl2 addr2 : Int} {tx vx : List UInt8} {nu nv : List Int} (hm : encN m = ms) (hn : encN n = ns) (hml : m.length ≤ 1000) (hnl : n.length ≤ 1000)
   (hto : encN to = tos) (htob : NmB to) (htx : encB tx = txs) (htxl : tx.length ≤ 500) (hnu : encI nu = nus) (hnul : nu.length ≤ 10)
   (hqo : encN qo = qos) (hqob : NmB qo) (hvx : encB vx = ux) (hvxl : vx.length ≤ 500) (hnv : encI nv = vs) (hnvl : nv.length ≤ 10) (hd1 : dataI t addr to tx nu = dataS t addr to tx nu) (hd2 : dataI t2 addr2 qo vx nv = dataS t2 addr2 qo vx nv) :
   ACall P 73 [.agg [.t (.sl ms), .t (.int .i64 t), .t (.int .i64 ttl), .t (.int .i64 addr), .t (.sl tos), .t (.sl txs), .t (.sl nus)], .agg [.t (.sl ns), .t (.int .i64 t2), .t (.int .i64 ttl2), .t (.int .i64 addr2), .t (.sl qos), .t (.sl ux), .t (.sl vs)]] []
     (fun r ob => r = .one (.t (.int .i64 (cmpR m t addr to tx nu n t2 addr2 qo vx nv))) ∧ ob = []) := by
  refine acall_fn (md := md) [none] v73 hP.mixed hP.tab (fn_at hP fn73) 2 rfl (by decide +kernel) rfl ?_
  intro ar har
  cbv
  repeat' (first | (with_reducible refine and_side ?_ ?_; rotate_left; try cbv) | (exact side_flat har (by assumption)) | (refine calld_intro (iNameCmp hP (by assumption) (by assumption) (by omega) (by omega)) ?_; generalize hcn : cmpN _ _ = cn; cbv) | (refine calld_intro (iCmpI hP) ?_; generalize hci : cmpI _ _ = ci; cbv) | (refine calld_intro (iData hP (by assumption) (by assumption) (by assumption) (by omega) (by assumption) (by omega)) ?_; generalize hdi : encB (dataI _ _ _ _ _) = di; cbv) | (refine calld_intro (iBytesCmp hP (by assumption) (by assumption)) ?_; generalize hcm : cmpB _ _ = cm; cbv))
  refine calld_intro (iOr hP (l := [cn, ci, cm]) rfl) ?_
  generalize hor : orV _ = orr
  cbv
  repeat' (first | (intro; cbv) | (refine ChkP.mk (by decide +kernel) ?_; cbv))
  refine ⟨⟨?_, rfl⟩⟩
  rw [cmpR, hcn, hci, ← hd1, ← hd2, hcm, ← hor]
  refine congrArg (fun x => A.one (V.t (T.int .i64 x))) ?_
  simp only [orV]
  repeat' split
  all_goals first
    | rfl
    | omega
theorem iRrCmpR (hP : Prg P) {x y : Rrv} {ms ns tos qos txs nus ux vs : List (List T)} (hx : rrOkR x = true) (hy : rrOkR y = true) (hm : encN x.n = ms) (hto : encN x.to = tos) (htx : encB x.tx = txs) (hnu : encI x.nu = nus) (hn : encN y.n = ns) (hqo : encN y.to = qos) (hvx : encB y.tx = ux) (hnv : encI y.nu = vs) :
   ACall P 73 [.agg [.t (.sl ms), .t (.int .i64 x.t), .t (.int .i64 x.ttl), .t (.int .i64 x.addr), .t (.sl tos), .t (.sl txs), .t (.sl nus)], .agg [.t (.sl ns), .t (.int .i64 y.t), .t (.int .i64 y.ttl), .t (.int .i64 y.addr), .t (.sl qos), .t (.sl ux), .t (.sl vs)]] []
     (fun r ob => r = .one (.t (.int .i64 (cmpRR x y))) ∧ ob = []) := by
  obtain ⟨f1, f2, f3, f4, f5⟩ := rrOk_facts hx
  obtain ⟨g1, g2, g3, g4, g5⟩ := rrOk_facts hy
  have f6 := f1.1
  have g6 := g1.1
  exact iRrCmp hP hm hn (by omega) (by omega) hto f2 htx (by omega) hnu (by omega) hqo g2 hvx (by omega) hnv (by omega) (data_eq hx) (data_eq hy)
set_option maxRecDepth 20000 in
theorem fn83 : Tryz.prog.funcs[83]? = some Tryz.f83 := rfl
set_option maxHeartbeats 40000000 in
set_option maxRecDepth 3000 in
theorem iSame (hP : Prg P) {x y : Rrv} {ms ns tos qos txs nus ux vs : List (List T)} (hx : rrOkR x = true) (hy : rrOkR y = true) (hm : encN x.n = ms) (hto : encN x.to = tos) (htx : encB x.tx = txs) (hnu : encI x.nu = nus) (hn : encN y.n = ns) (hqo : encN y.to = qos) (hvx : encB y.tx = ux) (hnv : encI y.nu = vs) :
   ACall P 83 [.agg [.t (.sl ms), .t (.int .i64 x.t), .t (.int .i64 x.ttl), .t (.int .i64 x.addr), .t (.sl tos), .t (.sl txs), .t (.sl nus)], .agg [.t (.sl ns), .t (.int .i64 y.t), .t (.int .i64 y.ttl), .t (.int .i64 y.addr), .t (.sl qos), .t (.sl ux), .t (.sl vs)]] []
     (fun r ob => r = .one (.t (.bool (decide (cmpRR x y = 0)))) ∧ ob = []) := by
  refine acall_fn (md := md) [none] v83 hP.mixed hP.tab (fn_at hP fn83) 2 rfl (by decide +kernel) rfl ?_
  intro ar har
  cbv
  refine call_intro (iRrCmpR hP hx hy hm hto htx hnu hn hqo hvx hnv) ?_; rintro r ob ⟨rfl, rfl⟩
  generalize hcr : cmpRR x y = cr
  cbv
  repeat' (first | (intro; cbv) | (with_reducible refine and_side ?_ ?_; rotate_left; try cbv) | (refine ChkP.mk (by decide +kernel) ?_; cbv) | (refine br_intro ?_ ?_ <;> intro <;> cbv) | (refine get_at har (by assumption) (by assumption) (by assumption) (by assumption) ?_; cbv) | (refine get_lt har (by assumption) (by assumption) (by assumption) ?_; intro x xx hx hxx; cbv) | (refine get_atN har (by assumption) (by assumption) (by assumption) (by assumption) ?_; cbv) | (refine get_ltN har (by assumption) (by assumption) (by assumption) ?_; intro x xx hx hxx; cbv) | (refine get_atI har (by assumption) (by assumption) (by decide) ?_; cbv) | (refine get_twoA har (by assumption) (by assumption) (by decide) ?_; intro x hx; cbv) | (refine get_twoB har (by assumption) (by assumption) (by decide) ?_; intro x hx; cbv) | (refine bytes_intro (by assumption) ?_; cbv) | (exact side_lt har (by assumption) (by assumption)) | (exact side_inb har (by assumption) (by assumption) (by assumption)) | (exact side_sh har (by decide)) | (exact side_app har (by assumption) (by assumption) (by omega)) | (exact side_app0 har (by assumption) (by omega)) | (exact side_new har (by assumption) (by omega)) | (exact side_one har (by assumption) (by omega)) | (exact side_oneN har (by assumption) (by omega)) | (exact side_flat har (by assumption)) | (exact side_sbig har (by omega)) | (refine side_sbig har ?_; simp; done) | (exact side_oneI har (by assumption) (by omega)) | (refine side_ix har ?_; simp; done) | (refine side_ix har ?_; simp; omega))
  refine ret_bb ?_
  subst har
  show (cr == 0) = _
  rw [Bool.eq_iff_iff]; simp
end Go.TL.Tryz

/- TfCopI -/
namespace Go.TL.Tryz
open Go Go.TL Go.Proofs
variable {P : Program}

set_option maxRecDepth 20000 in
theorem fn121 : Tryz.prog.funcs[121]? = some Tryz.f121 := rfl
set_option maxHeartbeats 40000000 in
set_option maxRecDepth 3000 in
theorem iEqual (hP : Prg P) {b c : List UInt8} {es fs : List (List T)} (hl : encB b = es) (hm : encB c = fs) : ACall P 121 [.one (.t (.sl es)), .one (.t (.sl fs))] [] (fun r ob => r = .one (.t (.bool (b == c))) ∧ ob = []) := by
  refine acall_fn (md := md) [none] v121 hP.mixed hP.tab (fn_at hP fn121) 2 rfl (by decide +kernel) rfl ?_
  intro ar har
  cbv
  repeat' (first | (refine bytes_intro (by assumption) ?_; cbv))
  subst har
  exact ⟨⟨rfl, rfl⟩⟩
set_option maxRecDepth 20000 in
theorem fn153 : Tryz.prog.funcs[153]? = some Tryz.f153 := rfl
set_option maxHeartbeats 40000000 in
set_option maxRecDepth 3000 in
theorem iCopied (hP : Prg P) {n : List (List UInt8)} {ns : List (List T)} (hn : encN n = ns) (hnb : NmB n) : ACall P 153 [.agg [.t (.sl ns)]] [] (fun r ob => r = .agg [.row 32 0] ∧ ob = [(32, .row 1 ns 0 [0] false)]) := by
  refine acall_fn (md := md) [some [(0, 1)]] v153 hP.mixed hP.tab (fn_at hP fn153) 1 rfl (by decide +kernel) rfl ?_
  intro ar har
  cbv
  repeat' (first | (intro; cbv))
  refine LoopP.mk (List (List UInt8) × List (List T) × Int) [2, 3, 8, 9, 10] [.cell 3 0 1 12]
    (fun x => ⟨[(2, .one (.ptr 16 0)), (3, .one (.ptr 17 0)), (8, .one (.t (.sl ns))), (9, .one (.t (.int .i64 (ar.len ns)))), (10, .one (.t (.int .i64 x.2.2)))], [(16, .box [.nil] false), (17, .box [.row 18 0] false), (18, .row 1 x.2.1 0 [0] false)]⟩)
    (fun x => encN x.1 = x.2.1 ∧ 0 ≤ x.2.2 ∧ x.1 = n.take x.2.2.toNat ∧ x.1.length ≤ 7) (fun x => n.length - x.2.2.toNat) ([], [], 0) ?e ?f ?g
  case e => kernel_rfl
  case f => exact ⟨rfl, Int.le_refl _, by simp, by simp⟩
  case g =>
    intro x hx
    obtain ⟨m, ms, i⟩ := x
    have hm : encN m = ms := hx.1
    have hi0 : 0 ≤ i := hx.2.1
    have hmm : m = n.take i.toNat := hx.2.2.1
    have hml : m.length ≤ 7 := hx.2.2.2
    have hnl : n.length ≤ 7 := hnb.1
    clear hx
    cbv
    repeat' (first | (refine br_intro ?_ ?_ <;> intro <;> cbv) | (refine get_ltN har (by assumption) (by assumption) (by assumption) ?_; intro x xx hx hxx; cbv))
    · have hx16 := hnb.2 x (List.mem_of_getElem? hx)
      have hlt := (List.getElem?_eq_some_iff.1 hx).1
      refine calld_intro (iClone hP hxx (by omega)) ?_
      rw [hxx]
      cbv
      repeat' (first | (intro; cbv) | (with_reducible refine and_side ?_ ?_; rotate_left; try cbv) | (refine ChkP.mk (by decide +kernel) ?_; cbv) | (exact side_oneN har (by assumption) (by omega)) | (exact side_flat har (by assumption)))
      have hm1 : m ++ [x] = n.take (i.toNat + 1) := by rw [List.take_add_one, hx, hmm]; rfl
      subst har
      refine ⟨(m ++ [x], encN (m ++ [x]), i + 1), ?_, ⟨rfl, by dsimp only; omega, by dsimp only; rw [hm1, show (i + 1).toNat = i.toNat + 1 by omega], by dsimp only; rw [hm1]; simp; omega⟩, by dsimp only; omega⟩
      rw [show encN (m ++ [x]) = std.app ms [[.sl xx]] from encN_app hm (encN_one hxx), show i + 1 = std.iop .add .i64 i 1 from (addI (by omega) (by omega)).symm]
      kernel_rfl
    · have hg := ge_len har (by assumption) hi0
      rw [encN_len hn] at hg
      rw [take_all (by omega)] at hmm
      exact ⟨⟨rfl, by rw [← hm, hmm, hn]⟩⟩
def sufB (b c : List UInt8) : Bool := decide (c.length ≤ b.length) && (b.drop (b.length - c.length) == c)
end Go.TL.Tryz

/- TfMoB -/
namespace Go.TL.Tryz
open Go Go.TL Go.Proofs
set_option maxRecDepth 20000
variable {P : Program}
set_option maxRecDepth 20000 in
theorem fn111 : Tryz.prog.funcs[111]? = some Tryz.f111 := rfl
set_option maxHeartbeats 40000000 in
set_option maxRecDepth 3000 in
theorem iAllRr1 (hP : Prg P) {x : Rrv} {ns tos txs nus : List (List T)} (h1 : encN x.n = ns) (h2 : encN x.to = tos) (h3 : encB x.tx = txs) (h4 : encI x.nu = nus) :
    ACall P 111 [.agg [.t (.sl ns), .t (.int .i64 x.t), .t (.int .i64 x.ttl), .t (.int .i64 x.addr), .t (.sl tos), .t (.sl txs), .t (.sl nus)], .one (.t (.pt [.fn (.func 72) [] []] 0))] [] (fun r ob => r = .one (.t (.bool (!rrOkR x))) ∧ ob = []) := by
  refine acall_fn (md := md) [none] v111 hP.mixed hP.tab (fn_at hP fn111) 2 rfl (by decide +kernel) rfl ?_
  intro ar har
  cbv
  repeat' (first | (refine call_intro (iRrOk hP (by assumption) (by assumption) (by assumption) (by assumption)) ?_; rintro r ob ⟨rfl, rfl⟩; generalize hro : rrOk _ _ _ _ _ _ _ = ro; cbv))
  subst har; simp only [std, icmpS, decide_eq_true_eq, decide_eq_false_iff_not, Bool.not_eq_true', Bool.not_eq_false', bne_iff_ne, ne_eq, bne_eq_false_iff_eq, beq_iff_eq, beq_eq_false_iff_ne, Int.not_lt, Int.not_le, Bool.not_true, Bool.not_false, reduceCtorEq] at *
  exact ⟨⟨by first | rfl | (rw [rrOkR, hro]), rfl⟩⟩
set_option maxRecDepth 20000 in
theorem fn124 : Tryz.prog.funcs[124]? = some Tryz.f124 := rfl
set_option maxHeartbeats 40000000 in
set_option maxRecDepth 3000 in
theorem iIdxRr (hP : Prg P) {n : List Rrv} {ns : List (List T)} (hn : encR n = ns) : ACall P 124 [.one (.t (.sl ns)), .one (.t (.fn (.func 111) [] [.pt [.fn (.func 72) [] []] 0]))] []
    (fun r ob => ∃ v, (0 ≤ v ↔ n.all rrOkR = false) ∧ r = .one (.t (.int .i64 v)) ∧ ob = []) := by
  refine acall_fn (md := md) [none] v124 hP.mixed hP.tab (fn_at hP fn124) 2 rfl (by decide +kernel) rfl ?_
  intro ar har
  cbv
  repeat' (first | (intro; cbv))
  refine LoopP.mk Int [0, 1, 7, 8] [] (fun i => ⟨[(0, .one (.t (.sl ns))), (1, .one (.t (.fn (.func 111) [] [.pt [.fn (.func 72) [] []] 0]))), (7, .one (.t (.int .i64 (ar.len ns)))), (8, .one (.t (.int .i64 i)))], []⟩)
    (fun i => 0 ≤ i ∧ (n.take i.toNat).all rrOkR = true) (fun i => n.length - i.toNat) 0 ?e ?f ?g
  case e => kernel_rfl
  case f => simp
  case g =>
    intro i hi
    have hi0 : 0 ≤ i := hi.1
    have hi1 : (n.take i.toNat).all rrOkR = true := hi.2
    clear hi
    cbv
    repeat' (first | (intro; cbv) | (refine br_intro ?_ ?_ <;> intro <;> cbv) | (refine get_ltR har (by assumption) (by assumption) (by assumption) ?_; intro r rns rtos rtxs rnus hr hrn hrto hrtx hrnu; cbv) | (refine call_intro (iAllRr1 hP (by assumption) (by assumption) (by assumption) (by assumption)) ?_; rintro r ob ⟨rfl, rfl⟩; generalize hlo : (!rrOkR _) = lo; cbv))
    all_goals have hlen := encR_len hn
    all_goals subst har; simp only [std, icmpS, decide_eq_true_eq, decide_eq_false_iff_not, Bool.not_eq_true', Bool.not_eq_false', bne_iff_ne, ne_eq, bne_eq_false_iff_eq, beq_iff_eq, beq_eq_false_iff_ne, Int.not_lt, Int.not_le, Bool.not_true, Bool.not_false, reduceCtorEq] at *
    · exact ⟨⟨i, ⟨fun _ => all_bad (p := rrOkR) hr (by simp_all), fun _ => hi0⟩, rfl, rfl⟩⟩
    · rw [addI (a := i) (b := 1) (by omega) (by omega)]
      exact ⟨i + 1, by kernel_rfl, ⟨by omega, by rw [show (i + 1).toNat = i.toNat + 1 by omega]; exact all_take_succ hr hi1 (by simp_all)⟩, by omega⟩
    · rw [take_all (by omega)] at hi1
      exact ⟨⟨-1, ⟨fun h => absurd h (by decide), fun h => by rw [hi1] at h; cases h⟩, rfl, rfl⟩⟩
set_option maxRecDepth 20000 in
theorem fn82 : Tryz.prog.funcs[82]? = some Tryz.f82 := rfl
set_option maxHeartbeats 40000000 in
set_option maxRecDepth 3000 in
theorem iConRr (hP : Prg P) {n : List Rrv} {ns : List (List T)} (hn : encR n = ns) : ACall P 82 [.one (.t (.sl ns)), .one (.t (.fn (.func 111) [] [.pt [.fn (.func 72) [] []] 0]))] []
    (fun r ob => r = .one (.t (.bool (!n.all rrOkR))) ∧ ob = []) := by
  refine acall_fn (md := md) [none] v82 hP.mixed hP.tab (fn_at hP fn82) 2 rfl (by decide +kernel) rfl ?_
  intro ar har
  cbv
  repeat' (first | (refine call_intro (iIdxRr hP (by assumption)) ?_; rintro r ob ⟨v, hv, rfl, rfl⟩; cbv))
  subst har; simp only [std, icmpS, decide_eq_true_eq, decide_eq_false_iff_not, Bool.not_eq_true', Bool.not_eq_false', bne_iff_ne, ne_eq, bne_eq_false_iff_eq, beq_iff_eq, beq_eq_false_iff_ne, Int.not_lt, Int.not_le, Bool.not_true, Bool.not_false, reduceCtorEq] at *
  refine ⟨⟨?_, rfl⟩⟩
  by_cases h : (0 : Int) ≤ v
  · rw [hv.1 h]; simp [h]
  · have : n.all rrOkR = true := by
      cases e : n.all rrOkR with
      | true => rfl
      | false => exact absurd (hv.2 e) h
    rw [this]; simp [h]
set_option maxRecDepth 20000 in
theorem fn71 : Tryz.prog.funcs[71]? = some Tryz.f71 := rfl
set_option maxHeartbeats 40000000 in
set_option maxRecDepth 3000 in
theorem iAllRr (hP : Prg P) {n : List Rrv} {ns : List (List T)} (hn : encR n = ns) : ACall P 71 [.one (.t (.sl ns)), .one (.t (.fn (.func 72) [] []))] []
    (fun r ob => r = .one (.t (.bool (n.all rrOkR))) ∧ ob = []) := by
  refine acall_fn (md := md) [none] v71 hP.mixed hP.tab (fn_at hP fn71) 2 rfl (by decide +kernel) rfl ?_
  intro ar har
  cbv
  repeat' (first | (refine call_intro (iConRr hP (by assumption)) ?_; rintro r ob ⟨rfl, rfl⟩; generalize hcb : (!List.all _ _) = cb; cbv))
  subst har; simp only [std, icmpS, decide_eq_true_eq, decide_eq_false_iff_not, Bool.not_eq_true', Bool.not_eq_false', bne_iff_ne, ne_eq, bne_eq_false_iff_eq, beq_iff_eq, beq_eq_false_iff_ne, Int.not_lt, Int.not_le, Bool.not_true, Bool.not_false, reduceCtorEq] at *
  exact ⟨⟨by rw [← hcb]; simp, rfl⟩⟩
end Go.TL.Tryz

/- TfZoI -/
namespace Go.TL.Tryz
open Go Go.TL Go.Proofs
set_option maxRecDepth 20000
variable {P : Program}
set_option maxRecDepth 20000 in
theorem fn120 : Tryz.prog.funcs[120]? = some Tryz.f120 := rfl
set_option maxHeartbeats 40000000 in
set_option maxRecDepth 3000 in
theorem iEqN (hP : Prg P) {m n : List (List UInt8)} {ms ns : List (List T)} (hm : encN m = ms) (hn : encN n = ns) : ACall P 120 [.one (.t (.sl ms)), .one (.t (.sl ns)), .one (.t (.fn (.func 121) [] []))] []
    (fun r ob => r = .one (.t (.bool (decide (m = n)))) ∧ ob = []) := by
  have hlm := encN_len hm
  have hln := encN_len hn
  refine acall_fn (md := md) [none] v120 hP.mixed hP.tab (fn_at hP fn120) 3 rfl (by decide +kernel) rfl ?_
  intro ar har
  cbv
  repeat' (first | (intro; cbv) | (with_reducible refine and_side ?_ ?_; rotate_left; try cbv) | (refine ChkP.mk (by decide +kernel) ?_; cbv) | (refine br_intro ?_ ?_ <;> intro <;> cbv) | (refine get_at har (by assumption) (by assumption) (by assumption) (by assumption) ?_; cbv) | (refine get_lt har (by assumption) (by assumption) (by assumption) ?_; intro x xx hx hxx; cbv) | (refine get_atN har (by assumption) (by assumption) (by assumption) (by assumption) ?_; cbv) | (refine get_ltN har (by assumption) (by assumption) (by assumption) ?_; intro x xx hx hxx; cbv) | (refine get_atI har (by assumption) (by assumption) (by decide) ?_; cbv) | (refine get_twoA har (by assumption) (by assumption) (by decide) ?_; intro x hx; cbv) | (refine get_twoB har (by assumption) (by assumption) (by decide) ?_; intro x hx; cbv) | (refine bytes_intro (by assumption) ?_; cbv) | (exact side_lt har (by assumption) (by assumption)) | (exact side_inb har (by assumption) (by assumption) (by assumption)) | (exact side_sh har (by decide)) | (exact side_app har (by assumption) (by assumption) (by omega)) | (exact side_app0 har (by assumption) (by omega)) | (exact side_new har (by assumption) (by omega)) | (exact side_one har (by assumption) (by omega)) | (exact side_oneN har (by assumption) (by omega)) | (exact side_flat har (by assumption)) | (exact side_sbig har (by omega)) | (refine side_sbig har ?_; simp; done) | (exact side_oneI har (by assumption) (by omega)) | (refine side_ix har ?_; simp; done) | (refine side_ix har ?_; simp; omega))
  case refine_1 =>
    refine ret_bb ?_
    have h := neq_t har (by assumption : ar.icmp .neq (ar.len ms) (ar.len ns) = true)
    subst har
    have h : ¬ (ms.length : Int) = (ns.length : Int) := h
    have : ¬ m = n := by rintro rfl; omega
    simp [this]
  have hl : m.length = n.length := by
    have h := neq_f har (by assumption : ar.icmp .neq (ar.len ms) (ar.len ns) = false)
    subst har
    have h : (ms.length : Int) = (ns.length : Int) := h
    omega
  refine loop_start [] [] ?_
  cbv
  refine LoopR.mk Int (fun i => ([(17, .one (.t (.int .i64 i)))], [])) (fun i => 0 ≤ i ∧ i.toNat ≤ m.length ∧ m.take i.toNat = n.take i.toNat) (fun i => m.length - i.toNat) 0 ?e ?f ?g
  case e => kernel_rfl
  case f => exact ⟨Int.le_refl _, Nat.zero_le _, rfl⟩
  case g =>
    intro i hi
    have hi0 : 0 ≤ i := hi.1
    have hil : i.toNat ≤ m.length := hi.2.1
    have ht : m.take i.toNat = n.take i.toNat := hi.2.2
    clear hi
    cbv
    repeat' (first | (intro; cbv) | (with_reducible refine and_side ?_ ?_; rotate_left; try cbv) | (refine ChkP.mk (by decide +kernel) ?_; cbv) | (refine br_intro ?_ ?_ <;> intro <;> cbv) | (refine get_at har (by assumption) (by assumption) (by assumption) (by assumption) ?_; cbv) | (refine get_lt har (by assumption) (by assumption) (by assumption) ?_; intro x xx hx hxx; cbv) | (refine get_atN har (by assumption) (by assumption) (by assumption) (by assumption) ?_; cbv) | (refine get_ltN har (by assumption) (by assumption) (by assumption) ?_; intro x xx hx hxx; cbv) | (refine get_atI har (by assumption) (by assumption) (by decide) ?_; cbv) | (refine get_twoA har (by assumption) (by assumption) (by decide) ?_; intro x hx; cbv) | (refine get_twoB har (by assumption) (by assumption) (by decide) ?_; intro x hx; cbv) | (refine bytes_intro (by assumption) ?_; cbv) | (exact side_lt har (by assumption) (by assumption)) | (exact side_inb har (by assumption) (by assumption) (by assumption)) | (exact side_sh har (by decide)) | (exact side_app har (by assumption) (by assumption) (by omega)) | (exact side_app0 har (by assumption) (by omega)) | (exact side_new har (by assumption) (by omega)) | (exact side_one har (by assumption) (by omega)) | (exact side_oneN har (by assumption) (by omega)) | (exact side_flat har (by assumption)) | (exact side_sbig har (by omega)) | (refine side_sbig har ?_; simp; done) | (exact side_oneI har (by assumption) (by omega)) | (refine side_ix har ?_; simp; done) | (refine side_ix har ?_; simp; omega))
    case refine_2 =>
      have hend := ge_len har (by assumption : ar.icmp .lss i (ar.len ms) = false) hi0
      rw [List.take_of_length_le (by omega), List.take_of_length_le (by omega)] at ht
      exact ret_bb (by simp [ht])
    case refine_1 =>
      have hlt := (List.getElem?_eq_some_iff.1 hx).1
      refine get_label har hn ⟨hi0, by omega⟩ fun y yy hy hyy => ?_
      cbv
      repeat' (first | (intro; cbv) | (with_reducible refine and_side ?_ ?_; rotate_left; try cbv) | (refine ChkP.mk (by decide +kernel) ?_; cbv) | (refine br_intro ?_ ?_ <;> intro <;> cbv) | (refine get_at har (by assumption) (by assumption) (by assumption) (by assumption) ?_; cbv) | (refine get_lt har (by assumption) (by assumption) (by assumption) ?_; intro x xx hx hxx; cbv) | (refine get_atN har (by assumption) (by assumption) (by assumption) (by assumption) ?_; cbv) | (refine get_ltN har (by assumption) (by assumption) (by assumption) ?_; intro x xx hx hxx; cbv) | (refine get_atI har (by assumption) (by assumption) (by decide) ?_; cbv) | (refine get_twoA har (by assumption) (by assumption) (by decide) ?_; intro x hx; cbv) | (refine get_twoB har (by assumption) (by assumption) (by decide) ?_; intro x hx; cbv) | (refine bytes_intro (by assumption) ?_; cbv) | (exact side_lt har (by assumption) (by assumption)) | (exact side_inb har (by assumption) (by assumption) (by assumption)) | (exact side_sh har (by decide)) | (exact side_app har (by assumption) (by assumption) (by omega)) | (exact side_app0 har (by assumption) (by omega)) | (exact side_new har (by assumption) (by omega)) | (exact side_one har (by assumption) (by omega)) | (exact side_oneN har (by assumption) (by omega)) | (exact side_flat har (by assumption)) | (exact side_sbig har (by omega)) | (refine side_sbig har ?_; simp; done) | (exact side_oneI har (by assumption) (by omega)) | (refine side_ix har ?_; simp; done) | (refine side_ix har ?_; simp; omega) | (refine call_intro (iEqual hP (by assumption) (by assumption)) ?_; rintro r ob ⟨rfl, rfl⟩; generalize heqb : (@BEq.beq (List UInt8) _ _ _) = eqb; cbv) | (refine calld_intro (iEqual hP (by assumption) (by assumption)) ?_; generalize heqb : (@BEq.beq (List UInt8) _ _ _) = eqb; cbv))
      case refine_1 =>
        have h := bnot_t har (by assumption : ar.bnot eqb = true)
        refine ret_bb ?_
        have : ¬ m = n := by
          rintro rfl
          rw [hx] at hy; injection hy with hy; subst hy
          rw [h] at heqb; simp at heqb
        simp [this]
      case refine_2 =>
        have h := bnot_f har (by assumption : ar.bnot eqb = false)
        have hbg := big_le har (by assumption : ar.big ms)
        have e1 : ar.iop .add .i64 i 1 = i + 1 := add_std har (by omega) (by omega)
        have hxy : x = y := by rw [h] at heqb; simpa using heqb
        refine ⟨i + 1, by rw [← e1]; kernel_rfl, ⟨by omega, by omega, ?_⟩, by omega⟩
        rw [show (i + 1).toNat = i.toNat + 1 by omega, List.take_add_one, List.take_add_one, ht, hx, hy, hxy]
theorem max_sub {ar : Ar} (har : ar = std) {ms ns : List (List T)} {a b : Nat} (h1 : ms.length = a) (h2 : ns.length = b) (ha : a ≤ 2000000) (hb : b ≤ a) : ar.imax (ar.iop .sub .i64 (ar.len ms) (ar.len ns)) 0 = ar.iop .sub .i64 (ar.len ms) (ar.len ns) := by
  rw [sub_len har h1 h2 ha (by omega)]
  subst har
  simp only [std]
  split <;> omega
set_option maxRecDepth 20000 in
theorem fn74 : Tryz.prog.funcs[74]? = some Tryz.f74 := rfl
set_option maxHeartbeats 40000000 in
set_option maxRecDepth 3000 in
theorem iUnder (hP : Prg P) {m n : List (List UInt8)} {ms ns : List (List T)} (hm : encN m = ms) (hn : encN n = ns) (hml : m.length ≤ 2000000) (hnl : n.length ≤ 2000000) : ACall P 74 [.agg [.t (.sl ms)], .agg [.t (.sl ns)]] []
    (fun r ob => r = .one (.t (.bool (underB m n))) ∧ ob = []) := by
  have hlm := encN_len hm
  have hln := encN_len hn
  refine acall_fn (md := md) [none] v74 hP.mixed hP.tab (fn_at hP fn74) 2 rfl (by decide +kernel) rfl ?_
  intro ar har
  cbv
  repeat' (first | (intro; cbv) | (with_reducible refine and_side ?_ ?_; rotate_left; try cbv) | (refine ChkP.mk (by decide +kernel) ?_; cbv) | (refine br_intro ?_ ?_ <;> intro <;> cbv) | (refine get_at har (by assumption) (by assumption) (by assumption) (by assumption) ?_; cbv) | (refine get_lt har (by assumption) (by assumption) (by assumption) ?_; intro x xx hx hxx; cbv) | (refine get_atN har (by assumption) (by assumption) (by assumption) (by assumption) ?_; cbv) | (refine get_ltN har (by assumption) (by assumption) (by assumption) ?_; intro x xx hx hxx; cbv) | (refine get_atI har (by assumption) (by assumption) (by decide) ?_; cbv) | (refine get_twoA har (by assumption) (by assumption) (by decide) ?_; intro x hx; cbv) | (refine get_twoB har (by assumption) (by assumption) (by decide) ?_; intro x hx; cbv) | (refine bytes_intro (by assumption) ?_; cbv) | (exact side_lt har (by assumption) (by assumption)) | (exact side_inb har (by assumption) (by assumption) (by assumption)) | (exact side_sh har (by decide)) | (exact side_app har (by assumption) (by assumption) (by omega)) | (exact side_app0 har (by assumption) (by omega)) | (exact side_new har (by assumption) (by omega)) | (exact side_one har (by assumption) (by omega)) | (exact side_oneN har (by assumption) (by omega)) | (exact side_flat har (by assumption)) | (exact side_sbig har (by omega)) | (refine side_sbig har ?_; simp; done) | (exact side_oneI har (by assumption) (by omega)) | (refine side_ix har ?_; simp; done) | (refine side_ix har ?_; simp; omega))
  case refine_1.refine_2 =>
    have hge := ge_sub har hlm hln hml hnl (by assumption : _ = true)
    have hge2 : n.length ≤ m.length := by simpa using hge
    refine calld_intro (iEqN hP ((sub_tail har hm hln hml hge2).trans (congrArg (fun x => ar.sub ms x (ar.len ms)) (max_sub har hlm hln hml hge2).symm)) hn) ?_
    generalize heqn : decide (m.drop (m.length - n.length) = n) = eqn
    cbv
    repeat' (first | (intro; cbv) | (with_reducible refine and_side ?_ ?_; rotate_left; try cbv) | (refine ChkP.mk (by decide +kernel) ?_; cbv) | (refine br_intro ?_ ?_ <;> intro <;> cbv) | (refine get_at har (by assumption) (by assumption) (by assumption) (by assumption) ?_; cbv) | (refine get_lt har (by assumption) (by assumption) (by assumption) ?_; intro x xx hx hxx; cbv) | (refine get_atN har (by assumption) (by assumption) (by assumption) (by assumption) ?_; cbv) | (refine get_ltN har (by assumption) (by assumption) (by assumption) ?_; intro x xx hx hxx; cbv) | (refine get_atI har (by assumption) (by assumption) (by decide) ?_; cbv) | (refine get_twoA har (by assumption) (by assumption) (by decide) ?_; intro x hx; cbv) | (refine get_twoB har (by assumption) (by assumption) (by decide) ?_; intro x hx; cbv) | (refine bytes_intro (by assumption) ?_; cbv) | (exact side_lt har (by assumption) (by assumption)) | (exact side_inb har (by assumption) (by assumption) (by assumption)) | (exact side_sh har (by decide)) | (exact side_app har (by assumption) (by assumption) (by omega)) | (exact side_app0 har (by assumption) (by omega)) | (exact side_new har (by assumption) (by omega)) | (exact side_one har (by assumption) (by omega)) | (exact side_oneN har (by assumption) (by omega)) | (exact side_flat har (by assumption)) | (exact side_sbig har (by omega)) | (refine side_sbig har ?_; simp; done) | (exact side_oneI har (by assumption) (by omega)) | (refine side_ix har ?_; simp; done) | (refine side_ix har ?_; simp; omega))
    refine ret_bb ?_
    rw [underB, hge, ← heqn, Bool.eq_iff_iff]
    simp
  case refine_1.refine_1 =>
    have hge := ge_sub har hlm hln hml hnl (by assumption : _ = true)
    have hge2 : n.length ≤ m.length := by simpa using hge
    have h := side_tail har hlm hln hml hge2 (by rw [← hm]; exact wid_encN m)
    rw [← max_sub har hlm hln hml hge2] at h
    exact h
  case refine_2 =>
    have hge := ge_sub har hlm hln hml hnl (by assumption : ar.icmp .geq _ _ = false)
    refine ret_bb ?_
    rw [underB, hge]; rfl
/-- The records of a name and a type. -/
def inSet (n : List (List UInt8)) (t : Int) (r : Rrv) : Bool := (r.n == n) && (decide (t = 255) || decide (r.t = t))
def setV (l : List Rrv) (n : List (List UInt8)) (t : Int) : List Rrv := l.filter (inSet n t)
theorem filter_take_succ {α : Type} {p : α → Bool} {l : List α} {i : Nat} {x : α} (hx : l[i]? = some x) : (l.take (i + 1)).filter p = (l.take i).filter p ++ (if p x then [x] else []) := by
  rw [List.take_add_one, hx, List.filter_append]
  congr 1
  simp [List.filter_cons]
theorem side_cell {ar : Ar} (har : ar = std) {es : List (List T)} {c : List T} {k sz : Nat} (hl : es.length ≤ 10000000) (hk : k ≤ 1000) (hc : c.length = sz) : Side (ar.room k (ar.app es [c]) ∧ ar.wid sz [c]) := by
  subst har
  refine ⟨?_, fun x hx => by simp at hx; subst hx; exact hc⟩
  show (es ++ [c]).length * (k + 1) ≤ 2 ^ 46
  have : (es ++ [c]).length * (k + 1) ≤ 10000001 * 1001 := Nat.mul_le_mul (by simp; omega) (by omega)
  omega
set_option maxRecDepth 20000 in
theorem fn75 : Tryz.prog.funcs[75]? = some Tryz.f75 := rfl
set_option maxHeartbeats 40000000 in
set_option maxRecDepth 3000 in
theorem iSet (hP : Prg P) {l : List Rrv} {n : List (List UInt8)} {os rs ns : List (List T)} {t : Int} (hrs : encR l = rs) (hn : encN n = ns) (hb : BigN l) (hnl : n.length ≤ 2000000) (hll : l.length ≤ 1000000) : ACall P 75 [.agg [.t (.sl os), .t (.sl rs)], .agg [.t (.sl ns)], .one (.t (.int .i64 t))] []
    (fun r ob => r = .one (.row 32 0) ∧ ob = [(32, .row 7 (encR (setV l n t)) 0 [0] false)]) := by
  have hlen := encR_len hrs
  generalize hK : (fun (r : A) (ob : Obs) => r = A.one (V.row 32 0) ∧ ob = [(32, Ob.row 7 (encR (setV l n t)) 0 [0] false)]) = K
  refine acall_fn (md := md) [some []] v75 hP.mixed hP.tab (fn_at hP fn75) 3 rfl (by decide +kernel) rfl ?_
  intro ar har
  cbv
  repeat' (first | (intro; cbv) | (with_reducible refine and_side ?_ ?_; rotate_left; try cbv) | (refine ChkP.mk (by decide +kernel) ?_; cbv) | (refine br_intro ?_ ?_ <;> intro <;> cbv) | (refine get_at har (by assumption) (by assumption) (by assumption) (by assumption) ?_; cbv) | (refine get_lt har (by assumption) (by assumption) (by assumption) ?_; intro x xx hx hxx; cbv) | (refine get_atN har (by assumption) (by assumption) (by assumption) (by assumption) ?_; cbv) | (refine get_ltN har (by assumption) (by assumption) (by assumption) ?_; intro x xx hx hxx; cbv) | (refine get_atI har (by assumption) (by assumption) (by decide) ?_; cbv) | (refine get_twoA har (by assumption) (by assumption) (by decide) ?_; intro x hx; cbv) | (refine get_twoB har (by assumption) (by assumption) (by decide) ?_; intro x hx; cbv) | (refine bytes_intro (by assumption) ?_; cbv) | (exact side_lt har (by assumption) (by assumption)) | (exact side_inb har (by assumption) (by assumption) (by assumption)) | (exact side_sh har (by decide)) | (exact side_app har (by assumption) (by assumption) (by omega)) | (exact side_app0 har (by assumption) (by omega)) | (exact side_new har (by assumption) (by omega)) | (exact side_one har (by assumption) (by omega)) | (exact side_oneN har (by assumption) (by omega)) | (exact side_flat har (by assumption)) | (exact side_sbig har (by omega)) | (refine side_sbig har ?_; simp; done) | (exact side_oneI har (by assumption) (by omega)) | (refine side_ix har ?_; simp; done) | (refine side_ix har ?_; simp; omega))
  refine loop_start [] [] ?_
  cbv
  refine LoopR.mk (List (List T) × Int) (fun x => ([(14, .one (.t (.int .i64 x.2)))], [(18, .row 7 x.1 0 [0] false)])) (fun x => encR ((l.take x.2.toNat).filter (inSet n t)) = x.1 ∧ 0 ≤ x.2 ∧ x.2.toNat ≤ l.length) (fun x => l.length - x.2.toNat) ([], 0) ?e ?f ?g
  case e => kernel_rfl
  case f => exact ⟨rfl, Int.le_refl _, Nat.zero_le _⟩
  case g =>
    intro x hx
    obtain ⟨es, i⟩ := x
    have hes : encR ((l.take i.toNat).filter (inSet n t)) = es := hx.1
    have hi0 : 0 ≤ i := hx.2.1
    have hil : i.toNat ≤ l.length := hx.2.2
    clear hx
    cbv
    repeat' (first | (intro; cbv) | (with_reducible refine and_side ?_ ?_; rotate_left; try cbv) | (refine ChkP.mk (by decide +kernel) ?_; cbv) | (refine br_intro ?_ ?_ <;> intro <;> cbv) | (refine get_at har (by assumption) (by assumption) (by assumption) (by assumption) ?_; cbv) | (refine get_lt har (by assumption) (by assumption) (by assumption) ?_; intro x xx hx hxx; cbv) | (refine get_atN har (by assumption) (by assumption) (by assumption) (by assumption) ?_; cbv) | (refine get_ltN har (by assumption) (by assumption) (by assumption) ?_; intro x xx hx hxx; cbv) | (refine get_atI har (by assumption) (by assumption) (by decide) ?_; cbv) | (refine get_twoA har (by assumption) (by assumption) (by decide) ?_; intro x hx; cbv) | (refine get_twoB har (by assumption) (by assumption) (by decide) ?_; intro x hx; cbv) | (refine bytes_intro (by assumption) ?_; cbv) | (exact side_lt har (by assumption) (by assumption)) | (exact side_inb har (by assumption) (by assumption) (by assumption)) | (exact side_sh har (by decide)) | (exact side_app har (by assumption) (by assumption) (by omega)) | (exact side_app0 har (by assumption) (by omega)) | (exact side_new har (by assumption) (by omega)) | (exact side_one har (by assumption) (by omega)) | (exact side_oneN har (by assumption) (by omega)) | (exact side_flat har (by assumption)) | (exact side_sbig har (by omega)) | (refine side_sbig har ?_; simp; done) | (exact side_oneI har (by assumption) (by omega)) | (refine side_ix har ?_; simp; done) | (refine side_ix har ?_; simp; omega) | (refine get_ltR har (by assumption) (by assumption) (by assumption) ?_; intro x e1 e2 e3 e4 hx he1 he2 he3 he4; cbv))
    case refine_2 =>
      have hend := ge_len har (by assumption : ar.icmp .lss i (ar.len rs) = false) hi0
      rw [List.take_of_length_le (by omega)] at hes
      subst hK
      exact ⟨⟨rfl, by rw [← hes]; rfl⟩⟩
    have hxl := hb _ _ hx
    repeat' (first | (intro; cbv) | (with_reducible refine and_side ?_ ?_; rotate_left; try cbv) | (refine ChkP.mk (by decide +kernel) ?_; cbv) | (refine br_intro ?_ ?_ <;> intro <;> cbv) | (refine get_at har (by assumption) (by assumption) (by assumption) (by assumption) ?_; cbv) | (refine get_lt har (by assumption) (by assumption) (by assumption) ?_; intro x xx hx hxx; cbv) | (refine get_atN har (by assumption) (by assumption) (by assumption) (by assumption) ?_; cbv) | (refine get_ltN har (by assumption) (by assumption) (by assumption) ?_; intro x xx hx hxx; cbv) | (refine get_atI har (by assumption) (by assumption) (by decide) ?_; cbv) | (refine get_twoA har (by assumption) (by assumption) (by decide) ?_; intro x hx; cbv) | (refine get_twoB har (by assumption) (by assumption) (by decide) ?_; intro x hx; cbv) | (refine bytes_intro (by assumption) ?_; cbv) | (exact side_lt har (by assumption) (by assumption)) | (exact side_inb har (by assumption) (by assumption) (by assumption)) | (exact side_sh har (by decide)) | (exact side_app har (by assumption) (by assumption) (by omega)) | (exact side_app0 har (by assumption) (by omega)) | (exact side_new har (by assumption) (by omega)) | (exact side_one har (by assumption) (by omega)) | (exact side_oneN har (by assumption) (by omega)) | (exact side_flat har (by assumption)) | (exact side_sbig har (by omega)) | (refine side_sbig har ?_; simp; done) | (exact side_oneI har (by assumption) (by omega)) | (refine side_ix har ?_; simp; done) | (refine side_ix har ?_; simp; omega) | (refine call_intro (iNameIs hP (by assumption) (by assumption) (by omega) (by omega)) ?_; rintro r ob ⟨rfl, rfl⟩; generalize hni : (@BEq.beq (List (List UInt8)) _ _ _) = ni; cbv) | (refine calld_intro (iNameIs hP (by assumption) (by assumption) (by omega) (by omega)) ?_; generalize hni : (@BEq.beq (List (List UInt8)) _ _ _) = ni; cbv))
    all_goals have hlt := (List.getElem?_eq_some_iff.1 hx).1
    all_goals have hesl : es.length ≤ 1000000 := by rw [encR_len hes]; exact Nat.le_trans (List.length_filter_le _ _) (by simp; omega)
    all_goals have ea : ar.iop .add .i64 i 1 = i + 1 := add_std har (by omega) (by omega)
    all_goals have ei : (i + 1).toNat = i.toNat + 1 := by omega
    all_goals first
      | exact side_cell har (by omega) (by decide) rfl
      | (have h1 := (by assumption : ni = false)
         refine ⟨(es, i + 1), by rw [← ea]; kernel_rfl, ⟨?_, by dsimp only; omega, by dsimp only; omega⟩, by dsimp only; omega⟩
         show encR ((l.take (i + 1).toNat).filter (inSet n t)) = es
         rw [ei, filter_take_succ hx, inSet, hni, h1]; simpa using hes)
      | (have h1 := ne_cmp har (by assumption : ar.icmp .eql x.t t = false)
         have h2 := ne_cmp har (by assumption : ar.icmp .eql t 255 = false)
         refine ⟨(es, i + 1), by rw [← ea]; kernel_rfl, ⟨?_, by dsimp only; omega, by dsimp only; omega⟩, by dsimp only; omega⟩
         show encR ((l.take (i + 1).toNat).filter (inSet n t)) = es
         rw [ei, filter_take_succ hx, inSet, hni]; simpa [h1, h2] using hes)
      | (have hin : inSet n t x = true := by
           rw [inSet, hni, (by assumption : ni = true)]
           first
             | (have h1 := eq_cmp har (by assumption : ar.icmp .eql x.t t = true); simp [h1]; done)
             | (have h1 := eq_cmp har (by assumption : ar.icmp .eql t 255 = true); simp [h1]; done)
         refine ⟨(ar.app es [[.sl e1, .int .i64 x.t, .int .i64 x.ttl, .int .i64 x.addr, .sl e2, .sl e3, .sl e4]], i + 1), by rw [← ea]; kernel_rfl, ⟨?_, by dsimp only; omega, by dsimp only; omega⟩, by dsimp only; omega⟩
         show encR ((l.take (i + 1).toNat).filter (inSet n t)) = ar.app es _
         rw [ei, filter_take_succ hx, hin, if_pos rfl]
         subst har
         exact encR_app hes (encR_one he1 he2 he3 he4))
end Go.TL.Tryz

/- TfZoJ -/
namespace Go.TL.Tryz
open Go Go.TL Go.Proofs
set_option maxRecDepth 20000
variable {P : Program}
theorem lone_iff {l : List Rrv} {n : List (List UInt8)} {i : Nat} : loneB l n i l.length = true ↔ ∀ (k : Nat) x, k ≠ i → l[k]? = some x → x.n ≠ n := by
  rw [loneB, List.all_eq_true]
  constructor
  · intro h k x hk hx
    have := h k (by have := (List.getElem?_eq_some_iff.1 hx).1; simpa using this)
    simp [nameIs, hx, hk] at this
    exact this
  · intro h k hk
    have hk : k < l.length := by simpa using hk
    by_cases e : k = i
    · simp [e]
    · have hx := List.getElem?_eq_getElem hk
      have := h k _ e hx
      simp [nameIs, hx, this]
theorem set_any (l : List Rrv) (n : List (List UInt8)) : setV l n 255 = l.filter (fun r => r.n == n) := by
  unfold setV
  congr 1
  funext r
  simp [inSet]
theorem lone_set {l : List Rrv} {i : Nat} {r : Rrv} (hr : l[i]? = some r) : loneB l r.n i l.length = decide ((setV l r.n 255).length ≤ 1) := by
  have hil := (List.getElem?_eq_some_iff.1 hr).1
  have hl : l = l.take i ++ r :: l.drop (i + 1) := by
    rw [← (List.getElem?_eq_some_iff.1 hr).2, ← List.drop_eq_getElem_cons hil, List.take_append_drop]
  have hlen : (setV l r.n 255).length = ((l.take i).filter (fun x => x.n == r.n)).length + 1 + ((l.drop (i + 1)).filter (fun x => x.n == r.n)).length := by
    rw [set_any]
    conv => lhs; rw [hl]
    simp only [List.filter_append, List.filter_cons, beq_self_eq_true, if_true, List.length_append, List.length_cons]
    omega
  rw [Bool.eq_iff_iff, lone_iff, decide_eq_true_eq, hlen]
  constructor
  · intro h
    have h1 : (l.take i).filter (fun x => x.n == r.n) = [] := by
      rw [List.filter_eq_nil_iff]
      intro x hx
      obtain ⟨k, hk⟩ := List.getElem?_of_mem hx
      have hki : k < i := by have := (List.getElem?_eq_some_iff.1 hk).1; simp at this; omega
      rw [List.getElem?_take_of_lt hki] at hk
      simpa using h k x (by omega) hk
    have h2 : (l.drop (i + 1)).filter (fun x => x.n == r.n) = [] := by
      rw [List.filter_eq_nil_iff]
      intro x hx
      obtain ⟨k, hk⟩ := List.getElem?_of_mem hx
      rw [List.getElem?_drop] at hk
      simpa using h (i + 1 + k) x (by omega) hk
    rw [h1, h2]; simp
  · intro h k x hk hx
    have h1 : (l.take i).filter (fun x => x.n == r.n) = [] := List.eq_nil_of_length_eq_zero (by omega)
    have h2 : (l.drop (i + 1)).filter (fun x => x.n == r.n) = [] := List.eq_nil_of_length_eq_zero (by omega)
    rw [List.filter_eq_nil_iff] at h1 h2
    by_cases hlt : k < i
    · have := h1 x (List.mem_of_getElem? (i := k) (by rw [List.getElem?_take_of_lt hlt]; exact hx))
      simpa using this
    · have := h2 x (List.mem_of_getElem? (i := k - (i + 1)) (by rw [List.getElem?_drop, show i + 1 + (k - (i + 1)) = k by omega]; exact hx))
      simpa using this
theorem alone_set {l : List Rrv} {i : Nat} {r : Rrv} (hr : l[i]? = some r) : aloneB l i = (!decide (r.t = 5) || decide ((setV l r.n 255).length ≤ 1)) := by
  rw [aloneB, hr, ← lone_set hr]
theorem zone_all {z : Zon} (h : z.rs.all rrOkR = false) : zoneOk z = false := by
  rw [List.all_eq_false] at h
  obtain ⟨x, hx, hf⟩ := h
  obtain ⟨k, hk⟩ := List.getElem?_of_mem hx
  exact recs_bad (List.getElem?_eq_some_iff.1 hk).1 (by rw [recOk, hk]; simp [hf])
theorem rec_true {z : Zon} {i : Nat} {x : Rrv} (hx : z.rs[i]? = some x) (hrx : rrOkR x = true) (hun : underB x.n z.o = true) (hpv : prevB z.rs i = true) (hal : aloneB z.rs i = true) (ht : isTop x = false ∨ x.n = z.o) : recOk z i = true := by
  rw [recOk, hx]
  simp only [hrx, hun, hpv, hal, Bool.true_and]
  rcases ht with ht | ht
  · rw [ht]; rfl
  · rw [ht]; simp
theorem len_gt {ar : Ar} (har : ar = std) {es : List (List T)} {n : Int} {b : Bool} (h : ar.icmp .gtr (ar.len es) n = b) : decide (n < (es.length : Int)) = b := by subst har; exact h
set_option maxRecDepth 20000 in
theorem fn30 : Tryz.prog.funcs[30]? = some Tryz.f30 := rfl
set_option maxHeartbeats 40000000 in
set_option maxRecDepth 3000 in
theorem iZoneOk (hP : Prg P) {z : Zon} {os rs : List (List T)} (ho : encN z.o = os) (hrs : encR z.rs = rs) (hb : BigN z.rs) : ACall P 30 [.agg [.t (.sl os), .t (.sl rs)]] [] (fun r ob => r = .one (.t (.bool (zoneOk z))) ∧ ob = []) := by
  have hlen := encR_len hrs
  refine acall_fn (md := md) [none] v30 hP.mixed hP.tab (fn_at hP fn30) 1 rfl (by decide +kernel) rfl ?_
  intro ar har
  cbv
  repeat' (first | (intro; cbv) | (refine br_intro ?_ ?_ <;> intro <;> cbv) | (refine call_intro (iNameOk hP (by assumption)) ?_; rintro r ob ⟨rfl, rfl⟩; generalize hno : nameOk _ = no; cbv) | (refine call_intro (iAllRr hP (by assumption)) ?_; rintro r ob ⟨rfl, rfl⟩; generalize hab : List.all _ _ = ab; cbv))
  case refine_1 =>
    have h := bnot_t har (by assumption : ar.bnot no = true)
    exact ret_bb (by rw [zoneOk, hno, h]; rfl)
  case refine_2.refine_1 =>
    have h := gt_cmp har (by assumption)
    refine ret_bb ?_
    have h : ¬ z.rs.length ≤ 60 := by subst har; have h : (60 : Int) < (rs.length : Int) := h; omega
    simp [zoneOk, h]
  case refine_2.refine_2.refine_1 =>
    have h := bnot_t har (by assumption : ar.bnot ab = true)
    exact ret_bb (zone_all (hab.trans h)).symm
  have hnok := hno.trans (bnot_f har (by assumption : ar.bnot no = false))
  have hall := hab.trans (bnot_f har (by assumption : ar.bnot ab = false))
  have h60 : z.rs.length ≤ 60 := by
    have h := le_cmp har (by assumption : ar.icmp .gtr (ar.len rs) 60 = false)
    subst har; have h : (rs.length : Int) ≤ 60 := h; omega
  have hol : z.o.length ≤ 2000000 := by have := (nmB_ok hnok).1; omega
  have hrr : ∀ (k : Nat) x, z.rs[k]? = some x → rrOkR x = true := fun k x hx => List.all_eq_true.1 hall x (List.mem_of_getElem? hx)
  refine loop_start [21] [] ?_
  cbv
  refine LoopR.mk (Int × Int) (fun x => ([(3, .one (.t (.int .i64 x.1))), (25, .one (.t (.int .i64 x.2)))], [])) (fun x => 0 ≤ x.2 ∧ x.2.toNat ≤ z.rs.length ∧ recsOk z x.2.toNat = true ∧ 0 ≤ x.1 ∧ x.1.toNat = topsN z.rs x.2.toNat ∧ x.1 ≤ x.2) (fun x => z.rs.length - x.2.toNat) (0, 0) ?e ?f ?g
  case e => kernel_rfl
  case f => exact ⟨Int.le_refl _, Nat.zero_le _, rfl, Int.le_refl _, rfl, Int.le_refl _⟩
  case g =>
    intro x hx
    obtain ⟨c, i⟩ := x
    have hi0 : 0 ≤ i := hx.1
    have hil : i.toNat ≤ z.rs.length := hx.2.1
    have hrk : recsOk z i.toNat = true := hx.2.2.1
    have hc0 : 0 ≤ c := hx.2.2.2.1
    have hct : c.toNat = topsN z.rs i.toNat := hx.2.2.2.2.1
    have hci : c ≤ i := hx.2.2.2.2.2
    clear hx
    cbv
    repeat' (first | (refine br_intro ?_ ?_ <;> intro <;> cbv))
    case refine_2 =>
      have hend := ge_len har (by assumption) hi0
      refine ret_bb ?_
      have e : i.toNat = z.rs.length := by omega
      rw [e] at hrk hct
      rw [zoneOk, hnok, hrk, decide_eq_true h60, ← hct]
      subst har
      show (c == 1) = _
      rw [Bool.eq_iff_iff]; simp; omega
    refine get_ltR har hrs (by assumption) hi0 ?_
    intro x e1 e2 e3 e4 hx he1 he2 he3 he4
    have hxl := hb _ _ hx
    have hrx := hrr _ _ hx
    have hlt := (List.getElem?_eq_some_iff.1 hx).1
    have hal := alone_set hx
    generalize haln : setV z.rs x.n 255 = sv at hal
    have hsvl : encR sv = encR (setV z.rs x.n 255) := by rw [haln]
    cbv
    repeat' (first | (intro; cbv) | (refine ChkP.mk (by decide +kernel) ?_; cbv) | (refine br_intro ?_ ?_ <;> intro <;> cbv) | (refine calld_intro (iUnder hP (by assumption) (by assumption) (by omega) (by omega)) ?_; generalize hun : underB _ _ = un; cbv) | (refine call_intro (iNameIs hP (by assumption) (by assumption) (by omega) (by omega)) ?_; rintro r ob ⟨rfl, rfl⟩; generalize hni : (@BEq.beq (List (List UInt8)) _ _ _) = ni; cbv) | (refine call_intro (iSet hP (by assumption) (by assumption) (by assumption) (by omega) (by omega)) ?_; rintro r ob ⟨rfl, rfl⟩; generalize hset : encR (setV _ _ _) = sets; cbv))
    case refine_1.refine_1 =>
      have h0 := gt_cmp har (by assumption : ar.icmp .gtr i 0 = true)
      have es1 : ar.iop .sub .i64 i 1 = i - 1 := sub_std har (by omega) (by omega)
      have ej : (ar.iop .sub .i64 i 1).toNat = i.toNat - 1 := by rw [es1]; omega
      refine get_rec har hrs ⟨by show 0 ≤ ar.iop .sub .i64 i 1; rw [es1]; omega, by show (ar.iop .sub .i64 i 1).toNat < _; rw [ej]; omega⟩ fun y f1 f2 f3 f4 hy hf1 hf2 hf3 hf4 => ?_
      have hy : z.rs[(ar.iop .sub .i64 i 1).toNat]? = some y := hy
      rw [ej] at hy
      have hry : rrOkR y = true := hrr _ _ hy
      have hpe : prevB z.rs i.toNat = decide (cmpRR y x < 0) := by
        rw [show i.toNat = (i.toNat - 1) + 1 by omega, prevB, hy, show i.toNat - 1 + 1 = i.toNat by omega, hx]
      cbv
      repeat' (first | (intro; cbv) | (with_reducible refine and_side ?_ ?_; rotate_left; try cbv) | (refine ChkP.mk (by decide +kernel) ?_; cbv) | (refine br_intro ?_ ?_ <;> intro <;> cbv) | (refine get_at har (by assumption) (by assumption) (by assumption) (by assumption) ?_; cbv) | (refine get_lt har (by assumption) (by assumption) (by assumption) ?_; intro x xx hx hxx; cbv) | (refine get_atN har (by assumption) (by assumption) (by assumption) (by assumption) ?_; cbv) | (refine get_ltN har (by assumption) (by assumption) (by assumption) ?_; intro x xx hx hxx; cbv) | (refine get_atI har (by assumption) (by assumption) (by decide) ?_; cbv) | (refine get_twoA har (by assumption) (by assumption) (by decide) ?_; intro x hx; cbv) | (refine get_twoB har (by assumption) (by assumption) (by decide) ?_; intro x hx; cbv) | (refine bytes_intro (by assumption) ?_; cbv) | (exact side_lt har (by assumption) (by assumption)) | (exact side_inb har (by assumption) (by assumption) (by assumption)) | (exact side_sh har (by decide)) | (exact side_app har (by assumption) (by assumption) (by omega)) | (exact side_app0 har (by assumption) (by omega)) | (exact side_new har (by assumption) (by omega)) | (exact side_one har (by assumption) (by omega)) | (exact side_oneN har (by assumption) (by omega)) | (exact side_flat har (by assumption)) | (exact side_sbig har (by omega)) | (refine side_sbig har ?_; simp; done) | (exact side_oneI har (by assumption) (by omega)) | (refine side_ix har ?_; simp; done) | (refine side_ix har ?_; simp; omega))
      refine calld_intro (iRrCmpR hP hry hrx hf1 hf2 hf3 hf4 he1 he2 he3 he4) ?_
      generalize hcr : cmpRR y x = cr
      cbv
      have hpv : ar.icmp .geq cr 0 = false → prevB z.rs i.toNat = true := fun h => by
        have h := geq_f har h
        rw [hpe, hcr]; simpa using h
      repeat' (first | (intro; cbv) | (refine ChkP.mk (by decide +kernel) ?_; cbv) | (refine br_intro ?_ ?_ <;> intro <;> cbv))
      case refine_1 =>
        have h := geq_t har (by assumption : ar.icmp .geq cr 0 = true)
        exact ret_bb (recs_bad hlt (by rw [recOk, hx]; simp only [hpe, hcr, decide_eq_false (show ¬ cr < 0 by omega), Bool.false_and, Bool.and_false])).symm
      have hpv := hpv (by assumption : ar.icmp .geq cr 0 = false)
      repeat' (first | (intro; cbv) | (refine ChkP.mk (by decide +kernel) ?_; cbv) | (refine br_intro ?_ ?_ <;> intro <;> cbv) | (refine calld_intro (iUnder hP (by assumption) (by assumption) (by omega) (by omega)) ?_; generalize hun : underB _ _ = un; cbv) | (refine call_intro (iNameIs hP (by assumption) (by assumption) (by omega) (by omega)) ?_; rintro r ob ⟨rfl, rfl⟩; generalize hni : (@BEq.beq (List (List UInt8)) _ _ _) = ni; cbv) | (refine call_intro (iSet hP (by assumption) (by assumption) (by assumption) (by omega) (by omega)) ?_; rintro r ob ⟨rfl, rfl⟩; generalize hset : encR (setV _ _ _) = sets; cbv))
      all_goals have hbg := big_le har (by assumption : ar.big rs)
      all_goals have ea : ar.iop .add .i64 i 1 = i + 1 := add_std har (by omega) (by omega)
      all_goals have eb : ar.iop .add .i64 c 1 = c + 1 := add_std har (by omega) (by omega)
      all_goals have ei : (i + 1).toNat = i.toNat + 1 := by omega
      all_goals first
        | (have h := bnot_t har (by assumption : ar.bnot un = true)
           exact ret_bb (recs_bad hlt (by rw [recOk, hx]; simp [hun, h])).symm)
        | (have h := bnot_t har (by assumption : ar.bnot ni = true)
           have h6 := eq_cmp har (by assumption : ar.icmp .eql x.t 6 = true)
           exact ret_bb (recs_bad hlt (by rw [recOk, hx]; simp [isTop, h6, hni, h])).symm)
        | (have h := len_gt har (by assumption : ar.icmp .gtr (ar.len sets) 1 = true)
           have h5 := eq_cmp har (by assumption : ar.icmp .eql x.t 5 = true)
           have hsl : sets.length = sv.length := by rw [← hset, haln]; simp [encR]
           have h2 : ¬ sv.length ≤ 1 := by have h := of_decide_eq_true h; omega
           exact ret_bb (recs_bad hlt (by rw [recOk, hx]; simp [hal, h5, h2])).symm)
        | (have hu := bnot_f har (by assumption : ar.bnot un = false)
           have hal1 : aloneB z.rs i.toNat = true := by
             rw [hal]
             first
               | (have h5 := ne_cmp har (by assumption : ar.icmp .eql x.t 5 = false)
                  simp [h5]; done)
               | (have h := len_gt har (by assumption : ar.icmp .gtr (ar.len sets) 1 = false)
                  have hsl : sets.length = sv.length := by rw [← hset, haln]; simp [encR]
                  have h2 : sv.length ≤ 1 := by have h := of_decide_eq_false h; omega
                  simp [h2]; done)
           first
             | (have h6 := ne_cmp har (by assumption : ar.icmp .eql x.t 6 = false)
                have hok := rec_true hx hrx (hun.trans hu) hpv hal1 (.inl (by simp [isTop, h6]))
                refine ⟨(c, i + 1), by rw [← ea]; kernel_rfl, ⟨by dsimp only; omega, by dsimp only; omega, ?_, by dsimp only; omega, ?_, by dsimp only; omega⟩, by dsimp only; omega⟩
                · show recsOk z (i + 1).toNat = true
                  rw [ei, recs_succ, hrk, hok]; rfl
                · show c.toNat = topsN z.rs (i + 1).toNat
                  rw [ei, tops_succ hx, ← hct]; simp [isTop, h6])
             | (have h6 := eq_cmp har (by assumption : ar.icmp .eql x.t 6 = true)
                have hnn := bnot_f har (by assumption : ar.bnot ni = false)
                have hok := rec_true hx hrx (hun.trans hu) hpv hal1 (.inr (by rw [hnn] at hni; simpa using hni))
                refine ⟨(c + 1, i + 1), by rw [← ea, ← eb]; kernel_rfl, ⟨by dsimp only; omega, by dsimp only; omega, ?_, by dsimp only; omega, ?_, by dsimp only; omega⟩, by dsimp only; omega⟩
                · show recsOk z (i + 1).toNat = true
                  rw [ei, recs_succ, hrk, hok]; rfl
                · show (c + 1).toNat = topsN z.rs (i + 1).toNat
                  rw [ei, tops_succ hx, ← hct]; simp [isTop, h6]; omega))
    all_goals have h0 := le_cmp har (by assumption : ar.icmp .gtr i 0 = false)
    all_goals have hpv : prevB z.rs i.toNat = true := by rw [show i.toNat = 0 by omega]; rfl
    all_goals have hbg := big_le har (by assumption : ar.big rs)
    all_goals have ea : ar.iop .add .i64 i 1 = i + 1 := add_std har (by omega) (by omega)
    all_goals have eb : ar.iop .add .i64 c 1 = c + 1 := add_std har (by omega) (by omega)
    all_goals have ei : (i + 1).toNat = i.toNat + 1 := by omega
    all_goals first
      | (have h := bnot_t har (by assumption : ar.bnot un = true)
         exact ret_bb (recs_bad hlt (by rw [recOk, hx]; simp [hun, h])).symm)
      | (have h := bnot_t har (by assumption : ar.bnot ni = true)
         have h6 := eq_cmp har (by assumption : ar.icmp .eql x.t 6 = true)
         exact ret_bb (recs_bad hlt (by rw [recOk, hx]; simp [isTop, h6, hni, h])).symm)
      | (have h := len_gt har (by assumption : ar.icmp .gtr (ar.len sets) 1 = true)
         have h5 := eq_cmp har (by assumption : ar.icmp .eql x.t 5 = true)
         have hsl : sets.length = sv.length := by rw [← hset, haln]; simp [encR]
         have h2 : ¬ sv.length ≤ 1 := by have h := of_decide_eq_true h; omega
         exact ret_bb (recs_bad hlt (by rw [recOk, hx]; simp [hal, h5, h2])).symm)
      | (have hu := bnot_f har (by assumption : ar.bnot un = false)
         have hal1 : aloneB z.rs i.toNat = true := by
           rw [hal]
           first
             | (have h5 := ne_cmp har (by assumption : ar.icmp .eql x.t 5 = false)
                simp [h5]; done)
             | (have h := len_gt har (by assumption : ar.icmp .gtr (ar.len sets) 1 = false)
                have hsl : sets.length = sv.length := by rw [← hset, haln]; simp [encR]
                have h2 : sv.length ≤ 1 := by have h := of_decide_eq_false h; omega
                simp [h2]; done)
         first
           | (have h6 := ne_cmp har (by assumption : ar.icmp .eql x.t 6 = false)
              have hok := rec_true hx hrx (hun.trans hu) hpv hal1 (.inl (by simp [isTop, h6]))
              refine ⟨(c, i + 1), by rw [← ea]; kernel_rfl, ⟨by dsimp only; omega, by dsimp only; omega, ?_, by dsimp only; omega, ?_, by dsimp only; omega⟩, by dsimp only; omega⟩
              · show recsOk z (i + 1).toNat = true
                rw [ei, recs_succ, hrk, hok]; rfl
              · show c.toNat = topsN z.rs (i + 1).toNat
                rw [ei, tops_succ hx, ← hct]; simp [isTop, h6])
           | (have h6 := eq_cmp har (by assumption : ar.icmp .eql x.t 6 = true)
              have hnn := bnot_f har (by assumption : ar.bnot ni = false)
              have hok := rec_true hx hrx (hun.trans hu) hpv hal1 (.inr (by rw [hnn] at hni; simpa using hni))
              refine ⟨(c + 1, i + 1), by rw [← ea, ← eb]; kernel_rfl, ⟨by dsimp only; omega, by dsimp only; omega, ?_, by dsimp only; omega, ?_, by dsimp only; omega⟩, by dsimp only; omega⟩
              · show recsOk z (i + 1).toNat = true
                rw [ei, recs_succ, hrk, hok]; rfl
              · show (c + 1).toNat = topsN z.rs (i + 1).toNat
                rw [ei, tops_succ hx, ← hct]; simp [isTop, h6]; omega))
end Go.TL.Tryz

/- TfLeaB -/
namespace Go.TL.Tryz
open Go Go.TL Go.Proofs
set_option maxRecDepth 20000
variable {P : Program}
def homeN : List (List UInt8) := [[104, 111, 109, 101]]
def revN : List (List UInt8) := [[48], [48], [49, 48], [105, 110, 45, 97, 100, 100, 114], [97, 114, 112, 97]]
theorem home_read : (nameRead [104, 111, 109, 101, 46]).1 = homeN := by decide +kernel
theorem rev_read : (nameRead [48, 46, 48, 46, 49, 48, 46, 105, 110, 45, 97, 100, 100, 114, 46, 97, 114, 112, 97, 46]).1 = revN := by decide +kernel
set_option maxRecDepth 20000 in
theorem fn20 : Tryz.prog.funcs[20]? = some Tryz.f20 := rfl
set_option maxHeartbeats 40000000 in
set_option maxRecDepth 3000 in
theorem sHome (hP : Prg P) : ACall P 20 [] [] (fun r ob => r = .agg [.t (.sl (encN homeN))] ∧ ob = []) := by
  generalize hh : encN homeN = hs
  refine acall_fn (md := md) [none] v20 hP.mixed hP.tab (fn_at hP fn20) 0 rfl (by decide +kernel) rfl ?_
  intro ar har
  cbv
  refine call_intro (of_w hP (by decide)) ?_
  rintro r ob ⟨rfl, rfl⟩
  rw [home_read, hh]
  cbv
  repeat' (first | (intro; cbv) | (with_reducible refine and_side ?_ ?_; rotate_left; try cbv) | (refine ChkP.mk (by decide +kernel) ?_; cbv) | (refine br_intro ?_ ?_ <;> intro <;> cbv) | (exact side_sh har (by decide)))
  exact ⟨⟨rfl, rfl⟩⟩
set_option maxRecDepth 20000 in
theorem fn21 : Tryz.prog.funcs[21]? = some Tryz.f21 := rfl
set_option maxHeartbeats 40000000 in
set_option maxRecDepth 3000 in
theorem sRev (hP : Prg P) : ACall P 21 [] [] (fun r ob => r = .agg [.t (.sl (encN revN))] ∧ ob = []) := by
  generalize hh : encN revN = hs
  refine acall_fn (md := md) [none] v21 hP.mixed hP.tab (fn_at hP fn21) 0 rfl (by decide +kernel) rfl ?_
  intro ar har
  cbv
  refine call_intro (of_w hP (by decide)) ?_
  rintro r ob ⟨rfl, rfl⟩
  rw [rev_read, hh]
  cbv
  repeat' (first | (intro; cbv) | (with_reducible refine and_side ?_ ?_; rotate_left; try cbv) | (refine ChkP.mk (by decide +kernel) ?_; cbv) | (refine br_intro ?_ ?_ <;> intro <;> cbv) | (exact side_sh har (by decide)))
  exact ⟨⟨rfl, rfl⟩⟩
def ipOk (n : Int) : Bool := withinB n 167772161 167772414
set_option maxRecDepth 20000 in
theorem fn60 : Tryz.prog.funcs[60]? = some Tryz.f60 := rfl
set_option maxHeartbeats 40000000 in
set_option maxRecDepth 3000 in
theorem sIp (hP : Prg P) {n : Int} : ACall P 60 [.one (.t (.int .i64 n))] [] (fun r ob => r = .one (.t (.bool (ipOk n))) ∧ ob = []) := by
  refine acall_fn (md := md) [none] v60 hP.mixed hP.tab (fn_at hP fn60) 1 rfl (by decide +kernel) rfl ?_
  intro ar har
  cbv
  repeat' (first | (refine br_intro ?_ ?_ <;> intro <;> cbv))
  all_goals refine ret_bb ?_
  all_goals subst har
  all_goals simp only [std, icmpS, ipOk, withinB] at *
  all_goals simp_all
  all_goals try omega
  all_goals try (rw [Bool.eq_iff_iff]; simp; omega)
def clientOk (l : List UInt8) : Bool := decide (1 ≤ l.length ∧ l.length ≤ 16)
set_option maxRecDepth 20000 in
theorem fn61 : Tryz.prog.funcs[61]? = some Tryz.f61 := rfl
set_option maxHeartbeats 40000000 in
set_option maxRecDepth 3000 in
theorem sClient (hP : Prg P) {l : List UInt8} {ls : List (List T)} (hl : encB l = ls) : ACall P 61 [.one (.t (.sl ls))] [] (fun r ob => r = .one (.t (.bool (clientOk l))) ∧ ob = []) := by
  have hlen := encB_len hl
  refine acall_fn (md := md) [none] v61 hP.mixed hP.tab (fn_at hP fn61) 1 rfl (by decide +kernel) rfl ?_
  intro ar har
  cbv
  repeat' (first | (intro; cbv) | (refine br_intro ?_ ?_ <;> intro <;> cbv))
  all_goals refine ret_bb ?_
  all_goals subst har
  all_goals simp only [std, icmpS, clientOk] at *
  all_goals simp_all
  all_goals try omega
  all_goals try (rw [Bool.eq_iff_iff]; simp; omega)
def untilB (now til : Int) : Bool := decide (now < til) && decide (til ≤ 2000000)
def leaOk (l : Lea) (now : Int) : Bool := ipOk l.ip && (clientOk l.cl && (labelOk l.ho && untilB now l.til))
set_option maxRecDepth 20000 in
theorem fn22 : Tryz.prog.funcs[22]? = some Tryz.f22 := rfl
set_option maxHeartbeats 40000000 in
set_option maxRecDepth 3000 in
theorem sLease (hP : Prg P) {l : Lea} {e1 e2 : List (List T)} (he1 : encB l.cl = e1) (he2 : encB l.ho = e2) {now : Int} : ACall P 22 [.agg [.t (.int .i64 l.ip), .t (.sl e1), .t (.sl e2), .t (.int .i64 l.til), .t (.bool l.won)], .one (.t (.int .i64 now))] [] (fun r ob => r = .one (.t (.bool (leaOk l now))) ∧ ob = []) := by
  refine acall_fn (md := md) [none] v22 hP.mixed hP.tab (fn_at hP fn22) 2 rfl (by decide +kernel) rfl ?_
  intro ar har
  cbv
  repeat' (first | (refine br_intro ?_ ?_ <;> intro <;> cbv) | (refine call_intro (sIp hP) ?_; rintro r ob ⟨rfl, rfl⟩; generalize hip : ipOk _ = ipo; cbv) | (refine call_intro (sClient hP (by assumption)) ?_; rintro r ob ⟨rfl, rfl⟩; generalize hco : clientOk _ = co; cbv) | (refine call_intro (sLabelOk hP (by assumption)) ?_; rintro r ob ⟨rfl, rfl⟩; generalize hv : labelOk _ = v; cbv))
  all_goals refine ret_bb ?_
  all_goals subst har
  all_goals simp only [std, icmpS, leaOk, untilB] at *
  all_goals simp_all
  all_goals try (intros; omega)
set_option maxRecDepth 20000 in
theorem fn78 : Tryz.prog.funcs[78]? = some Tryz.f78 := rfl
set_option maxHeartbeats 40000000 in
set_option maxRecDepth 3000 in
theorem iIp (hP : Prg P) {n : Int} : ACall P 78 [.one (.t (.int .i64 n))] [] (fun r ob => r = .one (.t (.bool (ipOk n))) ∧ ob = []) := by
  refine acall_fn (md := md) [none] v78 hP.mixed hP.tab (fn_at hP fn78) 1 rfl (by decide +kernel) rfl ?_
  intro ar har
  cbv
  repeat' (first | (refine call_intro (iWithin hP) ?_; rintro r ob ⟨rfl, rfl⟩; generalize hwi : withinB _ _ _ = wi; cbv))
  exact ⟨⟨by rw [ipOk, hwi], rfl⟩⟩
set_option maxRecDepth 20000 in
theorem fn79 : Tryz.prog.funcs[79]? = some Tryz.f79 := rfl
set_option maxHeartbeats 40000000 in
set_option maxRecDepth 3000 in
theorem iClient (hP : Prg P) {l : List UInt8} {ls : List (List T)} (hl : encB l = ls) : ACall P 79 [.one (.t (.sl ls))] [] (fun r ob => r = .one (.t (.bool (clientOk l))) ∧ ob = []) := by
  have hlen := encB_len hl
  refine acall_fn (md := md) [none] v79 hP.mixed hP.tab (fn_at hP fn79) 1 rfl (by decide +kernel) rfl ?_
  intro ar har
  cbv
  repeat' (first | (intro; cbv) | (refine call_intro (iWithin hP) ?_; rintro r ob ⟨rfl, rfl⟩; generalize hwi : withinB _ _ _ = wi; cbv))
  refine ret_bb ?_
  subst har
  rw [← hwi]
  show decide (1 ≤ (ls.length : Int) ∧ (ls.length : Int) ≤ 16) = decide (1 ≤ l.length ∧ l.length ≤ 16)
  rw [hlen, Bool.eq_iff_iff]; simp; omega
set_option maxRecDepth 20000 in
theorem fn81 : Tryz.prog.funcs[81]? = some Tryz.f81 := rfl
set_option maxHeartbeats 40000000 in
set_option maxRecDepth 3000 in
theorem iUntil (hP : Prg P) {a b : Int} : ACall P 81 [.one (.t (.int .i64 a)), .one (.t (.int .i64 b))] [] (fun r ob => r = .one (.t (.bool (untilB a b))) ∧ ob = []) := by
  refine acall_fn (md := md) [none] v81 hP.mixed hP.tab (fn_at hP fn81) 2 rfl (by decide +kernel) rfl ?_
  intro ar har
  cbv
  repeat' (first | (refine br_intro ?_ ?_ <;> intro <;> cbv))
  all_goals refine ret_bb ?_
  all_goals subst har
  all_goals simp only [std, icmpS, untilB] at *
  all_goals simp_all
  all_goals try (intros; omega)
set_option maxRecDepth 20000 in
theorem fn34 : Tryz.prog.funcs[34]? = some Tryz.f34 := rfl
set_option maxHeartbeats 40000000 in
set_option maxRecDepth 3000 in
theorem iLeaseOk (hP : Prg P) {l : Lea} {e1 e2 : List (List T)} (he1 : encB l.cl = e1) (he2 : encB l.ho = e2) {now : Int} : ACall P 34 [.agg [.t (.int .i64 l.ip), .t (.sl e1), .t (.sl e2), .t (.int .i64 l.til), .t (.bool l.won)], .one (.t (.int .i64 now))] [] (fun r ob => r = .one (.t (.bool (leaOk l now))) ∧ ob = []) := by
  refine acall_fn (md := md) [none] v34 hP.mixed hP.tab (fn_at hP fn34) 2 rfl (by decide +kernel) rfl ?_
  intro ar har
  cbv
  repeat' (first | (refine br_intro ?_ ?_ <;> intro <;> cbv) | (refine call_intro (iIp hP) ?_; rintro r ob ⟨rfl, rfl⟩; generalize hip : ipOk _ = ipo; cbv) | (refine call_intro (iClient hP (by assumption)) ?_; rintro r ob ⟨rfl, rfl⟩; generalize hco : clientOk _ = co; cbv) | (refine call_intro (iLabelOk hP (by assumption)) ?_; rintro r ob ⟨rfl, rfl⟩; generalize hlo : labelOk _ = lo; cbv) | (refine call_intro (iUntil hP) ?_; rintro r ob ⟨rfl, rfl⟩; generalize hunt : untilB _ _ = unt; cbv))
  all_goals refine ret_bb ?_
  all_goals simp_all [leaOk]
theorem homeN_b : NmB homeN ∧ homeN.length ≤ 10 := ⟨nmB_ok (by decide +kernel), by decide⟩
set_option maxRecDepth 20000 in
theorem fn103 : Tryz.prog.funcs[103]? = some Tryz.f103 := rfl
set_option maxHeartbeats 40000000 in
set_option maxRecDepth 3000 in
theorem sChild (hP : Prg P) {n : List (List UInt8)} {ns ls : List (List T)} {l : List UInt8} (hn : encN n = ns) (hl : encB l = ls) (hnl : n.length ≤ 1000000) : ACall P 103 [.agg [.t (.sl ns)], .one (.t (.sl ls))] [] (fun r ob => r = .agg [.t (.sl (encN (l :: n)))] ∧ ob = []) := by
  have hlen := encN_len hn
  have he : encN (l :: n) = [[.sl ls]] ++ ns := by subst hn; subst hl; rfl
  generalize hh : encN (l :: n) = hs at he
  refine acall_fn (md := md) [none] v103 hP.mixed hP.tab (fn_at hP fn103) 2 rfl (by decide +kernel) rfl ?_
  intro ar har
  cbv
  repeat' (first | (with_reducible refine and_side ?_ ?_; rotate_left; try cbv))
  case refine_2 => refine ⟨⟨?_, rfl⟩⟩; rw [he]; subst har; rfl
  case refine_1 =>
    refine ⟨?_, by subst har; rw [← hn]; exact wid_encN n⟩
    subst har
    show ([[T.sl ls]] ++ ns).length * (24 + 1) ≤ 2 ^ 46
    simp; omega
theorem encC (l : List UInt8) (n : List (List UInt8)) {es : List (List T)} (h : encN (l :: n) = es) : encN (l :: n) = es := h
set_option maxRecDepth 20000 in
theorem fn64 : Tryz.prog.funcs[64]? = some Tryz.f64 := rfl
set_option maxHeartbeats 40000000 in
set_option maxRecDepth 3000 in
theorem sName (hP : Prg P) {l : List UInt8} {ls : List (List T)} (hl : encB l = ls) : ACall P 64 [.one (.t (.sl ls))] [] (fun r ob => r = .agg [.t (.sl (encN (l :: homeN)))] ∧ ob = []) := by
  have hhl := homeN_b.2
  refine acall_fn (md := md) [none] v64 hP.mixed hP.tab (fn_at hP fn64) 1 rfl (by decide +kernel) rfl ?_
  intro ar har
  cbv
  refine call_intro (sHome hP) ?_; rintro r ob ⟨rfl, rfl⟩
  generalize hhn : homeN = hm at hhl ⊢
  generalize hhom : encN hm = homs
  cbv
  repeat' (first | (refine call_intro (sChild hP (by assumption) (by assumption) (by omega)) ?_; rintro r ob ⟨rfl, rfl⟩; generalize hchi : encN (_ :: _) = chis; cbv))
  exact ⟨⟨rfl, rfl⟩⟩
def leaA (l : Lea) : Rrv := ⟨l.ho :: homeN, 1, 60, l.ip, [], [], []⟩
set_option maxRecDepth 20000 in
theorem fn24 : Tryz.prog.funcs[24]? = some Tryz.f24 := rfl
set_option maxHeartbeats 40000000 in
set_option maxRecDepth 3000 in
theorem sA (hP : Prg P) {l : Lea} {e1 e2 : List (List T)} (he1 : encB l.cl = e1) (he2 : encB l.ho = e2) : ACall P 24 [.agg [.t (.int .i64 l.ip), .t (.sl e1), .t (.sl e2), .t (.int .i64 l.til), .t (.bool l.won)]] []
    (fun r ob => r = .agg [.t (.sl (encN (l.ho :: homeN))), .t (.int .i64 1), .t (.int .i64 60), .t (.int .i64 l.ip), .t (.sl []), .t (.sl []), .t (.sl [])] ∧ ob = []) := by
  refine acall_fn (md := md) [none] v24 hP.mixed hP.tab (fn_at hP fn24) 1 rfl (by decide +kernel) rfl ?_
  intro ar har
  cbv
  repeat' (first | (intro; cbv) | (refine ChkP.mk (by decide +kernel) ?_; cbv) | (refine calld_intro (sName hP (by assumption)) ?_; generalize hlna : encN (_ :: _) = lnas; cbv))
  exact ⟨⟨rfl, rfl⟩⟩
theorem get_ltStr {ar : Ar} (har : ar = std) {n : List (List UInt8)} {es : List (List T)} {i : Int} {K : List T → Prop} (hes : n.map (fun s => [T.str s]) = es) (h : ar.icmp .lss i (ar.len es) = true) (h0 : 0 ≤ i)
    (k : ∀ x, n[i.toNat]? = some x → K [.str x]) : GetP ar es i K := by
  have hl := lt_len har h h0
  have hlen : es.length = n.length := by subst hes; simp
  have hi : i.toNat < n.length := by omega
  have := k n[i.toNat] (List.getElem?_eq_getElem hi)
  subst har; subst hes
  refine ⟨by simp [std]; omega, ?_⟩
  simpa [std, hi] using this
set_option maxRecDepth 20000 in
theorem fn77 : Tryz.prog.funcs[77]? = some Tryz.f77 := rfl
set_option maxHeartbeats 40000000 in
set_option maxRecDepth 3000 in
theorem iNameOf (hP : Prg P) {es : List (List T)} {n : List (List UInt8)} (hes : n.map (fun s => [T.str s]) = es) (hn : n.length ≤ 100) (hnl : ∀ l ∈ n, l.length ≤ 100) : ACall P 77 [.one (.t (.sl es))] [] (fun r ob => r = .agg [.row 32 0] ∧ ob = [(32, .row 1 (encN n) 0 [0] false)]) := by
  have hlen : es.length = n.length := by subst hes; simp
  generalize hK : (fun (r : A) (ob : Obs) => r = A.agg [V.row 32 0] ∧ ob = [(32, Ob.row 1 (encN n) 0 [0] false)]) = K
  refine acall_fn (md := md) [some [(0, 1)]] v77 hP.mixed hP.tab (fn_at hP fn77) 1 rfl (by decide +kernel) rfl ?_
  intro ar har
  cbv
  repeat' (first | (intro; cbv))
  refine loop_start [] [.cell 3 0 1 12] ?_
  cbv
  refine LoopR.mk (List (List T) × Int) (fun x => ([(9, .one (.t (.int .i64 x.2)))], [(18, .row 1 x.1 0 [0] false)])) (fun x => encN (n.take x.2.toNat) = x.1 ∧ 0 ≤ x.2 ∧ x.2.toNat ≤ n.length) (fun x => n.length - x.2.toNat) ([], 0) ?e ?f ?g
  case e => kernel_rfl
  case f => exact ⟨rfl, Int.le_refl _, Nat.zero_le _⟩
  case g =>
    intro x hx
    obtain ⟨ls, i⟩ := x
    have hls : encN (n.take i.toNat) = ls := hx.1
    have hi0 : 0 ≤ i := hx.2.1
    have hil : i.toNat ≤ n.length := hx.2.2
    have hlsl : ls.length ≤ 100 := by rw [encN_len hls]; simp; omega
    clear hx
    cbv
    repeat' (first | (refine br_intro ?_ ?_ <;> intro <;> cbv))
    case refine_2 =>
      have hend := ge_len har (by assumption : ar.icmp .lss i (ar.len es) = false) hi0
      rw [List.take_of_length_le (by omega)] at hls
      subst hK
      exact ⟨⟨rfl, by rw [← hls]⟩⟩
    refine get_ltStr har hes (by assumption) hi0 ?_
    intro s hs
    cbv
    repeat' (first | (intro; cbv) | (with_reducible refine and_side ?_ ?_; rotate_left; try cbv))
    case refine_1.refine_1 =>
      have := hnl s (List.mem_of_getElem? hs)
      exact side_sbig har (by omega)
    case refine_1.refine_2.refine_1 => exact ⟨by subst har; simp [std]; omega, by subst har; exact wid_one _⟩
    case refine_1.refine_2.refine_2 =>
      have hlt := (List.getElem?_eq_some_iff.1 hs).1
      have ea : ar.iop .add .i64 i 1 = i + 1 := add_std har (by omega) (by omega)
      refine ⟨(ar.app ls [[.sl (ar.ofStr s)]], i + 1), by rw [← ea]; kernel_rfl, ⟨?_, by dsimp only; omega, by dsimp only; omega⟩, by dsimp only; omega⟩
      show encN (n.take (i + 1).toNat) = ar.app ls _
      rw [show (i + 1).toNat = i.toNat + 1 by omega, List.take_add_one, hs]
      subst har
      exact encN_app hls rfl
set_option maxRecDepth 20000 in
theorem fn125 : Tryz.prog.funcs[125]? = some Tryz.f125 := rfl
set_option maxHeartbeats 40000000 in
set_option maxRecDepth 3000 in
theorem iChild (hP : Prg P) {n : List (List UInt8)} {ns ls : List (List T)} {l : List UInt8} (hn : encN n = ns) (hl : encB l = ls) (hb : NmB (l :: n)) : ACall P 125 [.agg [.t (.sl ns)], .one (.t (.sl ls))] [] (fun r ob => r = .agg [.t (.sl (encN (l :: n)))] ∧ ob = []) := by
  have hlen := encN_len hn
  have he : encN (l :: n) = [[.sl ls]] ++ ns := by subst hn; subst hl; rfl
  generalize hh : encN (l :: n) = hs at he
  refine acall_fn (md := md) [none] v125 hP.mixed hP.tab (fn_at hP fn125) 2 rfl (by decide +kernel) rfl ?_
  intro ar har
  cbv
  repeat' (first | (with_reducible refine and_side ?_ ?_; rotate_left; try cbv))
  case refine_1 =>
    have := hb.1
    refine ⟨?_, by subst har; rw [← hn]; exact wid_encN n⟩
    subst har
    show ([[T.sl ls]] ++ ns).length * (24 + 1) ≤ 2 ^ 46
    simp at this ⊢; omega
  case refine_2 =>
    refine call_intro (iCopied hP (n := l :: n) (show encN (l :: n) = ar.app [[.sl ls]] ns by rw [hh, he]; subst har; rfl) hb) ?_
    rintro r ob ⟨rfl, rfl⟩
    cbv
    repeat' (first | (intro; cbv) | (with_reducible refine and_side ?_ ?_; rotate_left; try cbv) | (refine ChkP.mk (by decide +kernel) ?_; cbv) | (refine br_intro ?_ ?_ <;> intro <;> cbv) | (refine get_at har (by assumption) (by assumption) (by assumption) (by assumption) ?_; cbv) | (refine get_lt har (by assumption) (by assumption) (by assumption) ?_; intro x xx hx hxx; cbv) | (refine get_atN har (by assumption) (by assumption) (by assumption) (by assumption) ?_; cbv) | (refine get_ltN har (by assumption) (by assumption) (by assumption) ?_; intro x xx hx hxx; cbv) | (refine get_atI har (by assumption) (by assumption) (by decide) ?_; cbv) | (refine get_twoA har (by assumption) (by assumption) (by decide) ?_; intro x hx; cbv) | (refine get_twoB har (by assumption) (by assumption) (by decide) ?_; intro x hx; cbv) | (refine bytes_intro (by assumption) ?_; cbv) | (exact side_lt har (by assumption) (by assumption)) | (exact side_inb har (by assumption) (by assumption) (by assumption)) | (exact side_sh har (by decide)) | (exact side_app har (by assumption) (by assumption) (by omega)) | (exact side_app0 har (by assumption) (by omega)) | (exact side_new har (by assumption) (by omega)) | (exact side_one har (by assumption) (by omega)) | (exact side_oneN har (by assumption) (by omega)) | (exact side_flat har (by assumption)) | (exact side_sbig har (by omega)) | (refine side_sbig har ?_; simp; done) | (exact side_oneI har (by assumption) (by omega)) | (refine side_ix har ?_; simp; done) | (refine side_ix har ?_; simp; omega))
    refine ⟨⟨?_, rfl⟩⟩
    rw [he]; subst har; rfl
set_option maxRecDepth 20000 in
theorem fn32 : Tryz.prog.funcs[32]? = some Tryz.f32 := rfl
set_option maxHeartbeats 40000000 in
set_option maxRecDepth 3000 in
theorem iHome (hP : Prg P) : ACall P 32 [] [] (fun r ob => r = .agg [.t (.sl (encN homeN))] ∧ ob = []) := by
  generalize hh : encN homeN = hs
  refine acall_fn (md := md) [none] v32 hP.mixed hP.tab (fn_at hP fn32) 0 rfl (by decide +kernel) rfl ?_
  intro ar har
  cbv
  repeat' (first | (intro; cbv) | (with_reducible refine and_side ?_ ?_; rotate_left; try cbv) | (refine ChkP.mk (by decide +kernel) ?_; cbv) | (refine br_intro ?_ ?_ <;> intro <;> cbv) | (refine get_at har (by assumption) (by assumption) (by assumption) (by assumption) ?_; cbv) | (refine get_lt har (by assumption) (by assumption) (by assumption) ?_; intro x xx hx hxx; cbv) | (refine get_atN har (by assumption) (by assumption) (by assumption) (by assumption) ?_; cbv) | (refine get_ltN har (by assumption) (by assumption) (by assumption) ?_; intro x xx hx hxx; cbv) | (refine get_atI har (by assumption) (by assumption) (by decide) ?_; cbv) | (refine get_twoA har (by assumption) (by assumption) (by decide) ?_; intro x hx; cbv) | (refine get_twoB har (by assumption) (by assumption) (by decide) ?_; intro x hx; cbv) | (refine bytes_intro (by assumption) ?_; cbv) | (exact side_lt har (by assumption) (by assumption)) | (exact side_inb har (by assumption) (by assumption) (by assumption)) | (exact side_sh har (by decide)) | (exact side_app har (by assumption) (by assumption) (by omega)) | (exact side_app0 har (by assumption) (by omega)) | (exact side_new har (by assumption) (by omega)) | (exact side_one har (by assumption) (by omega)) | (exact side_oneN har (by assumption) (by omega)) | (exact side_flat har (by assumption)) | (exact side_sbig har (by omega)) | (refine side_sbig har ?_; simp; done) | (exact side_oneI har (by assumption) (by omega)) | (refine side_ix har ?_; simp; done) | (refine side_ix har ?_; simp; omega))
  refine call_intro (iNameOf hP (n := homeN) rfl (by decide) (by decide)) ?_
  rintro r ob ⟨rfl, rfl⟩
  rw [hh]
  cbv
  repeat' (first | (intro; cbv) | (with_reducible refine and_side ?_ ?_; rotate_left; try cbv) | (refine ChkP.mk (by decide +kernel) ?_; cbv) | (refine br_intro ?_ ?_ <;> intro <;> cbv) | (exact side_sh har (by decide)))
  exact ⟨⟨rfl, rfl⟩⟩
set_option maxRecDepth 20000 in
theorem fn33 : Tryz.prog.funcs[33]? = some Tryz.f33 := rfl
set_option maxHeartbeats 40000000 in
set_option maxRecDepth 3000 in
theorem iRev (hP : Prg P) : ACall P 33 [] [] (fun r ob => r = .agg [.t (.sl (encN revN))] ∧ ob = []) := by
  generalize hh : encN revN = hs
  refine acall_fn (md := md) [none] v33 hP.mixed hP.tab (fn_at hP fn33) 0 rfl (by decide +kernel) rfl ?_
  intro ar har
  cbv
  repeat' (first | (intro; cbv) | (with_reducible refine and_side ?_ ?_; rotate_left; try cbv) | (refine ChkP.mk (by decide +kernel) ?_; cbv) | (refine br_intro ?_ ?_ <;> intro <;> cbv) | (refine get_at har (by assumption) (by assumption) (by assumption) (by assumption) ?_; cbv) | (refine get_lt har (by assumption) (by assumption) (by assumption) ?_; intro x xx hx hxx; cbv) | (refine get_atN har (by assumption) (by assumption) (by assumption) (by assumption) ?_; cbv) | (refine get_ltN har (by assumption) (by assumption) (by assumption) ?_; intro x xx hx hxx; cbv) | (refine get_atI har (by assumption) (by assumption) (by decide) ?_; cbv) | (refine get_twoA har (by assumption) (by assumption) (by decide) ?_; intro x hx; cbv) | (refine get_twoB har (by assumption) (by assumption) (by decide) ?_; intro x hx; cbv) | (refine bytes_intro (by assumption) ?_; cbv) | (exact side_lt har (by assumption) (by assumption)) | (exact side_inb har (by assumption) (by assumption) (by assumption)) | (exact side_sh har (by decide)) | (exact side_app har (by assumption) (by assumption) (by omega)) | (exact side_app0 har (by assumption) (by omega)) | (exact side_new har (by assumption) (by omega)) | (exact side_one har (by assumption) (by omega)) | (exact side_oneN har (by assumption) (by omega)) | (exact side_flat har (by assumption)) | (exact side_sbig har (by omega)) | (refine side_sbig har ?_; simp; done) | (exact side_oneI har (by assumption) (by omega)) | (refine side_ix har ?_; simp; done) | (refine side_ix har ?_; simp; omega))
  refine call_intro (iNameOf hP (n := revN) rfl (by decide) (by decide)) ?_
  rintro r ob ⟨rfl, rfl⟩
  rw [hh]
  cbv
  repeat' (first | (intro; cbv) | (with_reducible refine and_side ?_ ?_; rotate_left; try cbv) | (refine ChkP.mk (by decide +kernel) ?_; cbv) | (refine br_intro ?_ ?_ <;> intro <;> cbv) | (exact side_sh har (by decide)))
  exact ⟨⟨rfl, rfl⟩⟩
theorem host_b {l : List UInt8} (h : labelOk l = true) : NmB (l :: homeN) := by
  have h1 : l.length ≤ 15 := by
    unfold labelOk at h
    simp at h
    omega
  refine ⟨by show homeN.length + 1 ≤ 7; decide, fun x hx => ?_⟩
  rcases List.mem_cons.1 hx with rfl | hx
  · omega
  · exact homeN_b.1.2 x hx
set_option maxRecDepth 20000 in
theorem fn84 : Tryz.prog.funcs[84]? = some Tryz.f84 := rfl
set_option maxHeartbeats 40000000 in
set_option maxRecDepth 3000 in
theorem iLeaName (hP : Prg P) {l : Lea} {e1 e2 : List (List T)} (he1 : encB l.cl = e1) (he2 : encB l.ho = e2) (hb : NmB (l.ho :: homeN)) : ACall P 84 [.agg [.t (.int .i64 l.ip), .t (.sl e1), .t (.sl e2), .t (.int .i64 l.til), .t (.bool l.won)]] [] (fun r ob => r = .agg [.t (.sl (encN (l.ho :: homeN)))] ∧ ob = []) := by
  refine acall_fn (md := md) [none] v84 hP.mixed hP.tab (fn_at hP fn84) 1 rfl (by decide +kernel) rfl ?_
  intro ar har
  cbv
  refine calld_intro (iHome hP) ?_
  generalize hhn : homeN = hm at hb ⊢
  generalize hhom : encN hm = homs
  cbv
  repeat' (first | (intro; cbv) | (refine ChkP.mk (by decide +kernel) ?_; cbv) | (refine calld_intro (iChild hP (by assumption) (by assumption) (by assumption)) ?_; generalize hchi : encN (_ :: _) = chis; cbv))
  exact ⟨⟨rfl, rfl⟩⟩
set_option maxRecDepth 20000 in
theorem fn36 : Tryz.prog.funcs[36]? = some Tryz.f36 := rfl
set_option maxHeartbeats 40000000 in
set_option maxRecDepth 3000 in
theorem iA (hP : Prg P) {l : Lea} {e1 e2 : List (List T)} (he1 : encB l.cl = e1) (he2 : encB l.ho = e2) (hb : NmB (l.ho :: homeN)) : ACall P 36 [.agg [.t (.int .i64 l.ip), .t (.sl e1), .t (.sl e2), .t (.int .i64 l.til), .t (.bool l.won)]] []
    (fun r ob => r = .agg [.t (.sl (encN (l.ho :: homeN))), .t (.int .i64 1), .t (.int .i64 60), .t (.int .i64 l.ip), .t (.sl []), .t (.sl []), .t (.sl [])] ∧ ob = []) := by
  refine acall_fn (md := md) [none] v36 hP.mixed hP.tab (fn_at hP fn36) 1 rfl (by decide +kernel) rfl ?_
  intro ar har
  cbv
  repeat' (first | (intro; cbv) | (refine ChkP.mk (by decide +kernel) ?_; cbv) | (refine calld_intro (iLeaName hP (by assumption) (by assumption) (by assumption)) ?_; generalize hlna : encN (_ :: _) = lnas; cbv))
  exact ⟨⟨rfl, rfl⟩⟩
end Go.TL.Tryz

/- TfDigB -/
namespace Go.TL.Tryz
open Go Go.TL Go.Proofs
set_option maxRecDepth 20000
variable {P : Program}
theorem encB_append (a b : List UInt8) : encB (a ++ b) = encB a ++ encB b := by simp [encB]
theorem quo_std {ar : Ar} (har : ar = std) {n : Int} (h0 : 0 ≤ n) (h1 : n < 100000) : ar.iop .quo .i64 n 10 = n / 10 := by
  subst har
  show IntKind.i64.wrap (n.tdiv 10) = _
  rw [Int.tdiv_eq_ediv_of_nonneg h0]
  exact wrap_id (by simp [IntKind.has, IntKind.min, IntKind.max, IntKind.signed, IntKind.bits]; omega)
theorem rem_std {ar : Ar} (har : ar = std) {n : Int} (h0 : 0 ≤ n) : ar.iop .rem .i64 n 10 = n % 10 := by
  subst har
  show n.tmod 10 = _
  exact Int.tmod_eq_emod_of_nonneg h0
set_option maxRecDepth 20000 in
theorem fn106 : Tryz.prog.funcs[106]? = some Tryz.f106 := rfl
set_option maxHeartbeats 40000000 in
set_option maxRecDepth 3000 in
theorem sDigStep (hP : Prg P) {n : Int} {rest : List UInt8} (h0 : 0 ≤ n) (h1 : n < 100000) (hl : rest.length ≤ 10) (hr : 10 ≤ n → ACall P 106 [.one (.t (.int .i64 (n / 10)))] [] (fun r ob => r = .one (.row 32 0) ∧ ob = [(32, .row 1 (encB rest) 0 [0] false)])) :
    ACall P 106 [.one (.t (.int .i64 n))] [] (fun r ob => r = .one (.row 32 0) ∧ ob = [(32, .row 1 (encB (if n < 10 then [byteOf (48 + n)] else rest ++ [byteOf (48 + n % 10)])) 0 [0] false)]) := by
  refine acall_fn (md := md) [some [(0, 1)]] v106 hP.mixed hP.tab (fn_at hP fn106) 1 rfl (by decide +kernel) rfl ?_
  intro ar har
  cbv
  have hq := quo_std har h0 h1
  have hm := rem_std har h0
  have e1 : ar.iop .add .i64 48 n = 48 + n := add_std har (by omega) (by omega)
  have e2 : ar.iop .add .i64 48 (ar.iop .rem .i64 n 10) = 48 + n % 10 := by rw [hm]; exact add_std har (by omega) (by omega)
  repeat' (first | (intro; cbv) | (with_reducible refine and_side ?_ ?_; rotate_left; try cbv) | (refine br_intro ?_ ?_ <;> intro <;> cbv))
  case refine_1 =>
    have hlt := lt_cmp har (by assumption : ar.icmp .lss n 10 = true)
    refine ⟨⟨rfl, ?_⟩⟩
    rw [if_pos hlt, enc_byteOf, ← e1]
    subst har; rfl
  have hge := ge_cmp har (by assumption : ar.icmp .lss n 10 = false)
  refine call_intro (show ACall P 106 [.one (.t (.int .i64 (ar.iop .quo .i64 n 10)))] [] _ by rw [hq]; exact hr hge) ?_
  rintro r ob ⟨rfl, rfl⟩
  generalize hrs : encB rest = rs
  cbv
  repeat' (first | (intro; cbv) | (with_reducible refine and_side ?_ ?_; rotate_left; try cbv))
  case refine_2.refine_1 => exact ⟨by subst har; show (10 : Int) ≠ 0; decide⟩
  case refine_2.refine_2.refine_1 => exact side_flat har hrs
  case refine_2.refine_2.refine_2.refine_1 => exact ⟨by subst har; show (10 : Int) ≠ 0; decide⟩
  case refine_2.refine_2.refine_2.refine_2.refine_1 => exact side_one har hrs (by omega)
  refine ⟨⟨rfl, ?_⟩⟩
  rw [if_neg (by omega), ← e2, encB_append, enc_byteOf, hrs]
  subst har; rfl
/-- The digits of a number below a thousand. -/
def digB (n : Int) : List UInt8 := if n < 10 then [byteOf (48 + n)] else (if n / 10 < 10 then [byteOf (48 + n / 10)] else [byteOf (48 + n / 10 / 10)] ++ [byteOf (48 + n / 10 % 10)]) ++ [byteOf (48 + n % 10)]
theorem digB_len (n : Int) : (digB n).length ≤ 3 := by unfold digB; repeat' split <;> simp
theorem sDigits (hP : Prg P) {n : Int} (h0 : 0 ≤ n) (h1 : n < 1000) : ACall P 106 [.one (.t (.int .i64 n))] [] (fun r ob => r = .one (.row 32 0) ∧ ob = [(32, .row 1 (encB (digB n)) 0 [0] false)]) := by
  have d1 : ∀ m : Int, 0 ≤ m → m < 10 → ACall P 106 [.one (.t (.int .i64 m))] [] (fun r ob => r = .one (.row 32 0) ∧ ob = [(32, .row 1 (encB [byteOf (48 + m)]) 0 [0] false)]) := fun m hm0 hm1 => by
    have := sDigStep hP (n := m) (rest := []) hm0 (by omega) (by simp) (fun h => by omega)
    rw [if_pos hm1] at this
    exact this
  have d2 : ∀ m : Int, 0 ≤ m → m < 100 → ACall P 106 [.one (.t (.int .i64 m))] [] (fun r ob => r = .one (.row 32 0) ∧ ob = [(32, .row 1 (encB (if m < 10 then [byteOf (48 + m)] else [byteOf (48 + m / 10)] ++ [byteOf (48 + m % 10)])) 0 [0] false)]) := fun m hm0 hm1 =>
    sDigStep hP hm0 (by omega) (by simp) fun h => d1 (m / 10) (by omega) (by omega)
  exact sDigStep hP h0 (by omega) (by split <;> simp) fun h => d2 (n / 10) (by omega) (by omega)
theorem andB255 (x : Int) : iopS .and .i64 x 255 = x % 256 := by
  show IntKind.i64.wrap (((BitVec.ofInt 64 x &&& BitVec.ofInt 64 255).toNat : Nat) : Int) = _
  have e : (BitVec.ofInt 64 x &&& BitVec.ofInt 64 255).toNat = (x % 256).toNat := by
    rw [BitVec.toNat_and, BitVec.toNat_ofInt, BitVec.toNat_ofInt]
    rw [show ((255 : Int) % ((2 ^ 64 : Nat) : Int)).toNat = 2 ^ 8 - 1 by decide, Nat.and_two_pow_sub_one_eq_mod]
    omega
  rw [e]
  rw [show (((x % 256).toNat : Nat) : Int) = x % 256 by omega]
  exact wrap_id (by simp [IntKind.has, IntKind.min, IntKind.max, IntKind.signed, IntKind.bits]; omega)
/-- The part of an address. -/
def octI (ip : Int) (i : Nat) : Int := ip / 2 ^ (8 * i) % 256
def revOf (ip : Int) : List (List UInt8) := [digB (octI ip 0), digB (octI ip 1), digB (octI ip 2), digB (octI ip 3), [105, 110, 45, 97, 100, 100, 114], [97, 114, 112, 97]]
theorem oct_std {ar : Ar} (har : ar = std) {ip i : Int} (h0 : 0 ≤ i) (h : i < 8) : ar.iop .and .i64 (ar.iop .shr .i64 ip (ar.iop .mul .i64 8 i)) 255 = octI ip i.toNat := by
  subst har
  show iopS .and .i64 (iopS .shr .i64 ip (iopS .mul .i64 8 i)) 255 = _
  rw [andB255, show iopS .mul .i64 8 i = 8 * i from mulI (by omega) (by omega), octI]
  congr 1
  show ip.fdiv (2 ^ (min (8 * i).toNat 64)) = _
  rw [Nat.min_eq_left (by omega), Int.fdiv_eq_ediv_of_nonneg _ (Int.le_of_lt (Int.pow_pos (by decide))), show (8 * i).toNat = 8 * i.toNat by omega]
theorem rev_oct (ip : Int) {k : Nat} (h : k < 4) : (revOf ip)[k]? = some (digB (octI ip k)) := by
  have hc : k = 0 ∨ k = 1 ∨ k = 2 ∨ k = 3 := by omega
  rcases hc with rfl | rfl | rfl | rfl <;> rfl
set_option maxRecDepth 20000 in
theorem fn66 : Tryz.prog.funcs[66]? = some Tryz.f66 := rfl
set_option maxHeartbeats 40000000 in
set_option maxRecDepth 3000 in
theorem sReverse (hP : Prg P) {ip : Int} : ACall P 66 [.one (.t (.int .i64 ip))] [] (fun r ob => r = .agg [.t (.sl (encN (revOf ip)))] ∧ ob = []) := by
  generalize hK : (fun (r : A) (ob : Obs) => r = A.agg [V.t (.sl (encN (revOf ip)))] ∧ ob = []) = K
  refine acall_fn (md := md) [none] v66 hP.mixed hP.tab (fn_at hP fn66) 1 rfl (by decide +kernel) rfl ?_
  intro ar har
  cbv
  repeat' (first | (intro; cbv) | (with_reducible refine and_side ?_ ?_; rotate_left; try cbv) | (refine ChkP.mk (by decide +kernel) ?_; cbv) | (refine br_intro ?_ ?_ <;> intro <;> cbv) | (refine side_sh har ?_; decide))
  refine loop_start [] [.cell 3 0 1 12] ?_
  cbv
  refine LoopR.mk (List (List T) × Int) (fun x => ([(4, .one (.t (.int .i64 x.2)))], [(18, .row 1 x.1 0 [0] false)])) (fun x => encN ((revOf ip).take x.2.toNat) = x.1 ∧ 0 ≤ x.2 ∧ x.2 ≤ 4) (fun x => (4 - x.2).toNat) ([], 0) ?e ?f ?g
  case e => kernel_rfl
  case f => exact ⟨rfl, Int.le_refl _, by decide⟩
  case g =>
    intro x hx
    obtain ⟨ls, i⟩ := x
    have hls : encN ((revOf ip).take i.toNat) = ls := hx.1
    have hi0 : 0 ≤ i := hx.2.1
    have hi4 : i ≤ 4 := hx.2.2
    have hlsl : ls.length ≤ 4 := by rw [encN_len hls, List.length_take]; omega
    clear hx
    cbv
    repeat' (first | (with_reducible refine and_side ?_ ?_; rotate_left; try cbv) | (refine br_intro ?_ ?_ <;> intro <;> cbv))
    case refine_1.refine_1 =>
      refine ⟨?_⟩
      show ar.shok (ar.iop .mul .i64 8 i)
      have e : ar.iop .mul .i64 8 i = 8 * i := by subst har; exact mulI (by omega) (by omega)
      rw [e]; subst har; show 0 ≤ 8 * i; omega
    case refine_2.refine_1 => exact ⟨by subst har; simp [std]⟩
    case refine_2.refine_2.refine_1 => exact ⟨by subst har; simp [std]⟩
    case refine_2.refine_2.refine_2.refine_1 => exact ⟨by subst har; simp [std]; omega, by subst har; intro y hy; simp at hy; rcases hy with rfl | rfl <;> rfl⟩
    case refine_2.refine_2.refine_2.refine_2 =>
      have hge := ge_cmp har (by assumption : ar.icmp .lss i 4 = false)
      have hi : i = 4 := by omega
      subst hi
      subst hK
      refine ⟨⟨?_, rfl⟩⟩
      refine congrArg (fun x => A.agg [V.t (T.sl x)]) ?_
      rw [← hls]
      subst har; rfl
    case refine_1.refine_2 =>
      have hlt := lt_cmp har (by assumption : ar.icmp .lss i 4 = true)
      have ho := oct_std har (ip := ip) hi0 (by omega)
      have hb : 0 ≤ octI ip i.toNat ∧ octI ip i.toNat < 1000 := by unfold octI; omega
      refine calld_intro (show ACall P 106 [.one (.t (.int .i64 (ar.iop .and .i64 (ar.iop .shr .i64 ip (ar.iop .mul .i64 8 i)) 255)))] [] _ by rw [ho]; exact sDigits hP hb.1 hb.2) ?_
      generalize hdg : encB (digB (octI ip i.toNat)) = dg
      cbv
      repeat' (first | (intro; cbv) | (with_reducible refine and_side ?_ ?_; rotate_left; try cbv) | (refine ChkP.mk (by decide +kernel) ?_; cbv))
      case refine_1 => exact side_flat har hdg
      case refine_2.refine_1 => exact ⟨by subst har; simp [std]; omega, by subst har; exact wid_one _⟩
      have ea : ar.iop .add .i64 i 1 = i + 1 := add_std har (by omega) (by omega)
      refine ⟨(ar.app ls [[.sl dg]], i + 1), by rw [← ea]; kernel_rfl, ⟨?_, by dsimp only; omega, by dsimp only; omega⟩, by dsimp only; omega⟩
      show encN ((revOf ip).take (i + 1).toNat) = ar.app ls [[.sl dg]]
      rw [show (i + 1).toNat = i.toNat + 1 by omega, List.take_add_one, rev_oct ip (show i.toNat < 4 by omega)]
      subst har
      exact encN_app hls (encN_one hdg)
end Go.TL.Tryz

/- TfDhcS -/
namespace Go.TL.Tryz
open Go Go.TL Go.Proofs
set_option maxRecDepth 20000
variable {P : Program}
def dhcidV (cl : List UInt8) (n : List (List UInt8)) : List UInt8 := [0, 1, 1] ++ sumV kC hC (cl ++ wireN n)
theorem sumV_len (ks : List Wd) (v : V8) (b : List UInt8) : (sumV ks v b).length = 32 := rfl
theorem dhcid_len (cl : List UInt8) (n : List (List UInt8)) : (dhcidV cl n).length = 35 := by rw [dhcidV, List.length_append, sumV_len]; rfl
set_option maxRecDepth 20000 in
theorem fn65 : Tryz.prog.funcs[65]? = some Tryz.f65 := rfl
set_option maxHeartbeats 40000000 in
set_option maxRecDepth 3000 in
theorem sDhcid (hP : Prg P) {cl : List UInt8} {n : List (List UInt8)} {cs ns : List (List T)} (hc : encB cl = cs) (hn : encN n = ns) (hcl : cl.length ≤ 16) (hnb : NmB n) : ACall P 65 [.one (.t (.sl cs)), .agg [.t (.sl ns)]] [] (fun r ob => r = .one (.t (.sl (encB (dhcidV cl n)))) ∧ ob = []) := by
  generalize hK : (fun (r : A) (ob : Obs) => r = A.one (V.t (.sl (encB (dhcidV cl n)))) ∧ ob = []) = K
  have hw := wireN_len hnb
  refine acall_fn (md := md) [none] v65 hP.mixed hP.tab (fn_at hP fn65) 2 rfl (by decide +kernel) rfl ?_
  intro ar har
  cbv
  repeat' (first | (with_reducible refine and_side ?_ ?_; rotate_left; try cbv))
  case refine_1 => exact side_app0 har hc (by omega)
  refine calld_intro (sl2put hP (l := []) rfl hn (by simp) hnb) ?_
  have hls0 : encB (wireN n) = encB ([] ++ wireN n) := rfl
  generalize hls : encB ([] ++ wireN n) = ls at hls0 ⊢
  cbv
  repeat' (first | (with_reducible refine and_side ?_ ?_; rotate_left; try cbv))
  case refine_1 =>
    refine ⟨?_, by subst har; rw [← hls0]; exact wid_byte _⟩
    have h1 := encB_len hc
    have h2 := encB_len hls0
    subst har
    show (([] ++ cs) ++ ls).length * (1 + 1) ≤ 2 ^ 46
    simp; omega
  refine calld_intro (sSum hP (b := cl ++ wireN n) (show encB (cl ++ wireN n) = ar.app (ar.app [] cs) ls by rw [enc_app hc hls0]; subst har; rfl) (by simp; omega)) ?_
  have hsl := sumV_len kC hC (cl ++ wireN n)
  generalize hsv : sumV kC hC (cl ++ wireN n) = sv at hsl ⊢
  generalize hsm : encB sv = sms
  cbv
  repeat' (first | (intro; cbv) | (with_reducible refine and_side ?_ ?_; rotate_left; try cbv) | (refine ChkP.mk (by decide +kernel) ?_; cbv))
  case refine_2.refine_2.refine_2.refine_2.refine_2 =>
    subst hK
    refine ⟨⟨?_, rfl⟩⟩
    rw [dhcidV, hsv, encB_append, hsm]
    subst har; rfl
  case refine_2.refine_2.refine_2.refine_2.refine_1 =>
    have h1 := encB_len hsm
    refine ⟨?_, by subst har; rw [← hsm]; exact wid_byte _⟩
    subst har
    show ([[T.int .u8 0], [T.int .u8 1], [T.int .u8 1]] ++ sms).length * (1 + 1) ≤ 2 ^ 46
    simp; omega
  case refine_2.refine_2.refine_2.refine_1 => exact side_flat har hsm
  all_goals first | exact side_flat har hls0 | exact side_flat har (l := cl ++ wireN n) (by rw [enc_app hc hls0]; subst har; rfl)
end Go.TL.Tryz

/- TfHasB -/
namespace Go.TL.Tryz
open Go Go.TL Go.Proofs
set_option maxRecDepth 20000
variable {P : Program}
theorem cmpI_zero {a b : Int} : cmpI a b = 0 ↔ a = b := by unfold cmpI; split <;> rename_i h <;> (try split) <;> omega
theorem cmpRR_zero {x y : Rrv} : cmpRR x y = 0 ↔ x.n = y.n ∧ x.t = y.t ∧ dataS x.t x.addr x.to x.tx x.nu = dataS y.t y.addr y.to y.tx y.nu := by
  unfold cmpRR cmpR
  by_cases h1 : cmpN x.n y.n = 0
  · rw [if_pos h1]
    by_cases h2 : cmpI x.t y.t = 0
    · rw [if_pos h2, cmpB_zero]
      exact ⟨fun h => ⟨cmpN_zero.1 h1, cmpI_zero.1 h2, h⟩, fun h => h.2.2⟩
    · rw [if_neg h2]
      exact ⟨fun h => absurd h h2, fun h => absurd (cmpI_zero.2 h.2.1) h2⟩
  · rw [if_neg h1]
    exact ⟨fun h => absurd h h1, fun h => absurd (cmpN_zero.2 h.1) h1⟩
theorem cmpRR_comm {x y : Rrv} : cmpRR x y = 0 ↔ cmpRR y x = 0 := by
  rw [cmpRR_zero, cmpRR_zero]
  exact ⟨fun ⟨a, b, c⟩ => ⟨a.symm, b.symm, c.symm⟩, fun ⟨a, b, c⟩ => ⟨a.symm, b.symm, c.symm⟩⟩
def hasV (l : List Rrv) (r : Rrv) : Bool := l.any fun x => decide (cmpRR x r = 0)
set_option maxRecDepth 20000 in
theorem fn63 : Tryz.prog.funcs[63]? = some Tryz.f63 := rfl
set_option maxHeartbeats 40000000 in
set_option maxRecDepth 3000 in
theorem sPlace (hP : Prg P) {l : List Rrv} {r : Rrv} {es ns tos txs nus : List (List T)} (hl : encR l = es) (hok : ∀ (i : Nat) x, l[i]? = some x → rrOkR x = true) (hr : rrOkR r = true) (h1 : encN r.n = ns) (h2 : encN r.to = tos) (h3 : encB r.tx = txs) (h4 : encI r.nu = nus) :
    ACall P 63 [.one (.t (.sl es)), .agg [.t (.sl ns), .t (.int .i64 r.t), .t (.int .i64 r.ttl), .t (.int .i64 r.addr), .t (.sl tos), .t (.sl txs), .t (.sl nus)]] []
    (fun a ob => ∃ v : Int, (0 ≤ v ↔ hasV l r = true) ∧ (0 ≤ v → ∃ x, l[v.toNat]? = some x ∧ cmpRR x r = 0) ∧ a = .one (.t (.int .i64 v)) ∧ ob = []) := by
  obtain ⟨g1, g2, g3, g4, g5⟩ := rrOk_facts hr
  have g6 := g1.1
  have hlen := encR_len hl
  refine acall_fn (md := md) [none] v63 hP.mixed hP.tab (fn_at hP fn63) 2 rfl (by decide +kernel) rfl ?_
  intro ar har
  cbv
  refine loop_start [] [] ?_
  cbv
  refine LoopR.mk Int (fun i => ([(5, .one (.t (.int .i64 i)))], [])) (fun i => 0 ≤ i ∧ (l.take i.toNat).any (fun x => decide (cmpRR x r = 0)) = false) (fun i => l.length - i.toNat) 0 ?e ?f ?g
  case e => kernel_rfl
  case f => exact ⟨Int.le_refl _, rfl⟩
  case g =>
    intro i hi
    have hi0 : 0 ≤ i := hi.1
    have hi1 : (l.take i.toNat).any (fun x => decide (cmpRR x r = 0)) = false := hi.2
    clear hi
    cbv
    repeat' (first | (intro; cbv) | (refine br_intro ?_ ?_ <;> intro <;> cbv) | (refine get_ltR har (by assumption) (by assumption) (by assumption) ?_; intro x e1 e2 e3 e4 hx he1 he2 he3 he4; cbv))
    case refine_2 =>
      have hend := ge_len har (by assumption : ar.icmp .lss i (ar.len es) = false) hi0
      rw [List.take_of_length_le (by omega)] at hi1
      exact ⟨⟨-1, by rw [hasV, hi1]; simp, fun h => absurd h (by decide), rfl, rfl⟩⟩
    have hxo := hok _ _ hx
    obtain ⟨f1, f2, f3, f4, f5⟩ := rrOk_facts hxo
    have f6 := f1.1
    refine calld_intro (sl3cmp hP he1 h1 (by omega) (by omega) he2 f2 he3 (by omega) he4 f4 h2 g2 h3 (by omega) h4 g4) ?_
    generalize hcr : cmpR x.n x.t x.addr x.to x.tx x.nu r.n r.t r.addr r.to r.tx r.nu = cr
    have hcr : cmpRR x r = cr := hcr
    cbv
    repeat' (first | (intro; cbv) | (refine ChkP.mk (by decide +kernel) ?_; cbv) | (refine br_intro ?_ ?_ <;> intro <;> cbv))
    case refine_1 =>
      have h0 := eq_cmp har (by assumption : ar.icmp .eql cr 0 = true)
      have hz : cmpRR x r = 0 := hcr.trans h0
      exact ⟨⟨i, by rw [hasV, any_hit hx (by simp [hz])]; simp [hi0], fun _ => ⟨x, hx, hz⟩, rfl, rfl⟩⟩
    case refine_2 =>
      have h0 := ne_cmp har (by assumption : ar.icmp .eql cr 0 = false)
      have hlt := (List.getElem?_eq_some_iff.1 hx).1
      have hbg := big_le har (by assumption : ar.big es)
      have ea : ar.iop .add .i64 i 1 = i + 1 := add_std har (by omega) (by omega)
      exact ⟨i + 1, by rw [← ea]; kernel_rfl, ⟨by omega, by rw [show (i + 1).toNat = i.toNat + 1 by omega]; exact any_take_succ hx hi1 (by simp [hcr, h0])⟩, by omega⟩
set_option maxRecDepth 20000 in
theorem fn23 : Tryz.prog.funcs[23]? = some Tryz.f23 := rfl
set_option maxHeartbeats 40000000 in
set_option maxRecDepth 3000 in
theorem sHas (hP : Prg P) {l : List Rrv} {r : Rrv} {os es ns tos txs nus : List (List T)} (hl : encR l = es) (hok : ∀ (i : Nat) x, l[i]? = some x → rrOkR x = true) (hr : rrOkR r = true) (h1 : encN r.n = ns) (h2 : encN r.to = tos) (h3 : encB r.tx = txs) (h4 : encI r.nu = nus) :
    ACall P 23 [.agg [.t (.sl os), .t (.sl es)], .agg [.t (.sl ns), .t (.int .i64 r.t), .t (.int .i64 r.ttl), .t (.int .i64 r.addr), .t (.sl tos), .t (.sl txs), .t (.sl nus)]] []
    (fun a ob => a = .one (.t (.bool (hasV l r))) ∧ ob = []) := by
  refine acall_fn (md := md) [none] v23 hP.mixed hP.tab (fn_at hP fn23) 2 rfl (by decide +kernel) rfl ?_
  intro ar har
  cbv
  refine call_intro (sPlace hP hl hok hr h1 h2 h3 h4) ?_
  rintro a ob ⟨v, hv, _, rfl, rfl⟩
  cbv
  repeat' (first | (intro; cbv) | (with_reducible refine and_side ?_ ?_; rotate_left; try cbv) | (refine ChkP.mk (by decide +kernel) ?_; cbv) | (refine br_intro ?_ ?_ <;> intro <;> cbv) | (refine get_at har (by assumption) (by assumption) (by assumption) (by assumption) ?_; cbv) | (refine get_lt har (by assumption) (by assumption) (by assumption) ?_; intro x xx hx hxx; cbv) | (refine get_atN har (by assumption) (by assumption) (by assumption) (by assumption) ?_; cbv) | (refine get_ltN har (by assumption) (by assumption) (by assumption) ?_; intro x xx hx hxx; cbv) | (refine get_atI har (by assumption) (by assumption) (by decide) ?_; cbv) | (refine get_twoA har (by assumption) (by assumption) (by decide) ?_; intro x hx; cbv) | (refine get_twoB har (by assumption) (by assumption) (by decide) ?_; intro x hx; cbv) | (refine bytes_intro (by assumption) ?_; cbv) | (exact side_lt har (by assumption) (by assumption)) | (exact side_inb har (by assumption) (by assumption) (by assumption)) | (exact side_sh har (by decide)) | (exact side_app har (by assumption) (by assumption) (by omega)) | (exact side_app0 har (by assumption) (by omega)) | (exact side_new har (by assumption) (by omega)) | (exact side_one har (by assumption) (by omega)) | (exact side_oneN har (by assumption) (by omega)) | (exact side_flat har (by assumption)) | (exact side_sbig har (by omega)) | (refine side_sbig har ?_; simp; done) | (exact side_oneI har (by assumption) (by omega)) | (refine side_ix har ?_; simp; done) | (refine side_ix har ?_; simp; omega))
  refine ret_bb ?_
  subst har
  show decide (0 ≤ v) = _
  rw [Bool.eq_iff_iff, decide_eq_true_eq, hv]
set_option maxHeartbeats 40000000 in
set_option maxRecDepth 3000 in
theorem iIdxSame (hP : Prg P) {l : List Rrv} {r : Rrv} {es ns tos txs nus : List (List T)} (hl : encR l = es) (hok : ∀ (i : Nat) x, l[i]? = some x → rrOkR x = true) (hr : rrOkR r = true) (h1 : encN r.n = ns) (h2 : encN r.to = tos) (h3 : encB r.tx = txs) (h4 : encI r.nu = nus) :
    ACall P 124 [.one (.t (.sl es)), .one (.t (.fn (.func 83) [[.sl ns, .int .i64 r.t, .int .i64 r.ttl, .int .i64 r.addr, .sl tos, .sl txs, .sl nus]] []))] []
    (fun a ob => ∃ v : Int, (0 ≤ v ↔ hasV l r = true) ∧ a = .one (.t (.int .i64 v)) ∧ ob = []) := by
  have hlen := encR_len hl
  refine acall_fn (md := md) [none] v124 hP.mixed hP.tab (fn_at hP fn124) 2 rfl (by decide +kernel) rfl ?_
  intro ar har
  cbv
  repeat' (first | (intro; cbv))
  refine loop_start [] [] ?_
  cbv
  refine LoopR.mk Int (fun i => ([(8, .one (.t (.int .i64 i)))], [])) (fun i => 0 ≤ i ∧ (l.take i.toNat).any (fun x => decide (cmpRR x r = 0)) = false) (fun i => l.length - i.toNat) 0 ?e ?f ?g
  case e => kernel_rfl
  case f => exact ⟨Int.le_refl _, rfl⟩
  case g =>
    intro i hi
    have hi0 : 0 ≤ i := hi.1
    have hi1 : (l.take i.toNat).any (fun x => decide (cmpRR x r = 0)) = false := hi.2
    clear hi
    cbv
    repeat' (first | (refine br_intro ?_ ?_ <;> intro <;> cbv) | (refine get_ltR har (by assumption) (by assumption) (by assumption) ?_; intro x e1 e2 e3 e4 hx he1 he2 he3 he4; cbv))
    case refine_2 =>
      have hend := ge_len har (by assumption : ar.icmp .lss i (ar.len es) = false) hi0
      rw [List.take_of_length_le (by omega)] at hi1
      exact ⟨⟨-1, by rw [hasV, hi1]; simp, rfl, rfl⟩⟩
    have hxo := hok _ _ hx
    refine call_intro (iSame hP hr hxo h1 h2 h3 h4 he1 he2 he3 he4) ?_; rintro a ob ⟨rfl, rfl⟩
    generalize hsm : decide (cmpRR r x = 0) = sm
    cbv
    repeat' (first | (intro; cbv) | (refine br_intro ?_ ?_ <;> intro <;> cbv))
    case refine_1 =>
      have hz : cmpRR x r = 0 := cmpRR_comm.1 (of_decide_eq_true (hsm.trans (by assumption)))
      exact ⟨⟨i, by rw [hasV, any_hit hx (by simp [hz])]; simp [hi0], rfl, rfl⟩⟩
    case refine_2 =>
      have h0 : ¬ cmpRR x r = 0 := fun h => of_decide_eq_false (hsm.trans (by assumption)) (cmpRR_comm.1 h)
      have hlt := (List.getElem?_eq_some_iff.1 hx).1
      have hbg := big_le har (by assumption : ar.big es)
      have ea : ar.iop .add .i64 i 1 = i + 1 := add_std har (by omega) (by omega)
      exact ⟨i + 1, by rw [← ea]; kernel_rfl, ⟨by omega, by rw [show (i + 1).toNat = i.toNat + 1 by omega]; exact any_take_succ hx hi1 (by simp [h0])⟩, by omega⟩
set_option maxHeartbeats 40000000 in
set_option maxRecDepth 3000 in
theorem iConSame (hP : Prg P) {l : List Rrv} {r : Rrv} {es ns tos txs nus : List (List T)} (hl : encR l = es) (hok : ∀ (i : Nat) x, l[i]? = some x → rrOkR x = true) (hr : rrOkR r = true) (h1 : encN r.n = ns) (h2 : encN r.to = tos) (h3 : encB r.tx = txs) (h4 : encI r.nu = nus) :
    ACall P 82 [.one (.t (.sl es)), .one (.t (.fn (.func 83) [[.sl ns, .int .i64 r.t, .int .i64 r.ttl, .int .i64 r.addr, .sl tos, .sl txs, .sl nus]] []))] []
    (fun a ob => a = .one (.t (.bool (hasV l r))) ∧ ob = []) := by
  refine acall_fn (md := md) [none] v82 hP.mixed hP.tab (fn_at hP fn82) 2 rfl (by decide +kernel) rfl ?_
  intro ar har
  cbv
  refine call_intro (iIdxSame hP hl hok hr h1 h2 h3 h4) ?_
  rintro a ob ⟨v, hv, rfl, rfl⟩
  cbv
  repeat' (first | (intro; cbv) | (with_reducible refine and_side ?_ ?_; rotate_left; try cbv) | (refine ChkP.mk (by decide +kernel) ?_; cbv) | (refine br_intro ?_ ?_ <;> intro <;> cbv) | (refine get_at har (by assumption) (by assumption) (by assumption) (by assumption) ?_; cbv) | (refine get_lt har (by assumption) (by assumption) (by assumption) ?_; intro x xx hx hxx; cbv) | (refine get_atN har (by assumption) (by assumption) (by assumption) (by assumption) ?_; cbv) | (refine get_ltN har (by assumption) (by assumption) (by assumption) ?_; intro x xx hx hxx; cbv) | (refine get_atI har (by assumption) (by assumption) (by decide) ?_; cbv) | (refine get_twoA har (by assumption) (by assumption) (by decide) ?_; intro x hx; cbv) | (refine get_twoB har (by assumption) (by assumption) (by decide) ?_; intro x hx; cbv) | (refine bytes_intro (by assumption) ?_; cbv) | (exact side_lt har (by assumption) (by assumption)) | (exact side_inb har (by assumption) (by assumption) (by assumption)) | (exact side_sh har (by decide)) | (exact side_app har (by assumption) (by assumption) (by omega)) | (exact side_app0 har (by assumption) (by omega)) | (exact side_new har (by assumption) (by omega)) | (exact side_one har (by assumption) (by omega)) | (exact side_oneN har (by assumption) (by omega)) | (exact side_flat har (by assumption)) | (exact side_sbig har (by omega)) | (refine side_sbig har ?_; simp; done) | (exact side_oneI har (by assumption) (by omega)) | (refine side_ix har ?_; simp; done) | (refine side_ix har ?_; simp; omega))
  refine ret_bb ?_
  subst har
  show decide (0 ≤ v) = _
  rw [Bool.eq_iff_iff, decide_eq_true_eq, hv]
set_option maxRecDepth 20000 in
theorem fn35 : Tryz.prog.funcs[35]? = some Tryz.f35 := rfl
set_option maxHeartbeats 40000000 in
set_option maxRecDepth 3000 in
theorem iHas (hP : Prg P) {l : List Rrv} {r : Rrv} {os es ns tos txs nus : List (List T)} (hl : encR l = es) (hok : ∀ (i : Nat) x, l[i]? = some x → rrOkR x = true) (hr : rrOkR r = true) (h1 : encN r.n = ns) (h2 : encN r.to = tos) (h3 : encB r.tx = txs) (h4 : encI r.nu = nus) :
    ACall P 35 [.agg [.t (.sl os), .t (.sl es)], .agg [.t (.sl ns), .t (.int .i64 r.t), .t (.int .i64 r.ttl), .t (.int .i64 r.addr), .t (.sl tos), .t (.sl txs), .t (.sl nus)]] []
    (fun a ob => a = .one (.t (.bool (hasV l r))) ∧ ob = []) := by
  refine acall_fn (md := md) [none] v35 hP.mixed hP.tab (fn_at hP fn35) 2 rfl (by decide +kernel) rfl ?_
  intro ar har
  cbv
  refine call_intro (iConSame hP hl hok hr h1 h2 h3 h4) ?_
  rintro a ob ⟨rfl, rfl⟩
  generalize hhv : hasV l r = hv
  cbv
  repeat' (first | (intro; cbv) | (with_reducible refine and_side ?_ ?_; rotate_left; try cbv) | (refine ChkP.mk (by decide +kernel) ?_; cbv) | (refine br_intro ?_ ?_ <;> intro <;> cbv) | (refine get_at har (by assumption) (by assumption) (by assumption) (by assumption) ?_; cbv) | (refine get_lt har (by assumption) (by assumption) (by assumption) ?_; intro x xx hx hxx; cbv) | (refine get_atN har (by assumption) (by assumption) (by assumption) (by assumption) ?_; cbv) | (refine get_ltN har (by assumption) (by assumption) (by assumption) ?_; intro x xx hx hxx; cbv) | (refine get_atI har (by assumption) (by assumption) (by decide) ?_; cbv) | (refine get_twoA har (by assumption) (by assumption) (by decide) ?_; intro x hx; cbv) | (refine get_twoB har (by assumption) (by assumption) (by decide) ?_; intro x hx; cbv) | (refine bytes_intro (by assumption) ?_; cbv) | (exact side_lt har (by assumption) (by assumption)) | (exact side_inb har (by assumption) (by assumption) (by assumption)) | (exact side_sh har (by decide)) | (exact side_app har (by assumption) (by assumption) (by omega)) | (exact side_app0 har (by assumption) (by omega)) | (exact side_new har (by assumption) (by omega)) | (exact side_one har (by assumption) (by omega)) | (exact side_oneN har (by assumption) (by omega)) | (exact side_flat har (by assumption)) | (exact side_sbig har (by omega)) | (refine side_sbig har ?_; simp; done) | (exact side_oneI har (by assumption) (by omega)) | (refine side_ix har ?_; simp; done) | (refine side_ix har ?_; simp; omega))
  exact ⟨⟨rfl, rfl⟩⟩
end Go.TL.Tryz

/- TfRecS -/
namespace Go.TL.Tryz
open Go Go.TL Go.Proofs
set_option maxRecDepth 20000
variable {P : Program}
def leaD (l : Lea) : Rrv := ⟨l.ho :: homeN, 49, 60, 0, [], dhcidV l.cl (l.ho :: homeN), []⟩
def leaP (l : Lea) : Rrv := ⟨revOf l.ip, 12, 60, 0, l.ho :: homeN, [], []⟩
def mdD (n : Nat) : Md := bif eqB n 65 then ⟨[], false⟩ else md n
set_option maxRecDepth 20000 in
theorem fn25 : Tryz.prog.funcs[25]? = some Tryz.f25 := rfl
set_option maxHeartbeats 40000000 in
set_option maxRecDepth 3000 in
theorem sD (hP : Prg P) {l : Lea} {e1 e2 : List (List T)} (he1 : encB l.cl = e1) (he2 : encB l.ho = e2) (hcl : l.cl.length ≤ 16) (hnb : NmB (l.ho :: homeN)) : ACall P 25 [.agg [.t (.int .i64 l.ip), .t (.sl e1), .t (.sl e2), .t (.int .i64 l.til), .t (.bool l.won)]] []
    (fun r ob => r = .agg [.t (.sl (encN (l.ho :: homeN))), .t (.int .i64 49), .t (.int .i64 60), .t (.int .i64 0), .t (.sl []), .t (.sl (encB (dhcidV l.cl (l.ho :: homeN)))), .t (.sl [])] ∧ ob = []) := by
  generalize hnm : l.ho :: homeN = nm at hnb ⊢
  refine acall_fn (md := mdD) [none] v25 hP.mixed hP.tab (fn_at hP fn25) 1 rfl (by decide +kernel) rfl ?_
  intro ar har
  cbv
  refine call_intro (sName hP he2) ?_; rintro r ob ⟨rfl, rfl⟩
  rw [hnm]
  generalize hlna : encN nm = lnas
  cbv
  refine calld_intro (sDhcid hP he1 hlna hcl hnb) ?_
  generalize hdh : encB (dhcidV l.cl nm) = dhs
  cbv
  repeat' (first | (intro; cbv) | (refine ChkP.mk (by decide +kernel) ?_; cbv))
  exact ⟨⟨rfl, rfl⟩⟩
set_option maxRecDepth 20000 in
theorem fn26 : Tryz.prog.funcs[26]? = some Tryz.f26 := rfl
set_option maxHeartbeats 40000000 in
set_option maxRecDepth 3000 in
theorem sP (hP : Prg P) {l : Lea} {e1 e2 : List (List T)} (he1 : encB l.cl = e1) (he2 : encB l.ho = e2) : ACall P 26 [.agg [.t (.int .i64 l.ip), .t (.sl e1), .t (.sl e2), .t (.int .i64 l.til), .t (.bool l.won)]] []
    (fun r ob => r = .agg [.t (.sl (encN (revOf l.ip))), .t (.int .i64 12), .t (.int .i64 60), .t (.int .i64 0), .t (.sl (encN (l.ho :: homeN))), .t (.sl []), .t (.sl [])] ∧ ob = []) := by
  refine acall_fn (md := md) [none] v26 hP.mixed hP.tab (fn_at hP fn26) 1 rfl (by decide +kernel) rfl ?_
  intro ar har
  cbv
  repeat' (first | (intro; cbv) | (refine ChkP.mk (by decide +kernel) ?_; cbv) | (refine calld_intro (sReverse hP) ?_; generalize hrv : encN (revOf _) = rvs; cbv) | (refine calld_intro (sName hP (by assumption)) ?_; generalize hlna : encN (_ :: _) = lnas; cbv))
  exact ⟨⟨rfl, rfl⟩⟩
end Go.TL.Tryz

/- TfLeaO -/
namespace Go.TL.Tryz
open Go Go.TL Go.Proofs
theorem host_ok {l : List UInt8} (h : labelOk l = true) : nameOk (l :: homeN) = true := by
  have hh : homeN.all labelOk = true := by decide +kernel
  simp only [nameOk, List.all_cons, h, hh, Bool.and_true, Bool.true_and]
  show decide (homeN.length + 1 ≤ 6) = true
  decide
theorem dig_ok : ∀ n : Fin 256, labelOk (digB (n.val : Int)) = true := by decide +kernel
theorem oct_ok (ip : Int) (i : Nat) : labelOk (digB (octI ip i)) = true := by
  have h : 0 ≤ octI ip i ∧ octI ip i < 256 := by unfold octI; omega
  have := dig_ok ⟨(octI ip i).toNat, by omega⟩
  simpa [Int.toNat_of_nonneg h.1] using this
theorem rev_ok (ip : Int) : nameOk (revOf ip) = true := by
  have h1 : labelOk [105, 110, 45, 97, 100, 100, 114] = true := by decide +kernel
  have h2 : labelOk [97, 114, 112, 97] = true := by decide +kernel
  simp only [nameOk, revOf, List.all_cons, List.all_nil, oct_ok, h1, h2, Bool.and_true]
  rfl
theorem lea_facts {l : Lea} {now : Int} (h : leaOk l now = true) : (167772161 ≤ l.ip ∧ l.ip ≤ 167772414) ∧ l.cl.length ≤ 16 ∧ labelOk l.ho = true := by
  simp only [leaOk, ipOk, withinB, clientOk, Bool.and_eq_true, decide_eq_true_eq] at h
  exact ⟨h.1, h.2.1.2, h.2.2.1⟩
theorem leaA_ok {l : Lea} {now : Int} (h : leaOk l now = true) : rrOkR (leaA l) = true := by
  obtain ⟨⟨h1, h2⟩, h3, h4⟩ := lea_facts h
  have hw : isWordB l.ip = true := by simp only [isWordB, withinB, decide_eq_true_eq]; omega
  simp only [rrOkR, leaA, rrOk, dataOk, numsOk, host_ok h4, hw]
  rfl
theorem leaD_ok {l : Lea} {now : Int} (h : leaOk l now = true) : rrOkR (leaD l) = true := by
  obtain ⟨_, h3, h4⟩ := lea_facts h
  simp only [rrOkR, leaD, rrOk, dataOk, numsOk, host_ok h4, dhcid_len]
  rfl
theorem leaP_ok {l : Lea} {now : Int} (h : leaOk l now = true) : rrOkR (leaP l) = true := by
  obtain ⟨_, h3, h4⟩ := lea_facts h
  simp only [rrOkR, leaP, rrOk, dataOk, numsOk, rev_ok, host_ok h4]
  rfl
end Go.TL.Tryz
