/- Texts of a proof, joined by a program (merge.py): TfHouS TfLofS TfLofI TfRevB TfSamR TfWrd TfShelf TfItoT TfTxD TfRevI TfShB TfShC. -/
import Derived.Test.YtpnhfpjpmjdgmaaGreatDoorV10
import Derived.Shelf.Strconv.Itoa0
import Derived.Shelf.Strconv.Itoa1
import Derived.Shelf.LaysM
import Derived.Shelf.Strconv.Itoa2
import Derived.Shelf.Strconv.Itoa3
import Derived.Shelf.Bits.Mul64
import Derived.Test.YtpnhfpjpmjdgmaaGreatDoorProg
import Derived.Lib.ItoaLen
set_option linter.all false
/- TfHouS -/
namespace Go.TL.Tryz
open Go Go.TL Go.Proofs
set_option maxRecDepth 20000
variable {P : Program}
/-- Has who won a name its records? -/
def leaHas (h : Hou) (l : Lea) : Bool := !l.won || (hasV h.z.rs (leaA l) && (hasV h.z.rs (leaD l) && hasV h.rv.rs (leaP l)))
def leaPrev (l : List Lea) (i : Nat) : Bool := match i with
  | 0 => true
  | j + 1 => match l[j]?, l[j + 1]? with
    | some p, some r => decide (p.ip < r.ip)
    | _, _ => true
def leaRec (h : Hou) (i : Nat) : Bool := match h.ls[i]? with
  | some l => leaOk l h.now && (leaPrev h.ls i && leaHas h l)
  | none => true
def leasOk (h : Hou) (n : Nat) : Bool := (List.range n).all (leaRec h)
/-- Which houses are right. -/
def houseOk (h : Hou) : Bool := decide (0 ≤ h.now ∧ h.now ≤ 1000000) && (zoneOk h.z && (zoneOk h.rv && (h.z.o == homeN && (h.rv.o == revN && (decide (h.ls.length ≤ 8) && leasOk h h.ls.length)))))
theorem leas_succ (h : Hou) (n : Nat) : leasOk h (n + 1) = (leasOk h n && leaRec h n) := by simp [leasOk, List.range_succ]
theorem leas_bad {h : Hou} {k : Nat} (hk : k < h.ls.length) (e : leaRec h k = false) : houseOk h = false := by
  have : leasOk h h.ls.length = false := by rw [leasOk, List.all_eq_false]; exact ⟨k, by simpa using hk, by rw [e]; simp⟩
  simp [houseOk, this]
theorem zone_rr {z : Zon} (h : zoneOk z = true) : ∀ (i : Nat) x, z.rs[i]? = some x → rrOkR x = true := by
  intro i x hx
  simp only [zoneOk, Bool.and_eq_true] at h
  exact recs_rr h.2.2.1 (List.getElem?_eq_some_iff.1 hx).1 hx
theorem zone_ol {z : Zon} (h : zoneOk z = true) : z.o.length ≤ 7 := by
  simp only [zoneOk, Bool.and_eq_true] at h
  exact (nmB_ok h.1).1
theorem revN_b : revN.length ≤ 10 := by decide
theorem get_lea {ar : Ar} (har : ar = std) {l : List Lea} {es : List (List T)} {i : Int} {K : List T → Prop} (hes : encL l = es) (h : 0 ≤ i ∧ i.toNat < l.length)
    (k : ∀ (x : Lea) (e1 e2 : List (List T)), l[i.toNat]? = some x → encB x.cl = e1 → encB x.ho = e2 → K [.int .i64 x.ip, .sl e1, .sl e2, .int .i64 x.til, .bool x.won]) : GetP ar es i K := by
  obtain ⟨h0, h1⟩ := h
  have hx := List.getElem?_eq_getElem h1
  subst har; subst hes
  refine ⟨⟨h0, by simp [encL]; omega⟩, ?_⟩
  have : std.get (encL l) i = cellsLea l[i.toNat] := by simp [std, encL, List.getD, hx]
  rw [this]
  exact k _ _ _ hx rfl rfl
theorem hou_f {h : Hou} {K : A → Obs → Prop} (hK : (fun (r : A) (ob : Obs) => r = A.one (V.t (.bool (houseOk h))) ∧ ob = []) = K) (e : houseOk h = false) : RetP K (A.one (V.t (.bool false))) [] := by
  subst hK; exact ⟨⟨by rw [e], rfl⟩⟩
set_option maxRecDepth 20000 in
theorem fn6 : Tryz.prog.funcs[6]? = some Tryz.f6 := rfl
set_option maxHeartbeats 40000000 in
set_option maxRecDepth 3000 in
theorem sHouseOk (hP : Prg P) {h : Hou} {d1 d2 d3 d4 d5 : List (List T)} (hd1 : encN h.z.o = d1) (hd2 : encR h.z.rs = d2) (hd3 : encN h.rv.o = d3) (hd4 : encR h.rv.rs = d4) (hd5 : encL h.ls = d5) (hb1 : BigN h.z.rs) (hb2 : BigN h.rv.rs) :
    ACall P 6 [.agg [.t (.int .i64 h.now), .t (.sl d1), .t (.sl d2), .t (.sl d3), .t (.sl d4), .t (.sl d5)]] [] (fun r ob => r = .one (.t (.bool (houseOk h))) ∧ ob = []) := by
  have hlen : d5.length = h.ls.length := by rw [← hd5]; simp [encL]
  have hhb := homeN_b.2
  have hrb := revN_b
  generalize hK : (fun (r : A) (ob : Obs) => r = A.one (V.t (.bool (houseOk h))) ∧ ob = []) = K
  refine acall_fn (md := md) [none] v6 hP.mixed hP.tab (fn_at hP fn6) 1 rfl (by decide +kernel) rfl ?_
  intro ar har
  cbv
  repeat' (first | (intro; cbv) | (with_reducible refine and_side ?_ ?_; rotate_left; try cbv) | (refine ChkP.mk (by decide +kernel) ?_; cbv) | (refine br_intro ?_ ?_ <;> intro <;> cbv) | (refine side_sh har ?_; decide) | (refine call_intro (sZoneOk hP (by assumption) (by assumption) (by assumption)) ?_; rintro r ob ⟨rfl, rfl⟩; generalize hzo : zoneOk _ = zo; cbv) | (refine calld_intro (sZoneOk hP (by assumption) (by assumption) (by assumption)) ?_; generalize hzo : zoneOk _ = zo; cbv))
  case refine_1 =>
    have h0 := lt_cmp har (by assumption : ar.icmp .lss h.now 0 = true)
    exact hou_f hK (by rw [houseOk, decide_eq_false (by omega)]; rfl)
  case refine_2.refine_1 =>
    have h0 := gt_cmp har (by assumption : ar.icmp .gtr h.now 1000000 = true)
    exact hou_f hK (by rw [houseOk, decide_eq_false (by omega)]; rfl)
  case refine_2.refine_2.refine_1 =>
    have h0 := bnot_t har (by assumption)
    exact hou_f hK (by rw [houseOk, hzo, h0]; simp)
  case refine_2.refine_2.refine_2.refine_1 =>
    have h0 := bnot_t har (by assumption : ar.bnot zo = true)
    exact hou_f hK (by rw [houseOk, hzo, h0]; simp)
  rename_i hn0 hn1 zo1 hz1 hz1b hz2b
  have n0 := ge_cmp har (by assumption : ar.icmp .lss h.now 0 = false)
  have n1 := le_cmp har (by assumption : ar.icmp .gtr h.now 1000000 = false)
  have z1 := hz1.trans (bnot_f har hz1b)
  have z2 := hzo.trans (bnot_f har hz2b)
  have o1 := zone_ol z1
  have o2 := zone_ol z2
  refine calld_intro (sHome hP) ?_
  generalize hhom : encN homeN = homs
  cbv
  repeat' (first | (intro; cbv) | (with_reducible refine and_side ?_ ?_; rotate_left; try cbv) | (refine ChkP.mk (by decide +kernel) ?_; cbv) | (refine br_intro ?_ ?_ <;> intro <;> cbv) | (refine side_sh har ?_; decide) | (refine call_intro (sl2cmp hP (by assumption) (by assumption) (by omega) (by omega)) ?_; rintro r ob ⟨rfl, rfl⟩; generalize hcn : cmpN _ _ = cn; cbv) | (refine calld_intro (sl2cmp hP (by assumption) (by assumption) (by omega) (by omega)) ?_; generalize hcn : cmpN _ _ = cn; cbv) | (refine call_intro (sRev hP) ?_; rintro r ob ⟨rfl, rfl⟩; generalize hrev : encN revN = revs; cbv) | (refine calld_intro (sRev hP) ?_; generalize hrev : encN revN = revs; cbv))
  case refine_1 =>
    have h0 := neq_t har (by assumption : ar.icmp .neq cn 0 = true)
    exact hou_f hK (by rw [houseOk, show (h.z.o == homeN) = false from beq_eq_false_iff_ne.2 fun e => h0 (by rw [← hcn, cmpN_zero.2 e])]; simp)
  case refine_2.refine_1 =>
    have h0 := neq_t har (by assumption : ar.icmp .neq cn 0 = true)
    exact hou_f hK (by rw [houseOk, show (h.rv.o == revN) = false from beq_eq_false_iff_ne.2 fun e => h0 (by rw [← hcn, cmpN_zero.2 e])]; simp)
  case refine_2.refine_2.refine_1 =>
    have h0 := gt_cmp har (by assumption : ar.icmp .gtr (ar.len d5) 8 = true)
    have h1 : ¬ h.ls.length ≤ 8 := by subst har; have h0 : (8 : Int) < (d5.length : Int) := h0; omega
    exact hou_f hK (by rw [houseOk, decide_eq_false h1]; simp)
  rename_i cn1 hcn1 hb1 _ hbg hle
  have q1 : h.z.o = homeN := cmpN_zero.1 (hcn1.trans (neq_f har hb1))
  have q2 : h.rv.o = revN := cmpN_zero.1 (hcn.trans (neq_f har (by assumption : ar.icmp .neq cn 0 = false)))
  have h8 : h.ls.length ≤ 8 := by
    have h0 := le_cmp har hle
    subst har; have h0 : (d5.length : Int) ≤ 8 := h0; omega
  have k1 := zone_rr z1
  have k2 := zone_rr z2
  refine loop_start [46] [] ?_
  cbv
  refine LoopR.mk Int (fun x => ([(3, .one (.t (.int .i64 x)))], [])) (fun x => 0 ≤ x ∧ x.toNat ≤ h.ls.length ∧ leasOk h x.toNat = true) (fun x => h.ls.length - x.toNat) 0 ?e ?f ?g
  case e => kernel_rfl
  case f => exact ⟨Int.le_refl _, Nat.zero_le _, rfl⟩
  case g =>
    intro i hi
    have hi0 : 0 ≤ i := hi.1
    have hil : i.toNat ≤ h.ls.length := hi.2.1
    have hlk : leasOk h i.toNat = true := hi.2.2
    clear hi
    cbv
    repeat' (first | (intro; cbv) | (with_reducible refine and_side ?_ ?_; rotate_left; try cbv) | (refine ChkP.mk (by decide +kernel) ?_; cbv) | (refine br_intro ?_ ?_ <;> intro <;> cbv) | (refine side_sh har ?_; decide) | (refine get_ltL har (by assumption) (by assumption) (by assumption) ?_; intro x e1 e2 hx he1 he2; cbv) | (refine call_intro (sLease hP (by assumption) (by assumption)) ?_; rintro r ob ⟨rfl, rfl⟩; generalize hlo : leaOk _ _ = lo; cbv) | (refine calld_intro (sLease hP (by assumption) (by assumption)) ?_; generalize hlo : leaOk _ _ = lo; cbv))
    case refine_2 =>
      have hend := ge_len har (by assumption : ar.icmp .lss i (ar.len d5) = false) hi0
      have e : h.ls.length = i.toNat := by omega
      subst hK
      refine ⟨⟨?_, rfl⟩⟩
      rw [houseOk, z1, z2, q1, q2, e, hlk, decide_eq_true (show 0 ≤ h.now ∧ h.now ≤ 1000000 from ⟨n0, n1⟩), decide_eq_true (show i.toNat ≤ 8 by omega)]
      simp
    case refine_1.refine_1 =>
      have h0 := bnot_t har (by assumption : ar.bnot lo = true)
      have hlt := (List.getElem?_eq_some_iff.1 hx).1
      exact hou_f hK (leas_bad hlt (by rw [leaRec, hx]; simp [hlo, h0]))
    case refine_1.refine_2.refine_2.refine_1 =>
      have h0 := bnot_f har (by assumption : ar.bnot lo = false)
      have hi00 := le_cmp har (by assumption : ar.icmp .gtr i 0 = false)
      have hpv : leaPrev h.ls i.toNat = true := by rw [show i.toNat = 0 by omega]; rfl
      have hlo1 : leaOk x h.now = true := hlo.trans h0
      obtain ⟨_, hcl16, hlab⟩ := lea_facts hlo1
      have hnb := host_b hlab
      have hbg5 := big_le har (by assumption : ar.big d5)
      have ea : ar.iop .add .i64 i 1 = i + 1 := add_std har (by omega) (by omega)
      have hlt5 := (List.getElem?_eq_some_iff.1 hx).1
      have hwon := (by assumption : x.won = true)
      refine calld_intro (sA hP he1 he2) ?_
      generalize hna : encN (x.ho :: homeN) = nas
      cbv
      repeat' (first | (intro; cbv) | (with_reducible refine and_side ?_ ?_; rotate_left; try cbv) | (refine ChkP.mk (by decide +kernel) ?_; cbv) | (refine br_intro ?_ ?_ <;> intro <;> cbv) | (refine side_sh har ?_; decide))
      refine calld_intro (sHas hP (r := leaA x) hd2 k1 (leaA_ok hlo1) hna rfl rfl rfl) ?_
      generalize hv1 : hasV h.z.rs (leaA x) = v1
      cbv
      repeat' (first | (intro; cbv) | (with_reducible refine and_side ?_ ?_; rotate_left; try cbv) | (refine ChkP.mk (by decide +kernel) ?_; cbv) | (refine br_intro ?_ ?_ <;> intro <;> cbv) | (refine side_sh har ?_; decide))
      case refine_1 =>
        have h1 := bnot_t har (by assumption : ar.bnot v1 = true)
        exact hou_f hK (leas_bad hlt5 (by rw [leaRec, hx]; simp [leaHas, hwon, hv1, h1]))
      have w1 := hv1.trans (bnot_f har (by assumption : ar.bnot v1 = false))
      refine calld_intro (sD hP he1 he2 hcl16 hnb) ?_
      generalize hdh : encB (dhcidV x.cl (x.ho :: homeN)) = dhs
      rw [hna]
      cbv
      repeat' (first | (intro; cbv) | (with_reducible refine and_side ?_ ?_; rotate_left; try cbv) | (refine ChkP.mk (by decide +kernel) ?_; cbv) | (refine br_intro ?_ ?_ <;> intro <;> cbv) | (refine side_sh har ?_; decide))
      refine calld_intro (sHas hP (r := leaD x) hd2 k1 (leaD_ok hlo1) hna rfl hdh rfl) ?_
      generalize hv2 : hasV h.z.rs (leaD x) = v2
      cbv
      repeat' (first | (intro; cbv) | (with_reducible refine and_side ?_ ?_; rotate_left; try cbv) | (refine ChkP.mk (by decide +kernel) ?_; cbv) | (refine br_intro ?_ ?_ <;> intro <;> cbv) | (refine side_sh har ?_; decide))
      case refine_1 =>
        have h1 := bnot_t har (by assumption : ar.bnot v2 = true)
        exact hou_f hK (leas_bad hlt5 (by rw [leaRec, hx]; simp [leaHas, hwon, hv2, h1]))
      have w2 := hv2.trans (bnot_f har (by assumption : ar.bnot v2 = false))
      refine calld_intro (sP hP he1 he2) ?_
      generalize hrvn : encN (revOf x.ip) = rvns
      rw [hna]
      cbv
      repeat' (first | (intro; cbv) | (with_reducible refine and_side ?_ ?_; rotate_left; try cbv) | (refine ChkP.mk (by decide +kernel) ?_; cbv) | (refine br_intro ?_ ?_ <;> intro <;> cbv) | (refine side_sh har ?_; decide))
      refine calld_intro (sHas hP (r := leaP x) hd4 k2 (leaP_ok hlo1) hrvn hna rfl rfl) ?_
      generalize hv3 : hasV h.rv.rs (leaP x) = v3
      cbv
      repeat' (first | (intro; cbv) | (with_reducible refine and_side ?_ ?_; rotate_left; try cbv) | (refine ChkP.mk (by decide +kernel) ?_; cbv) | (refine br_intro ?_ ?_ <;> intro <;> cbv) | (refine side_sh har ?_; decide))
      case refine_1 =>
        have h1 := bnot_t har (by assumption : ar.bnot v3 = true)
        exact hou_f hK (leas_bad hlt5 (by rw [leaRec, hx]; simp [leaHas, hwon, hv3, h1]))
      have w3 := hv3.trans (bnot_f har (by assumption : ar.bnot v3 = false))
      refine ⟨i + 1, by rw [← ea]; kernel_rfl, ⟨by omega, by omega, ?_⟩, by omega⟩
      rw [show (i + 1).toNat = i.toNat + 1 by omega, leas_succ, hlk, leaRec, hx]
      simp [hlo1, hpv, leaHas, w1, w2, w3]
    case refine_1.refine_2.refine_2.refine_2 =>
      have h0 := bnot_f har (by assumption : ar.bnot lo = false)
      have hi00 := le_cmp har (by assumption : ar.icmp .gtr i 0 = false)
      have hpv : leaPrev h.ls i.toNat = true := by rw [show i.toNat = 0 by omega]; rfl
      have hlo1 : leaOk x h.now = true := hlo.trans h0
      have hbg5 := big_le har (by assumption : ar.big d5)
      have ea : ar.iop .add .i64 i 1 = i + 1 := add_std har (by omega) (by omega)
      have hlt5 := (List.getElem?_eq_some_iff.1 hx).1
      have hwon := (by assumption : x.won = false)
      refine ⟨i + 1, by rw [← ea]; kernel_rfl, ⟨by omega, by omega, ?_⟩, by omega⟩
      rw [show (i + 1).toNat = i.toNat + 1 by omega, leas_succ, hlk, leaRec, hx]
      simp [hlo1, hpv, leaHas, hwon]
    case refine_1.refine_2.refine_1 =>
      have h0 := gt_cmp har (by assumption : ar.icmp .gtr i 0 = true)
      have es1 : ar.iop .sub .i64 i 1 = i - 1 := sub_std har (by omega) (by omega)
      have ej : (ar.iop .sub .i64 i 1).toNat = i.toNat - 1 := by rw [es1]; omega
      have hlt := (List.getElem?_eq_some_iff.1 hx).1
      refine get_lea har hd5 ⟨by show 0 ≤ ar.iop .sub .i64 i 1; rw [es1]; omega, by show (ar.iop .sub .i64 i 1).toNat < _; rw [ej]; omega⟩ fun y f1 f2 hy hf1 hf2 => ?_
      have hy : h.ls[(ar.iop .sub .i64 i 1).toNat]? = some y := hy
      rw [ej] at hy
      have hpe : leaPrev h.ls i.toNat = decide (y.ip < x.ip) := by
        rw [show i.toNat = (i.toNat - 1) + 1 by omega, leaPrev, hy, show i.toNat - 1 + 1 = i.toNat by omega, hx]
      cbv
      repeat' (first | (intro; cbv) | (with_reducible refine and_side ?_ ?_; rotate_left; try cbv) | (refine ChkP.mk (by decide +kernel) ?_; cbv) | (refine br_intro ?_ ?_ <;> intro <;> cbv) | (refine side_sh har ?_; decide))
      case refine_1 =>
        have h1 := geq_t har (by assumption : ar.icmp .geq y.ip x.ip = true)
        exact hou_f hK (leas_bad hlt (by rw [leaRec, hx]; simp only [hpe, decide_eq_false (show ¬ y.ip < x.ip by omega), Bool.false_and, Bool.and_false]))
      case refine_2.refine_2 =>
        have h0 := bnot_f har (by assumption : ar.bnot lo = false)
        have h1 := geq_f har (by assumption : ar.icmp .geq y.ip x.ip = false)
        have hpv : leaPrev h.ls i.toNat = true := by rw [hpe]; exact decide_eq_true (by omega)
        have hlo1 : leaOk x h.now = true := hlo.trans h0
        have hbg5 := big_le har (by assumption : ar.big d5)
        have ea : ar.iop .add .i64 i 1 = i + 1 := add_std har (by omega) (by omega)
        have hwon := (by assumption : x.won = false)
        refine ⟨i + 1, by rw [← ea]; kernel_rfl, ⟨by omega, by omega, ?_⟩, by omega⟩
        rw [show (i + 1).toNat = i.toNat + 1 by omega, leas_succ, hlk, leaRec, hx]
        simp [hlo1, hpv, leaHas, hwon]
      have h1 := geq_f har (by assumption : ar.icmp .geq y.ip x.ip = false)
      have hpv : leaPrev h.ls i.toNat = true := by rw [hpe]; exact decide_eq_true (by omega)
      have h0 := bnot_f har (by assumption : ar.bnot lo = false)
      have hlo1 : leaOk x h.now = true := hlo.trans h0
      obtain ⟨_, hcl16, hlab⟩ := lea_facts hlo1
      have hnb := host_b hlab
      have hbg5 := big_le har (by assumption : ar.big d5)
      have ea : ar.iop .add .i64 i 1 = i + 1 := add_std har (by omega) (by omega)
      have hlt5 := (List.getElem?_eq_some_iff.1 hx).1
      have hwon := (by assumption : x.won = true)
      refine calld_intro (sA hP he1 he2) ?_
      generalize hna : encN (x.ho :: homeN) = nas
      cbv
      repeat' (first | (intro; cbv) | (with_reducible refine and_side ?_ ?_; rotate_left; try cbv) | (refine ChkP.mk (by decide +kernel) ?_; cbv) | (refine br_intro ?_ ?_ <;> intro <;> cbv) | (refine side_sh har ?_; decide))
      refine calld_intro (sHas hP (r := leaA x) hd2 k1 (leaA_ok hlo1) hna rfl rfl rfl) ?_
      generalize hv1 : hasV h.z.rs (leaA x) = v1
      cbv
      repeat' (first | (intro; cbv) | (with_reducible refine and_side ?_ ?_; rotate_left; try cbv) | (refine ChkP.mk (by decide +kernel) ?_; cbv) | (refine br_intro ?_ ?_ <;> intro <;> cbv) | (refine side_sh har ?_; decide))
      case refine_1 =>
        have h1 := bnot_t har (by assumption : ar.bnot v1 = true)
        exact hou_f hK (leas_bad hlt5 (by rw [leaRec, hx]; simp [leaHas, hwon, hv1, h1]))
      have w1 := hv1.trans (bnot_f har (by assumption : ar.bnot v1 = false))
      refine calld_intro (sD hP he1 he2 hcl16 hnb) ?_
      generalize hdh : encB (dhcidV x.cl (x.ho :: homeN)) = dhs
      rw [hna]
      cbv
      repeat' (first | (intro; cbv) | (with_reducible refine and_side ?_ ?_; rotate_left; try cbv) | (refine ChkP.mk (by decide +kernel) ?_; cbv) | (refine br_intro ?_ ?_ <;> intro <;> cbv) | (refine side_sh har ?_; decide))
      refine calld_intro (sHas hP (r := leaD x) hd2 k1 (leaD_ok hlo1) hna rfl hdh rfl) ?_
      generalize hv2 : hasV h.z.rs (leaD x) = v2
      cbv
      repeat' (first | (intro; cbv) | (with_reducible refine and_side ?_ ?_; rotate_left; try cbv) | (refine ChkP.mk (by decide +kernel) ?_; cbv) | (refine br_intro ?_ ?_ <;> intro <;> cbv) | (refine side_sh har ?_; decide))
      case refine_1 =>
        have h1 := bnot_t har (by assumption : ar.bnot v2 = true)
        exact hou_f hK (leas_bad hlt5 (by rw [leaRec, hx]; simp [leaHas, hwon, hv2, h1]))
      have w2 := hv2.trans (bnot_f har (by assumption : ar.bnot v2 = false))
      refine calld_intro (sP hP he1 he2) ?_
      generalize hrvn : encN (revOf x.ip) = rvns
      rw [hna]
      cbv
      repeat' (first | (intro; cbv) | (with_reducible refine and_side ?_ ?_; rotate_left; try cbv) | (refine ChkP.mk (by decide +kernel) ?_; cbv) | (refine br_intro ?_ ?_ <;> intro <;> cbv) | (refine side_sh har ?_; decide))
      refine calld_intro (sHas hP (r := leaP x) hd4 k2 (leaP_ok hlo1) hrvn hna rfl rfl) ?_
      generalize hv3 : hasV h.rv.rs (leaP x) = v3
      cbv
      repeat' (first | (intro; cbv) | (with_reducible refine and_side ?_ ?_; rotate_left; try cbv) | (refine ChkP.mk (by decide +kernel) ?_; cbv) | (refine br_intro ?_ ?_ <;> intro <;> cbv) | (refine side_sh har ?_; decide))
      case refine_1 =>
        have h1 := bnot_t har (by assumption : ar.bnot v3 = true)
        exact hou_f hK (leas_bad hlt5 (by rw [leaRec, hx]; simp [leaHas, hwon, hv3, h1]))
      have w3 := hv3.trans (bnot_f har (by assumption : ar.bnot v3 = false))
      refine ⟨i + 1, by rw [← ea]; kernel_rfl, ⟨by omega, by omega, ?_⟩, by omega⟩
      rw [show (i + 1).toNat = i.toNat + 1 by omega, leas_succ, hlk, leaRec, hx]
      simp [hlo1, hpv, leaHas, w1, w2, w3]
end Go.TL.Tryz

/- TfLofS -/
namespace Go.TL.Tryz
open Go Go.TL Go.Proofs
set_option maxRecDepth 20000
variable {P : Program}
/-- What a right house tells of an address. -/
def leaseR (h : Hou) (ip : Int) : Lea × Bool := match (bif houseOk h then h.ls.find? (fun x => decide (x.ip = ip)) else none) with
  | some x => (x, true)
  | none => (⟨0, [], [], 0, false⟩, false)
theorem leaseR_no {h : Hou} {ip : Int} (e : houseOk h = false) : leaseR h ip = (⟨0, [], [], 0, false⟩, false) := by rw [leaseR, e]; rfl
theorem leaseR_out {h : Hou} {ip v : Int} (hv : FindP h.ls ip v) (h0 : v < 0) : leaseR h ip = (⟨0, [], [], 0, false⟩, false) := by
  rw [leaseR, hv.1 h0]; cases houseOk h <;> rfl
theorem leaseR_in {h : Hou} {ip v : Int} (e : houseOk h = true) (hv : FindP h.ls ip v) (h0 : 0 ≤ v) : ∃ x, h.ls[v.toNat]? = some x ∧ leaseR h ip = (x, true) := by
  obtain ⟨x, hx, hf⟩ := hv.2 h0
  exact ⟨x, hx, by rw [leaseR, e, hf]; rfl⟩
theorem hou_lea {h : Hou} (e : houseOk h = true) {i : Nat} {x : Lea} (hx : h.ls[i]? = some x) : x.cl.length ≤ 1000000 ∧ x.ho.length ≤ 1000000 := by
  simp only [houseOk, Bool.and_eq_true] at e
  have hall := e.2.2.2.2.2.2
  have hlt := (List.getElem?_eq_some_iff.1 hx).1
  rw [leasOk, List.all_eq_true] at hall
  have h1 := hall i (List.mem_range.2 hlt)
  rw [leaRec, hx] at h1
  simp only [Bool.and_eq_true] at h1
  obtain ⟨_, h2, h3⟩ := lea_facts h1.1
  simp only [labelOk, Bool.and_eq_true, decide_eq_true_eq] at h3
  omega
/-- The answer, laid in trees. -/
structure LeaR (h : Hou) (ip : Int) (x : Lea) (b : Bool) (e1 e2 : List (List T)) : Prop where
  eq : leaseR h ip = (x, b)
  cl : encB x.cl = e1
  ho : encB x.ho = e2
set_option maxRecDepth 20000 in
theorem fn10 : Tryz.prog.funcs[10]? = some Tryz.f10 := rfl
set_option maxHeartbeats 40000000 in
set_option maxRecDepth 3000 in
theorem sLeaseOf (hP : Prg P) {h : Hou} {d1 d2 d3 d4 d5 : List (List T)} (hd1 : encN h.z.o = d1) (hd2 : encR h.z.rs = d2) (hd3 : encN h.rv.o = d3) (hd4 : encR h.rv.rs = d4) (hd5 : encL h.ls = d5) (hb1 : BigN h.z.rs) (hb2 : BigN h.rv.rs) (hs : smHouse h) {ip : Int} :
    ACall P 10 [.agg [.t (.int .i64 h.now), .t (.sl d1), .t (.sl d2), .t (.sl d3), .t (.sl d4), .t (.sl d5)], .one (.t (.int .i64 ip))] []
    (fun r ob => ∃ x b e1 e2, LeaR h ip x b e1 e2 ∧ r = .tup [.agg [.t (.int .i64 x.ip), .t (.sl e1), .t (.sl e2), .t (.int .i64 x.til), .t (.bool x.won)], .one (.t (.bool b))] ∧ ob = []) := by
  refine acall_fn (md := mdN) [none, none] v10 hP.mixed hP.tab (fn_at hP fn10) 2 rfl (by decide +kernel) rfl ?_
  intro ar har
  cbv
  repeat' (first | (refine br_intro ?_ ?_ <;> intro <;> cbv) | (refine call_intro (sHouseOk hP (by assumption) (by assumption) (by assumption) (by assumption) (by assumption) (by assumption) (by assumption)) ?_; rintro r ob ⟨rfl, rfl⟩; generalize hho : houseOk _ = hho1; cbv) | (refine call_intro (sFind8 hP (by assumption)) ?_; rintro r ob ⟨v, hv, rfl, rfl⟩; cbv) | (refine call_intro (sOwn8 hP (by assumption) (by assumption) (by assumption) (by assumption) (by assumption) (by assumption)) ?_; rintro r ob ⟨rfl, rfl⟩; cbv))
  case refine_1 =>
    have h0 := hho.trans (bnot_t har (by assumption : ar.bnot hho1 = true))
    exact ⟨⟨_, _, _, _, ⟨leaseR_no h0, rfl, rfl⟩, rfl, rfl⟩⟩
  case refine_2.refine_1 =>
    have h0 := lt_cmp har (by assumption : ar.icmp .lss v 0 = true)
    exact ⟨⟨_, _, _, _, ⟨leaseR_out hv h0, rfl, rfl⟩, rfl, rfl⟩⟩
  have h0 := ge_cmp har (by assumption : ar.icmp .lss v 0 = false)
  obtain ⟨x, hx, hr⟩ := leaseR_in (hho.trans (bnot_f har (by assumption : ar.bnot hho1 = false))) hv h0
  obtain ⟨e1, he1⟩ : ∃ e, encB x.cl = e := ⟨_, rfl⟩
  obtain ⟨e2, he2⟩ : ∃ e, encB x.ho = e := ⟨_, rfl⟩
  refine get_atL har hd5 hx he1 he2 h0 ?_
  cbv
  repeat' (first | (intro; cbv) | (with_reducible refine and_side ?_ ?_; rotate_left; try cbv) | (refine ChkP.mk (by decide +kernel) ?_; cbv) | (refine br_intro ?_ ?_ <;> intro <;> cbv) | (refine side_sh har ?_; decide))
  exact ⟨⟨x, true, e1, e2, ⟨hr, he1, he2⟩, rfl, rfl⟩⟩
end Go.TL.Tryz

/- TfLofI -/
namespace Go.TL.Tryz
open Go Go.TL Go.Proofs
set_option maxRecDepth 20000
variable {P : Program}
set_option maxRecDepth 20000 in
theorem fn91 : Tryz.prog.funcs[91]? = some Tryz.f91 := rfl
set_option maxHeartbeats 40000000 in
set_option maxRecDepth 3000 in
theorem iFind1 (hP : Prg P) {x : Lea} {e1 e2 : List (List T)} {ip : Int} : ACall P 91 [.agg [.t (.int .i64 x.ip), .t (.sl e1), .t (.sl e2), .t (.int .i64 x.til), .t (.bool x.won)], .one (.t (.pt [.int .i64 ip] 0))] []
    (fun r ob => r = .one (.t (.bool (decide (x.ip = ip)))) ∧ ob = []) := by
  refine acall_fn (md := md) [none] v91 hP.mixed hP.tab (fn_at hP fn91) 2 rfl (by decide +kernel) rfl ?_
  intro ar har
  cbv
  repeat' (first | (intro; cbv) | (with_reducible refine and_side ?_ ?_; rotate_left; try cbv) | (refine ChkP.mk (by decide +kernel) ?_; cbv) | (refine br_intro ?_ ?_ <;> intro <;> cbv) | (refine get_at har (by assumption) (by assumption) (by assumption) (by assumption) ?_; cbv) | (refine get_lt har (by assumption) (by assumption) (by assumption) ?_; intro x xx hx hxx; cbv) | (refine get_atN har (by assumption) (by assumption) (by assumption) (by assumption) ?_; cbv) | (refine get_ltN har (by assumption) (by assumption) (by assumption) ?_; intro x xx hx hxx; cbv) | (refine get_atI har (by assumption) (by assumption) (by decide) ?_; cbv) | (refine get_twoA har (by assumption) (by assumption) (by decide) ?_; intro x hx; cbv) | (refine get_twoB har (by assumption) (by assumption) (by decide) ?_; intro x hx; cbv) | (refine bytes_intro (by assumption) ?_; cbv) | (exact side_lt har (by assumption) (by assumption)) | (exact side_inb har (by assumption) (by assumption) (by assumption)) | (exact side_sh har (by decide)) | (exact side_app har (by assumption) (by assumption) (by omega)) | (exact side_app0 har (by assumption) (by omega)) | (exact side_new har (by assumption) (by omega)) | (exact side_one har (by assumption) (by omega)) | (exact side_oneN har (by assumption) (by omega)) | (exact side_flat har (by assumption)) | (exact side_sbig har (by omega)) | (refine side_sbig har ?_; simp; done) | (exact side_oneI har (by assumption) (by omega)) | (refine side_ix har ?_; simp; done) | (refine side_ix har ?_; simp; omega))
  subst har
  exact ⟨⟨rfl, rfl⟩⟩
set_option maxRecDepth 20000 in
theorem fn90 : Tryz.prog.funcs[90]? = some Tryz.f90 := rfl
set_option maxHeartbeats 40000000 in
set_option maxRecDepth 3000 in
theorem iIdxL (hP : Prg P) {l : List Lea} {es : List (List T)} (hl : encL l = es) {ip : Int} :
    ACall P 90 [.one (.t (.sl es)), .one (.t (.fn (.func 91) [] [.pt [.int .i64 ip] 0]))] []
    (fun r ob => ∃ v : Int, FindP l ip v ∧ r = .one (.t (.int .i64 v)) ∧ ob = []) := by
  have hnl := encL_len hl
  refine acall_fn (md := md) [none] v90 hP.mixed hP.tab (fn_at hP fn90) 2 rfl (by decide +kernel) rfl ?_
  intro ar har
  cbv
  repeat' (first | (intro; cbv))
  refine loop_start [] [] ?_
  cbv
  refine LoopR.mk Int (fun i => ([(8, .one (.t (.int .i64 i)))], [])) (fun i => 0 ≤ i ∧ (l.take i.toNat).any (fun x => decide (x.ip = ip)) = false) (fun i => l.length - i.toNat) 0 ?e ?f ?g
  case e => kernel_rfl
  case f => exact ⟨Int.le_refl _, rfl⟩
  case g =>
    intro i hi
    have hi0 : 0 ≤ i := hi.1
    have hi1 : (l.take i.toNat).any (fun x => decide (x.ip = ip)) = false := hi.2
    clear hi
    cbv
    repeat' (first | (refine br_intro ?_ ?_ <;> intro <;> cbv) | (refine get_ltL har (by assumption) (by assumption) (by assumption) ?_; intro x e1 e2 hx he1 he2; cbv))
    case refine_2 =>
      have hend := ge_len har (by assumption : ar.icmp .lss i (ar.len es) = false) hi0
      rw [List.take_of_length_le (by omega)] at hi1
      exact ⟨⟨-1, find_none hi1, rfl, rfl⟩⟩
    refine call_intro (iFind1 hP) ?_; rintro a ob ⟨rfl, rfl⟩
    generalize hsm : decide (x.ip = ip) = sm
    cbv
    repeat' (first | (intro; cbv) | (refine br_intro ?_ ?_ <;> intro <;> cbv))
    case refine_1 => exact ⟨⟨i, find_some hi0 hi1 hx (of_decide_eq_true (hsm.trans (by assumption))), rfl, rfl⟩⟩
    case refine_2 =>
      have h0 : ¬ x.ip = ip := of_decide_eq_false (hsm.trans (by assumption))
      have hlt := (List.getElem?_eq_some_iff.1 hx).1
      have hbg := big_le har (by assumption : ar.big es)
      have ea : ar.iop .add .i64 i 1 = i + 1 := add_std har (by omega) (by omega)
      exact ⟨i + 1, by rw [← ea]; kernel_rfl, ⟨by omega, by rw [show (i + 1).toNat = i.toNat + 1 by omega]; exact any_take_succ hx hi1 (by simp [h0])⟩, by omega⟩
set_option maxRecDepth 20000 in
theorem fn43 : Tryz.prog.funcs[43]? = some Tryz.f43 := rfl
set_option maxHeartbeats 40000000 in
set_option maxRecDepth 3000 in
theorem iFind (hP : Prg P) {h : Hou} {d1 d2 d3 d4 d5 : List (List T)} (hd5 : encL h.ls = d5) {ip : Int} : ACall P 43 [.agg [.t (.int .i64 h.now), .t (.sl d1), .t (.sl d2), .t (.sl d3), .t (.sl d4), .t (.sl d5)], .one (.t (.int .i64 ip))] []
    (fun r ob => ∃ v : Int, FindP h.ls ip v ∧ r = .one (.t (.int .i64 v)) ∧ ob = []) := by
  refine acall_fn (md := md) [none] v43 hP.mixed hP.tab (fn_at hP fn43) 2 rfl (by decide +kernel) rfl ?_
  intro ar har
  cbv
  repeat' (first | (refine call_intro (iIdxL hP (by assumption)) ?_; rintro r ob ⟨v, hv, rfl, rfl⟩; cbv))
  exact ⟨⟨v, hv, rfl, rfl⟩⟩
set_option maxRecDepth 20000 in
theorem fn44 : Tryz.prog.funcs[44]? = some Tryz.f44 := rfl
set_option maxHeartbeats 40000000 in
set_option maxRecDepth 3000 in
theorem iCopL (hP : Prg P) {x : Lea} {e1 e2 : List (List T)} (he1 : encB x.cl = e1) (he2 : encB x.ho = e2) (hs : x.cl.length ≤ 1000000 ∧ x.ho.length ≤ 1000000) : ACall P 44 [.agg [.t (.int .i64 x.ip), .t (.sl e1), .t (.sl e2), .t (.int .i64 x.til), .t (.bool x.won)]] []
    (fun r ob => r = .agg [.t (.int .i64 x.ip), .row 32 0, .row 33 0, .t (.int .i64 x.til), .t (.bool x.won)] ∧ ob = [(32, .row 1 e1 0 [0] false), (33, .row 1 e2 0 [0] false)]) := by
  refine acall_fn (md := mdN) [some [(1, 1), (2, 1)]] v44 hP.mixed hP.tab (fn_at hP fn44) 1 rfl (by decide +kernel) rfl ?_
  intro ar har
  cbv
  repeat' (first | (intro; cbv) | (refine ChkP.mk (by decide +kernel) ?_; cbv) | (refine calld_intro (iClone hP (by assumption) (by first | omega | decide)) ?_; generalize hcl : encB _ = cl; cbv))
  rename_i c1 h1 _
  have g1 : c1 = e1 := h1.symm.trans he1
  have g2 : cl = e2 := hcl.symm.trans he2
  subst g1; subst g2
  exact ⟨⟨rfl, rfl⟩⟩
end Go.TL.Tryz

/- TfRevB -/
namespace Go.TL.Tryz
open Go Go.TL Go.Proofs
set_option maxRecDepth 20000
variable {P : Program}
theorem getp_of {ar : Ar} {es : List (List T)} {i : Int} {e : List T} {K : List T → Prop} (hi : ar.inb i es) (he : ar.get es i = e) (k : K e) : GetP ar es i K := ⟨hi, by rw [he]; exact k⟩
set_option maxRecDepth 20000 in
theorem fn130 : Tryz.prog.funcs[130]? = some Tryz.f130 := rfl
set_option maxHeartbeats 40000000 in
set_option maxRecDepth 3000 in
theorem iRev4 (hP : Prg P) {a b c d : List UInt8} {es : List (List T)} (hes : es = [[.str a], [.str b], [.str c], [.str d]]) : ACall P 130 [.one (.row 0 7)] [(0, .row 1 es 7 [7] false)] (fun r ob => r = .tup [] ∧ ob = [(0, .row 1 [[.str d], [.str c], [.str b], [.str a]] 7 [7] false)]) := by
  generalize hK : (fun (r : A) (ob : Obs) => r = A.tup [] ∧ ob = [(0, Ob.row 1 [[.str d], [.str c], [.str b], [.str a]] 7 [7] false)]) = K
  refine acall_fn (md := md) [none] v130 hP.mixed hP.tab (fn_at hP fn130) 1 rfl (by decide +kernel) rfl ?_
  intro ar har
  cbv
  have e3 : ar.iop .sub .i64 (ar.len es) 1 = 3 := by subst har; subst hes; rfl
  repeat' (first | (intro; cbv))
  refine loop_start [] [] ?_
  cbv
  refine LoopR.mk (Nat × Int × Int × List (List T)) (fun x => ([(2, .one (.t (.int .i64 x.2.1))), (3, .one (.t (.int .i64 x.2.2.1)))], [(0, .row 1 x.2.2.2 7 [7] false)]))
    (fun x => (x.1 = 0 ∧ x.2.1 = 0 ∧ x.2.2.1 = 3 ∧ x.2.2.2 = [[.str a], [.str b], [.str c], [.str d]]) ∨ (x.1 = 1 ∧ x.2.1 = 1 ∧ x.2.2.1 = 2 ∧ x.2.2.2 = [[.str d], [.str b], [.str c], [.str a]]) ∨ (x.1 = 2 ∧ x.2.1 = 2 ∧ x.2.2.1 = 1 ∧ x.2.2.2 = [[.str d], [.str c], [.str b], [.str a]])) (fun x => 2 - x.1) (0, 0, ar.iop .sub .i64 (ar.len es) 1, es) ?e ?f ?g
  case e => kernel_rfl
  case f => exact .inl ⟨rfl, rfl, e3, hes⟩
  case g =>
    intro x hx
    obtain ⟨k, i, j, ls⟩ := x
    rcases hx with ⟨hk, hi, hj, hls⟩ | ⟨hk, hi, hj, hls⟩ | ⟨hk, hi, hj, hls⟩
    all_goals (dsimp only at hk hi hj hls)
    case inl =>
      have h1 : ar.inb i ls := by subst har; rw [hls, hi]; simp [std]
      have h2 : ar.inb j ls := by subst har; rw [hls, hj]; simp [std]
      have h3 : ar.inb j (ar.setc ls i 0 [.str d]) := by subst har; rw [hls, hi, hj]; simp [std]
      have g1 : ar.get ls i = [.str a] := by subst har; rw [hls, hi]; rfl
      have g2 : ar.get ls j = [.str d] := by subst har; rw [hls, hj]; rfl
      cbv
      repeat' (first | (with_reducible refine and_side ?_ ?_; rotate_left; try cbv) | (refine br_intro ?_ ?_ <;> intro <;> cbv))
      case refine_1.refine_1 => exact ⟨h2⟩
      case refine_2 => exact absurd (by assumption : ar.icmp .lss i j = false) (by subst har; rw [hi, hj]; decide)
      refine getp_of h2 g2 ?_
      cbv
      repeat' (first | (with_reducible refine and_side ?_ ?_; rotate_left; try cbv))
      case refine_1 => exact ⟨h1⟩
      refine getp_of h1 g1 ?_
      cbv
      repeat' (first | (intro; cbv) | (with_reducible refine and_side ?_ ?_; rotate_left; try cbv) | (refine ChkP.mk (by decide +kernel) ?_; cbv))
      all_goals first
        | exact ⟨h1⟩
        | exact ⟨h2⟩
        | exact ⟨h3⟩
        | skip
      exact ⟨(1, ar.iop .add .i64 i 1, ar.iop .sub .i64 j 1, ar.setc (ar.setc ls i 0 [.str d]) j 0 [.str a]), by kernel_rfl, .inr (.inl ⟨rfl, by subst har; rw [hi]; rfl, by subst har; rw [hj]; rfl, by subst har; rw [hls, hi, hj]; rfl⟩), by dsimp only; omega⟩
    case inr.inl =>
      have h1 : ar.inb i ls := by subst har; rw [hls, hi]; simp [std]
      have h2 : ar.inb j ls := by subst har; rw [hls, hj]; simp [std]
      have h3 : ar.inb j (ar.setc ls i 0 [.str c]) := by subst har; rw [hls, hi, hj]; simp [std]
      have g1 : ar.get ls i = [.str b] := by subst har; rw [hls, hi]; rfl
      have g2 : ar.get ls j = [.str c] := by subst har; rw [hls, hj]; rfl
      cbv
      repeat' (first | (with_reducible refine and_side ?_ ?_; rotate_left; try cbv) | (refine br_intro ?_ ?_ <;> intro <;> cbv))
      case refine_1.refine_1 => exact ⟨h2⟩
      case refine_2 => exact absurd (by assumption : ar.icmp .lss i j = false) (by subst har; rw [hi, hj]; decide)
      refine getp_of h2 g2 ?_
      cbv
      repeat' (first | (with_reducible refine and_side ?_ ?_; rotate_left; try cbv))
      case refine_1 => exact ⟨h1⟩
      refine getp_of h1 g1 ?_
      cbv
      repeat' (first | (intro; cbv) | (with_reducible refine and_side ?_ ?_; rotate_left; try cbv) | (refine ChkP.mk (by decide +kernel) ?_; cbv))
      all_goals first
        | exact ⟨h1⟩
        | exact ⟨h2⟩
        | exact ⟨h3⟩
        | skip
      exact ⟨(2, ar.iop .add .i64 i 1, ar.iop .sub .i64 j 1, ar.setc (ar.setc ls i 0 [.str c]) j 0 [.str b]), by kernel_rfl, .inr (.inr ⟨rfl, by subst har; rw [hi]; rfl, by subst har; rw [hj]; rfl, by subst har; rw [hls, hi, hj]; rfl⟩), by dsimp only; omega⟩
    case inr.inr =>
      cbv
      repeat' (first | (intro; cbv) | (with_reducible refine and_side ?_ ?_; rotate_left; try cbv) | (refine ChkP.mk (by decide +kernel) ?_; cbv) | (exact side_sh har (by decide)))
      refine br_intro (fun h => absurd h (by subst har; rw [hi, hj]; decide)) fun _ => ?_
      cbv
      subst hK
      exact ⟨⟨rfl, by rw [hls]⟩⟩
end Go.TL.Tryz

/- TfSamR -/
namespace Go.TL.Tryz
open Go Go.TL Go.Proofs
variable {P : Program}

def sameR (m : List (List UInt8)) (t ttl addr : Int) (to : List (List UInt8)) (tx : List UInt8) (nu : List Int) (n : List (List UInt8)) (t2 ttl2 addr2 : Int) (qo : List (List UInt8)) (vx : List UInt8) (nv : List Int) : Bool :=
  rrOk m t ttl addr to tx nu && (rrOk n t2 ttl2 addr2 qo vx nv && (cmpR m t addr to tx nu n t2 addr2 qo vx nv == 0))
theorem get_zero {ar : Ar} (har : ar = std) {e : List T} {i : Int} {K : List T → Prop} (hi : i = 0) (k : K e) : GetP ar [e] i K := by
  subst har; subst hi
  exact ⟨by simp [std], k⟩
end Go.TL.Tryz

/- TfWrd -/
namespace Go.TL.Tryz
open Go Go.TL Go.Proofs
variable {P : Program}

def encS (l : List (List UInt8)) : List (List T) := l.map fun s => [.str s]
theorem encS_len {l : List (List UInt8)} {es : List (List T)} (h : encS l = es) : es.length = l.length := by subst h; simp [encS]
theorem get_word {ar : Ar} (har : ar = std) {l : List (List UInt8)} {es : List (List T)} {i : Int} {K : List T → Prop} (hes : encS l = es) (h : ar.icmp .lss i (ar.len es) = true) (h0 : 0 ≤ i)
    (k : ∀ s : List UInt8, l[i.toNat]? = some s → K [.str s]) : GetP ar es i K := by
  have hl : i.toNat < l.length := by rw [← encS_len hes]; exact lt_len har h h0
  subst har; subst hes
  refine ⟨by simp [std, encS]; omega, ?_⟩
  have := k l[i.toNat] (List.getElem?_eq_getElem hl)
  simpa [std, encS, hl] using this
def joinW : List (List UInt8) → List UInt8
  | [] => []
  | x :: r => x ++ r.flatMap fun s => 32 :: s
theorem join_step {l : List (List UInt8)} {i : Nat} {s : List UInt8} (h : l[i]? = some s) : joinW (l.take (i + 1)) = if i = 0 then s else joinW (l.take i) ++ [32] ++ s := by
  cases l with
  | nil => simp at h
  | cons x r =>
    cases i with
    | zero => simp at h; subst h; simp [joinW]
    | succ j =>
      simp at h
      simp only [List.take_succ_cons, joinW, if_neg (Nat.succ_ne_zero j)]
      rw [List.take_add_one, h]
      simp
theorem join_first {l : List (List UInt8)} : joinW (l.take 0) = [] := by simp [joinW]
theorem side_cat {ar : Ar} (har : ar = std) {a b : List UInt8} (h1 : a.length ≤ 1000000) (h2 : b.length ≤ 1000000) : Side (ar.sbig a ∧ ar.sbig b) := by
  subst har; exact ⟨by simp [std]; omega, by simp [std]; omega⟩
end Go.TL.Tryz

/- TfShelf -/
namespace Go.Proofs
open Go.Shelf
def Tryz.laysM171_ren : Go.Shelf.Ren := ⟨fun | 171 => 158 | 243 => 172 | 246 => 176 | 283 => 177 | 284 => 178 | 285 => 179 | 286 => 180 | 129 => 182 | 317 => 181 | 318 => 183 | 319 => 184 | 320 => 185 | 337 => 186 | 338 => 187 | n => n, fun | 3 => 3 | 9 => 9 | 2 => 2 | 4 => 4 | 171 => 172 | 0 => 0 | 53 => 151 | 37 => 43 | 5 => 5 | 173 => 175 | 212 => 178 | 51 => 138 | 20 => 20 | 213 => 179 | 46 => 142 | 232 => 182 | 233 => 183 | n => n, fun | 17 => 1 | 18 => 2 | 19 => 3 | n => n⟩
theorem Tryz.laysM171 : Go.Proofs.LaysM.n171 Tryz.prog Tryz.laysM171_ren := {
  mixed := by kernel_rfl
  f129 := Tryz.func182.trans (congrArg some (by kernel_rfl))
  f171 := Tryz.func158.trans (congrArg some (by kernel_rfl))
  f243 := Tryz.func172.trans (congrArg some (by kernel_rfl))
  f246 := Tryz.func176.trans (congrArg some (by kernel_rfl))
  f283 := Tryz.func177.trans (congrArg some (by kernel_rfl))
  f284 := Tryz.func178.trans (congrArg some (by kernel_rfl))
  f285 := Tryz.func179.trans (congrArg some (by kernel_rfl))
  f286 := Tryz.func180.trans (congrArg some (by kernel_rfl))
  f317 := Tryz.func181.trans (congrArg some (by kernel_rfl))
  f318 := Tryz.func183.trans (congrArg some (by kernel_rfl))
  f319 := Tryz.func184.trans (congrArg some (by kernel_rfl))
  f320 := Tryz.func185.trans (congrArg some (by kernel_rfl))
  f337 := Tryz.func186.trans (congrArg some (by kernel_rfl))
  f338 := Tryz.func187.trans (congrArg some (by kernel_rfl))
  t0 := Tryz.underlying0
  a0 := Tryz.isAgg0
  z0 := Tryz.sizeOf0
  v0 := Tryz.zeroValue0
  t2 := Tryz.underlying2
  a2 := Tryz.isAgg2
  z2 := Tryz.sizeOf2
  v2 := Tryz.zeroValue2
  t3 := Tryz.underlying3
  a3 := Tryz.isAgg3
  z3 := Tryz.sizeOf3
  v3 := Tryz.zeroValue3
  t4 := Tryz.underlying4
  a4 := Tryz.isAgg4
  z4 := Tryz.sizeOf4
  v4 := Tryz.zeroValue4
  t5 := Tryz.underlying5
  a5 := Tryz.isAgg5
  z5 := Tryz.sizeOf5
  v5 := Tryz.zeroValue5
  t9 := Tryz.underlying9
  a9 := Tryz.isAgg9
  z9 := Tryz.sizeOf9
  v9 := Tryz.zeroValue9
  t20 := Tryz.underlying20
  a20 := Tryz.isAgg20
  z20 := Tryz.sizeOf20
  v20 := Tryz.zeroValue20
  t37 := Tryz.underlying43
  a37 := Tryz.isAgg43
  z37 := Tryz.sizeOf43
  v37 := Tryz.zeroValue43
  t46 := Tryz.underlying142
  a46 := Tryz.isAgg142
  z46 := Tryz.sizeOf142
  v46 := Tryz.zeroValue142
  t51 := Tryz.underlying138
  a51 := Tryz.isAgg138
  z51 := Tryz.sizeOf138
  v51 := Tryz.zeroValue138
  t53 := Tryz.underlying151
  a53 := Tryz.isAgg151
  z53 := Tryz.sizeOf151
  v53 := Tryz.zeroValue151
  t171 := Tryz.underlying172
  a171 := Tryz.isAgg172
  z171 := Tryz.sizeOf172
  v171 := Tryz.zeroValue172
  t173 := Tryz.underlying175
  a173 := Tryz.isAgg175
  z173 := Tryz.sizeOf175
  v173 := Tryz.zeroValue175
  t212 := Tryz.underlying178
  a212 := Tryz.isAgg178
  z212 := Tryz.sizeOf178
  v212 := Tryz.zeroValue178
  t213 := Tryz.underlying179
  a213 := Tryz.isAgg179
  z213 := Tryz.sizeOf179
  t232 := Tryz.underlying182
  a232 := Tryz.isAgg182
  z232 := Tryz.sizeOf182
  v232 := Tryz.zeroValue182
  t233 := Tryz.underlying183
  a233 := Tryz.isAgg183
  z233 := Tryz.sizeOf183
  v233 := Tryz.zeroValue183
  g17 := by kernel_rfl
  g18 := by kernel_rfl
  g19 := by kernel_rfl
  i0 := by kernel_rfl
  i2 := by kernel_rfl
  i3 := by kernel_rfl
  i4 := by kernel_rfl
  i5 := by kernel_rfl
  i9 := by kernel_rfl
  i20 := by kernel_rfl
  i37 := by kernel_rfl
  i46 := by kernel_rfl
  i51 := by kernel_rfl
  i53 := by kernel_rfl
  i171 := by kernel_rfl
  i173 := by kernel_rfl
  i212 := by kernel_rfl
  i232 := by kernel_rfl
  i233 := by kernel_rfl
  m17 := by kernel_rfl
  m18 := by kernel_rfl
  m19 := by kernel_rfl }
open Go.RowKit Go.Sort Go.Lib in
/-- strconv.Itoa: "Itoa is equivalent to FormatInt(int64(i), 10).": i's DECIMAL NUMERAL ('Lib.itoa': a '-' where i is negative, then the digits), FOR EVERY int. The world behind the call: the world before it, new blocks behind the heap (the library's 'var a [24]byte'), draws. (LAID: no walk: one application.) -/
theorem Tryz.strconv_Itoa (n : Int) (h0 : -9223372036854775808 ≤ n) (h1 : n ≤ 9223372036854775807) (w : World) (htab : Lib.TabIs Tryz.prog w "internal/strconv.uint64pow10" .u64 Lib.pow10Tab) :
    Calls Tryz.prog 158 #[.int .i64 n] w fun e w' => e = .returned (.string ⟨(Lib.itoa n).toArray⟩) ∧ ∃ k os, w' = grow (w.drewN k) os := Any.strconv_Itoa Tryz.laysM171 n h0 h1 w htab
end Go.Proofs

/- TfItoT -/
namespace Go.TL.Tryz
open Go Go.TL Go.Proofs Go.RowKit Go.Sort
set_option maxRecDepth 20000

theorem acall_pure {P : Program} {f : Nat} {fn : Func} {args : List A} {K : A → Obs → Prop} (hf : P.funcs[f]? = some fn) (hb : fn.body.isSome = true) (hn : fn.name ≠ "runtime.NumGoroutine")
    (h : ∀ (w : World) (ok : Nat → Prop) (hd : HF) (vs : List Value), Gl P w ok → (∀ b, ok b → b < w.heap.size) → vs.length = args.length → (∀ (i : Nat) v x, vs[i]? = some v → args[i]? = some x → AR w ok hd (look []) v x) →
      Calls P f vs.toArray w fun e w' => ∃ v t, e = .returned v ∧ Below w.heap.size w w' ∧ (∀ w'', Rep w'' ok v t) ∧ K (.one (.t t)) []) : ACall P f args [] K := by
  refine acall_calls hf hb hn ?_
  intro w ok hd vs G R hl ha
  refine (h w ok hd vs G R.okLt hl ha).mono ?_
  rintro e w' ⟨v, t, rfl, hb, hr, hk⟩
  refine ⟨_, rfl, ok, hd, _, [], hk, ?_, .one _ _ (hr w')⟩
  exact ⟨⟨fun b hb' => Nat.lt_of_lt_of_le (R.okLt b hb') hb.size, fun n b h => absurd rfl h, fun n m b _ h => absurd rfl h, fun n o h => by cases h⟩, hb.os, hb.tape, hb.output, hb.size, fun b h1 _ => hb.block b h1, fun _ h => h, fun _ h => .inl h, fun n b h => absurd rfl h, TL.Keep.refl _ _⟩
theorem rep_string (l : List UInt8) (h : l.length ≤ 2 ^ 63 - 1) (w : World) (ok : Nat → Prop) : Rep w ok (.string ⟨l.toArray⟩) (.str l) := by
  have := Rep.str (w := w) (ok := ok) ⟨l.toArray⟩ (by simpa [ByteArray.size] using h)
  simpa using this
theorem drewN_heap (w : World) (k : Nat) : (w.drewN k).heap = w.heap ∧ (w.drewN k).os = w.os ∧ (w.drewN k).tape = w.tape ∧ (w.drewN k).output = w.output := by
  exact ⟨rfl, rfl, rfl, rfl⟩
theorem below_grow (w : World) (k : Nat) (os : Array Obj) : Below w.heap.size w (grow (w.drewN k) os) :=
  ⟨rfl, rfl, rfl, by simp [grow, (drewN_heap w k).1], fun i hi => by simp only [grow, (drewN_heap w k).1]; rw [Array.getElem?_append_left hi]⟩
theorem pow10_eq : Lib.pow10Tab = pow10L := by decide +kernel
theorem iItoa {P : Program} (hP : Prg P) {n : Int} : ACall P 158 [.one (.t (.int .i64 n))] [] (fun r ob => r = .one (.t (.str (Lib.itoa n))) ∧ ob = []) := by
  have hP := hP.eq
  subst hP
  refine acall_pure Tryz.func158 (by rfl) (by decide) ?_
  intro w ok hd vs G hlt hl ha
  obtain ⟨v, rfl⟩ : ∃ v, vs = [v] := by
    match vs, hl with
    | [v], _ => exact ⟨v, rfl⟩
  have hv := (ha 0 v _ rfl rfl).one_inv
  cases hv with
  | int _ _ hk =>
    obtain ⟨h0, h1⟩ := i64_rng hk
    obtain ⟨g, hg⟩ : ∃ g, Tryz.prog.globalNamed "internal/strconv.uint64pow10" = some g := ⟨_, by rfl⟩
    have htab : Lib.TabIs Tryz.prog w "internal/strconv.uint64pow10" .u64 Lib.pow10Tab := by
      have := (G g hg).2
      rw [Lib.TabIs, pow10_eq]; exact this
    refine (Tryz.strconv_Itoa n h0 h1 w htab).mono ?_
    rintro e w' ⟨rfl, k, os, rfl⟩
    exact ⟨_, _, rfl, below_grow w k os, fun w'' => rep_string _ (by have := Lib.itoa_length_le n h0 h1; omega) w'' ok, rfl, rfl⟩
theorem dec_digits (u : Nat) : ∀ x, x ∈ Lib.decDigits u → 48 ≤ iB x ∧ iB x ≤ 57 := by
  induction u using Nat.strongRecOn with
  | _ u ih =>
    intro x hx
    have key : ∀ d : Nat, d < 10 → 48 ≤ iB (UInt8.ofNat (48 + d)) ∧ iB (UInt8.ofNat (48 + d)) ≤ 57 := by
      intro d hd
      simp only [iB, UInt8.toNat_ofNat']; omega
    rw [Lib.decDigits] at hx
    split at hx
    · rw [List.mem_singleton] at hx; subst hx; exact key u (by assumption)
    · rcases List.mem_append.1 hx with h | h
      · exact ih (u / 10) (by omega) x h
      · rw [List.mem_singleton] at h; subst h; exact key (u % 10) (by omega)
theorem itoa_chars {n : Int} : ∀ x, x ∈ Lib.itoa n → 45 ≤ iB x ∧ iB x ≤ 57 := by
  intro x hx
  unfold Lib.itoa at hx
  split at hx
  · rcases List.mem_cons.1 hx with e | h
    · subst e; decide
    · have := dec_digits _ x h; omega
  · have := dec_digits _ x hx; omega
theorem itoa_len {n : Int} (h : IntKind.i64.has n) : (Lib.itoa n).length ≤ 21 := Lib.itoa_length_le n (i64_rng h).1 (i64_rng h).2

theorem rep_str_inv {w : World} {ok : Nat → Prop} {v : Value} {s : List UInt8} (h : Rep w ok v (.str s)) : v = .string ⟨s.toArray⟩ := by
  cases h with
  | str b hb => congr
end Go.TL.Tryz

/- TfTxD -/
namespace Go.TL.Tryz
open Go Go.TL Go.Proofs
variable {P : Program}

def decS (l : List UInt8) : List (List UInt8) := l.map fun c => Lib.itoa (iB c)
theorem wid_encS (l : List (List UInt8)) : std.wid 1 (encS l) := by intro x hx; obtain ⟨y, _, rfl⟩ := List.mem_map.1 hx; rfl
theorem side_oneS {ar : Ar} (har : ar = std) {l : List (List UInt8)} {es : List (List T)} {t : T} (h : encS l = es) (hn : l.length ≤ 1000000000) : Side (ar.room 16 (ar.app es [[t]]) ∧ ar.wid 1 [[t]]) := by
  have := encS_len h
  subst har
  exact ⟨by simp [std]; omega, wid_one t⟩
theorem side_flatS {ar : Ar} (har : ar = std) {l : List (List UInt8)} {es : List (List T)} (h : encS l = es) : Side (ar.flat es) := by
  subst har; subst h
  refine ⟨fun x hx t ht => ?_⟩
  obtain ⟨y, _, rfl⟩ := List.mem_map.1 hx
  simp at ht; subst ht; rfl
theorem encS_app {l m : List (List UInt8)} {es fs : List (List T)} (h : encS l = es) (k : encS m = fs) : encS (l ++ m) = es ++ fs := by subst h; subst k; simp [encS]
set_option maxRecDepth 20000 in
theorem fn129 : Tryz.prog.funcs[129]? = some Tryz.f129 := rfl
set_option maxHeartbeats 40000000 in
set_option maxRecDepth 3000 in
theorem iDecimals (hP : Prg P) {n : Int} : ACall P 129 [.one (.t (.int .i64 n))] [] (fun r ob => r = .one (.row 32 0) ∧ ob = [(32, .row 1 (encS (decS (fourB n))) 0 [0] false)]) := by
  refine acall_fn (md := md) [some [(0, 1)]] v129 hP.mixed hP.tab (fn_at hP fn129) 1 rfl (by decide +kernel) rfl ?_
  intro ar har
  cbv
  repeat' (first | (intro; cbv) | (with_reducible refine and_side ?_ ?_; rotate_left; try cbv) | (exact side_flat har (by assumption)) | (refine call_intro (iFour hP) ?_; rintro r ob ⟨rfl, rfl⟩; generalize hfo : encB (fourB _) = fo; cbv))
  have hfl : (fourB n).length = 4 := rfl
  refine LoopP.mk (List (List UInt8) × List (List T) × Int) [3, 8, 9, 10] []
    (fun x => ⟨[(3, .one (.row 16 0)), (8, .one (.row 17 0)), (9, .one (.t (.int .i64 (ar.len fo)))), (10, .one (.t (.int .i64 x.2.2)))], [(16, .row 1 x.2.1 0 [0] false), (17, .row 1 fo 0 [0] false)]⟩)
    (fun x => encS x.1 = x.2.1 ∧ 0 ≤ x.2.2 ∧ x.2.2.toNat ≤ (fourB n).length ∧ x.1 = decS ((fourB n).take x.2.2.toNat)) (fun x => 4 - x.2.2.toNat) ([], [], 0) ?e ?f ?g
  case e => kernel_rfl
  case f => exact ⟨rfl, Int.le_refl _, by simp, rfl⟩
  case g =>
    intro x hx
    obtain ⟨l, os, j⟩ := x
    have hl : encS l = os := hx.1
    have hj0 : 0 ≤ j := hx.2.1
    have hjb : j.toNat ≤ (fourB n).length := hx.2.2.1
    have hll : l = decS ((fourB n).take j.toNat) := hx.2.2.2
    have hln : l.length ≤ 4 := by rw [hll, decS, List.length_map, List.length_take]; omega
    clear hx
    cbv
    repeat' (first | (intro; cbv) | (with_reducible refine and_side ?_ ?_; rotate_left; try cbv) | (refine br_intro ?_ ?_ <;> intro <;> cbv) | (refine get_lt har (by assumption) (by assumption) (by assumption) ?_; intro x xx hx hxx; cbv) | (exact side_lt har (by assumption) (by assumption)) | (refine call_intro (iItoa hP) ?_; rintro r ob ⟨rfl, rfl⟩; generalize hit : Lib.itoa _ = it; cbv))
    · have hlt := (List.getElem?_eq_some_iff.1 hx).1
      have hw : ar.conv .i64 xx = xx := by subst har; rw [← hxx]; exact iB_wrap64 x
      rw [hw] at hit
      have hl1 : l ++ [it] = decS ((fourB n).take (j.toNat + 1)) := by rw [List.take_add_one, hx, hll, ← hit, ← hxx]; simp [decS]
      subst har
      refine ⟨(l ++ [it], encS (l ++ [it]), j + 1), ?_, ⟨rfl, by dsimp only; omega, by dsimp only; omega, by dsimp only; rw [hl1, show (j + 1).toNat = j.toNat + 1 by omega]⟩, by dsimp only; omega⟩
      rw [show encS (l ++ [it]) = std.app os [[.str it]] from encS_app hl rfl, show j + 1 = std.iop .add .i64 j 1 from (addI (by omega) (by omega)).symm]
      kernel_rfl
    · exact side_oneS har hl (by omega)
    · have hg := ge_len har (by assumption) hj0
      rw [encB_len hfo] at hg
      rw [take_all (by omega)] at hll
      exact ⟨⟨rfl, by rw [← hl, hll]⟩⟩
end Go.TL.Tryz

/- TfRevI -/
namespace Go.TL.Tryz
open Go Go.TL Go.Proofs
set_option maxRecDepth 20000
variable {P : Program}
theorem dig_short : ∀ n : Fin 256, (digB (n.val : Int)).length ≤ 3 := by decide +kernel
theorem oct_short (ip : Int) (i : Nat) : (digB (octI ip i)).length ≤ 3 := by
  have h : 0 ≤ octI ip i ∧ octI ip i < 256 := by unfold octI; omega
  have := dig_short ⟨(octI ip i).toNat, by omega⟩
  simpa [Int.toNat_of_nonneg h.1] using this
theorem rev_short (ip : Int) : ∀ l ∈ revOf ip, l.length ≤ 7 := by
  intro l hl
  simp only [revOf, List.mem_cons, List.not_mem_nil, or_false] at hl
  rcases hl with rfl | rfl | rfl | rfl | rfl | rfl
  · have := oct_short ip 0; omega
  · have := oct_short ip 1; omega
  · have := oct_short ip 2; omega
  · have := oct_short ip 3; omega
  · decide
  · decide
theorem itoa_dig : ∀ n : Fin 256, Lib.itoa (n.val : Int) = digB (n.val : Int) := by decide +kernel
theorem itoa_byte (v : Int) : Lib.itoa (iB (byteOf v)) = digB (v % 256) := by
  rw [iB_byteOf_mod]
  have h : 0 ≤ v % 256 ∧ v % 256 < 256 := by omega
  have := itoa_dig ⟨(v % 256).toNat, by omega⟩
  simpa [Int.toNat_of_nonneg h.1] using this
theorem dec_rev (ip : Int) : (decS (fourB ip)).reverse ++ [[105, 110, 45, 97, 100, 100, 114], [97, 114, 112, 97]] = revOf ip := by
  show [Lib.itoa (iB (byteOf ip)), Lib.itoa (iB (byteOf (shr8 ip 8))), Lib.itoa (iB (byteOf (shr8 ip 16))), Lib.itoa (iB (byteOf (shr8 (shr8 ip 16) 8)))] ++ _ = _
  rw [itoa_byte, itoa_byte, itoa_byte, itoa_byte]
  rw [show shr8 (shr8 ip 16) 8 = shr8 ip 16 / 2 ^ 8 from shr8_eq _ 8 (by decide), show shr8 ip 16 = ip / 2 ^ 16 from shr8_eq ip 16 (by decide), show shr8 ip 8 = ip / 2 ^ 8 from shr8_eq ip 8 (by decide), show ip / 2 ^ 16 / 2 ^ 8 = ip / 2 ^ 24 by omega]
  simp only [revOf, octI]
  rw [show ip / 2 ^ (8 * 0) = ip by simp]
  rfl
def mdV (n : Nat) : Md := bif eqB n 130 then ⟨[some [(1000000, 0)]], true⟩ else md n
set_option maxRecDepth 20000 in
theorem fn86 : Tryz.prog.funcs[86]? = some Tryz.f86 := rfl
set_option maxHeartbeats 40000000 in
set_option maxRecDepth 3000 in
theorem iReverse (hP : Prg P) {ip : Int} : ACall P 86 [.one (.t (.int .i64 ip))] [] (fun r ob => r = .agg [.t (.sl (encN (revOf ip)))] ∧ ob = []) := by
  generalize hh : encN (revOf ip) = hs
  refine acall_fn (md := mdV) [none] v86 hP.mixed hP.tab (fn_at hP fn86) 1 rfl (by decide +kernel) rfl ?_
  intro ar har
  cbv
  refine call_intro (iDecimals hP) ?_
  rintro r ob ⟨rfl, rfl⟩
  obtain ⟨a, b, c, d, habcd⟩ : ∃ a b c d, decS (fourB ip) = [a, b, c, d] := ⟨_, _, _, _, rfl⟩
  have hes : encS (decS (fourB ip)) = [[.str a], [.str b], [.str c], [.str d]] := by rw [habcd]; rfl
  generalize hed : encS (decS (fourB ip)) = es at hes
  cbv
  repeat' (first | (with_reducible refine and_side ?_ ?_; rotate_left; try cbv))
  case refine_1 => exact side_flatS har hed
  refine call_intro (iRev4 hP hes) ?_
  rintro r ob ⟨rfl, rfl⟩
  cbv
  repeat' (first | (with_reducible refine and_side ?_ ?_; rotate_left; try cbv))
  have hrev : [d, c, b, a] ++ [[105, 110, 45, 97, 100, 100, 114], [97, 114, 112, 97]] = revOf ip := by
    have := dec_rev ip
    rw [habcd] at this
    simpa using this
  have hshort : ∀ l ∈ revOf ip, l.length ≤ 100 := by
    intro l hl
    have := rev_short ip l hl
    omega
  rw [← hrev] at hshort
  all_goals first
    | exact ⟨⟨by subst har; show (6 : Nat) * (16 + 1) ≤ 2 ^ 46; decide, by subst har; intro x hx; simp [std] at hx; rcases hx with rfl | rfl <;> rfl⟩⟩
    | exact ⟨by subst har; intro x hx t ht; simp at hx; rcases hx with rfl | rfl | rfl | rfl <;> (simp at ht; subst ht; rfl)⟩
    | skip
  refine call_intro (iNameOf hP (n := [d, c, b, a] ++ [[105, 110, 45, 97, 100, 100, 114], [97, 114, 112, 97]]) (by subst har; rfl) (by simp) hshort) ?_
  rintro r ob ⟨rfl, rfl⟩
  rw [hrev, hh]
  cbv
  repeat' (first | (intro; cbv) | (with_reducible refine and_side ?_ ?_; rotate_left; try cbv) | (refine ChkP.mk (by decide +kernel) ?_; cbv) | (refine br_intro ?_ ?_ <;> intro <;> cbv) | (refine side_sh har ?_; decide))
  exact ⟨⟨rfl, rfl⟩⟩
end Go.TL.Tryz

/- TfShB -/
namespace Go.TL.Tryz
open Go Go.TL Go.Proofs
set_option maxRecDepth 20000
variable {P : Program}
theorem word_nat (a b c d : UInt8) : wI ((bW a <<< 24) ||| (bW b <<< 16) ||| (bW c <<< 8) ||| bW d) = iB a * 16777216 + iB b * 65536 + iB c * 256 + iB d := by
  have ha := a.toNat_lt; have hb := b.toNat_lt; have hc := c.toNat_lt; have hd := d.toNat_lt
  simp only [wI, iB, bW, BitVec.toNat_or, BitVec.toNat_shiftLeft, BitVec.toNat_ofNat]
  have e0 : ∀ x : Nat, x < 256 → x % 2 ^ 32 = x := fun x h => Nat.mod_eq_of_lt (by omega)
  rw [e0 _ ha, e0 _ hb, e0 _ hc, e0 _ hd]
  rw [Nat.mod_eq_of_lt (show a.toNat <<< 24 < 2 ^ 32 by rw [Nat.shiftLeft_eq]; omega), Nat.mod_eq_of_lt (show b.toNat <<< 16 < 2 ^ 32 by rw [Nat.shiftLeft_eq]; omega), Nat.mod_eq_of_lt (show c.toNat <<< 8 < 2 ^ 32 by rw [Nat.shiftLeft_eq]; omega)]
  rw [← Nat.shiftLeft_add_eq_or_of_lt (show b.toNat <<< 16 < 2 ^ 24 by rw [Nat.shiftLeft_eq]; omega)]
  rw [show a.toNat <<< 24 + b.toNat <<< 16 = (a.toNat * 256 + b.toNat) <<< 16 by simp only [Nat.shiftLeft_eq]; omega]
  rw [← Nat.shiftLeft_add_eq_or_of_lt (show c.toNat <<< 8 < 2 ^ 16 by rw [Nat.shiftLeft_eq]; omega)]
  rw [show (a.toNat * 256 + b.toNat) <<< 16 + c.toNat <<< 8 = (a.toNat * 65536 + b.toNat * 256 + c.toNat) <<< 8 by simp only [Nat.shiftLeft_eq]; omega]
  rw [← Nat.shiftLeft_add_eq_or_of_lt (show d.toNat < 2 ^ 8 by omega)]
  simp only [Nat.shiftLeft_eq]
  omega
theorem getS_word {b : List UInt8} {i : Nat} (h : 4 * i + 4 ≤ b.length) : getS b ((4 * i : Nat) : Int) 4 = (iB (b.getD (4 * i) 0) * 16777216 + iB (b.getD (4 * i + 1) 0) * 65536 + iB (b.getD (4 * i + 2) 0) * 256 + iB (b.getD (4 * i + 3) 0), ((4 * i : Nat) : Int) + 4) := by
  rw [getS, if_neg (by omega)]
  have e : subB b ((4 * i : Nat) : Int) 4 = [b.getD (4 * i) 0, b.getD (4 * i + 1) 0, b.getD (4 * i + 2) 0, b.getD (4 * i + 3) 0] := by
    unfold subB
    rw [show (((4 * i : Nat) : Int) + 4).toNat = 4 * i + 4 by omega, Int.toNat_natCast, List.drop_take, show 4 * i + 4 - 4 * i = 4 by omega]
    rw [List.drop_eq_getElem_cons (by omega), List.drop_eq_getElem_cons (by omega), List.drop_eq_getElem_cons (by omega), List.drop_eq_getElem_cons (by omega)]
    simp only [List.take_succ_cons, List.take_zero]
    simp only [List.getD, List.getElem?_eq_getElem (show 4 * i < b.length by omega), List.getElem?_eq_getElem (show 4 * i + 1 < b.length by omega), List.getElem?_eq_getElem (show 4 * i + 2 < b.length by omega), List.getElem?_eq_getElem (show 4 * i + 3 < b.length by omega), Option.getD_some]
  rw [e, getV_four]
theorem conv_word (b : List UInt8) (i : Nat) : std.conv .u32 (iB (b.getD (4 * i) 0) * 16777216 + iB (b.getD (4 * i + 1) 0) * 65536 + iB (b.getD (4 * i + 2) 0) * 256 + iB (b.getD (4 * i + 3) 0)) = wI (word4 b i) := by
  rw [word4, word_nat]
  have a1 := iB_lo (b.getD (4 * i) 0); have a2 := iB_hi (b.getD (4 * i) 0)
  have b1 := iB_lo (b.getD (4 * i + 1) 0); have b2 := iB_hi (b.getD (4 * i + 1) 0)
  have c1 := iB_lo (b.getD (4 * i + 2) 0); have c2 := iB_hi (b.getD (4 * i + 2) 0)
  have d1 := iB_lo (b.getD (4 * i + 3) 0); have d2 := iB_hi (b.getD (4 * i + 3) 0)
  exact wrap_u32 (by omega)
set_option maxRecDepth 20000 in
theorem fn171 : Tryz.prog.funcs[171]? = some Tryz.f171 := rfl
set_option maxHeartbeats 40000000 in
set_option maxRecDepth 3000 in
theorem iRot (hP : Prg P) {x : Wd} {xx n : Int} (hx : wI x = xx) {k : Nat} {q : Int} (hq : q.toNat = k) (hn : iopS .and .u64 (IntKind.u64.wrap n) 31 = 32 - q) (hk : 1 ≤ q ∧ q ≤ 31) : ACall P 171 [.one (.t (.int .u32 xx)), .one (.t (.int .i64 n))] [] (fun r ob => r = .one (.t (.int .u32 (wI (rotr x k)))) ∧ ob = []) := by
  refine acall_fn (md := md) [none] v171 hP.mixed hP.tab (fn_at hP fn171) 2 rfl (by decide +kernel) rfl ?_
  intro ar har
  cbv
  repeat' (first | (intro; cbv) | (with_reducible refine and_side ?_ ?_; rotate_left; try cbv))
  case refine_2.refine_2 =>
    subst har; subst hx
    refine ⟨⟨?_, rfl⟩⟩
    have hs : iopS .sub .u64 32 (32 - q) = q := by
      show IntKind.u64.wrap ((32 : Int) - (32 - q)) = q
      rw [show (32 : Int) - (32 - q) = q by omega]
      exact wrap_id (by simp [IntKind.has, IntKind.min, IntKind.max, IntKind.signed, IntKind.bits]; omega)
    show A.one (V.t (T.int .u32 (iopS .or .u32 (iopS .shl .u32 (wI x) (iopS .and .u64 (IntKind.u64.wrap n) 31)) (iopS .shr .u32 (wI x) (iopS .sub .u64 32 (iopS .and .u64 (IntKind.u64.wrap n) 31)))))) = _
    rw [hn, hs, shl32 x (k := 32 - k) (by omega) (by omega), shr32 x (k := k) (by omega) (by omega), or32, rotr, BitVec.or_comm]
  case refine_2.refine_1 =>
    subst har
    refine ⟨?_⟩
    show (0 : Int) ≤ iopS .sub .u64 32 (iopS .and .u64 (IntKind.u64.wrap n) 31)
    have hs : iopS .sub .u64 32 (32 - q) = q := by
      show IntKind.u64.wrap ((32 : Int) - (32 - q)) = q
      rw [show (32 : Int) - (32 - q) = q by omega]
      exact wrap_id (by simp [IntKind.has, IntKind.min, IntKind.max, IntKind.signed, IntKind.bits]; omega)
    rw [hn, hs]; omega
  case refine_1 =>
    subst har
    refine ⟨?_⟩
    show (0 : Int) ≤ iopS .and .u64 (IntKind.u64.wrap n) 31
    rw [hn]; omega
set_option maxRecDepth 20000 in
theorem fn170 : Tryz.prog.funcs[170]? = some Tryz.f170 := rfl
set_option maxHeartbeats 40000000 in
set_option maxRecDepth 3000 in
theorem iTurn (hP : Prg P) {x : Wd} {xx n : Int} (hx : wI x = xx) {k : Nat} {q : Int} (hq : q.toNat = k) (hn : iopS .and .u64 (IntKind.u64.wrap (IntKind.i64.wrap (0 - n))) 31 = 32 - q) (hk : 1 ≤ q ∧ q ≤ 31) : ACall P 170 [.one (.t (.int .u32 xx)), .one (.t (.int .i64 n))] [] (fun r ob => r = .one (.t (.int .u32 (wI (rotr x k)))) ∧ ob = []) := by
  refine acall_fn (md := md) [none] v170 hP.mixed hP.tab (fn_at hP fn170) 2 rfl (by decide +kernel) rfl ?_
  intro ar har
  cbv
  repeat' (first | (intro; cbv))
  refine call_intro (iRot hP hx hq (by subst har; exact hn) hk) ?_
  rintro r ob ⟨rfl, rfl⟩
  generalize hrr : wI (rotr x k) = rr
  cbv
  repeat' (first | (intro; cbv) | (with_reducible refine and_side ?_ ?_; rotate_left; try cbv) | (refine ChkP.mk (by decide +kernel) ?_; cbv) | (refine br_intro ?_ ?_ <;> intro <;> cbv) | (refine get_at har (by assumption) (by assumption) (by assumption) (by assumption) ?_; cbv) | (refine get_lt har (by assumption) (by assumption) (by assumption) ?_; intro x xx hx hxx; cbv) | (refine get_atN har (by assumption) (by assumption) (by assumption) (by assumption) ?_; cbv) | (refine get_ltN har (by assumption) (by assumption) (by assumption) ?_; intro x xx hx hxx; cbv) | (refine get_atI har (by assumption) (by assumption) (by decide) ?_; cbv) | (refine get_twoA har (by assumption) (by assumption) (by decide) ?_; intro x hx; cbv) | (refine get_twoB har (by assumption) (by assumption) (by decide) ?_; intro x hx; cbv) | (refine bytes_intro (by assumption) ?_; cbv) | (exact side_lt har (by assumption) (by assumption)) | (exact side_inb har (by assumption) (by assumption) (by assumption)) | (exact side_sh har (by decide)) | (exact side_app har (by assumption) (by assumption) (by omega)) | (exact side_app0 har (by assumption) (by omega)) | (exact side_new har (by assumption) (by omega)) | (exact side_one har (by assumption) (by omega)) | (exact side_oneN har (by assumption) (by omega)) | (exact side_flat har (by assumption)) | (exact side_sbig har (by omega)) | (refine side_sbig har ?_; simp; done) | (exact side_oneI har (by assumption) (by omega)) | (refine side_ix har ?_; simp; done) | (refine side_ix har ?_; simp; omega))
  exact ⟨⟨rfl, rfl⟩⟩

end Go.TL.Tryz

/- TfShC -/
namespace Go.TL.Tryz
open Go Go.TL Go.Proofs
set_option maxRecDepth 20000
variable {P : Program}
def boxS (a b c d e f g h : Int) : Ob := .box [.row 1 0, .t (.int .u32 a), .t (.int .u32 b), .t (.int .u32 c), .t (.int .u32 d), .t (.int .u32 e), .t (.int .u32 f), .t (.int .u32 g), .t (.int .u32 h)] false
/-- The first ones of the second list, the others of the first. -/
def mixN (n : Nat) (x y : N8) : N8 := match n with
  | 0 => x
  | 1 => ⟨y.a, x.b, x.c, x.d, x.e, x.f, x.g, x.h⟩
  | 2 => ⟨y.a, y.b, x.c, x.d, x.e, x.f, x.g, x.h⟩
  | 3 => ⟨y.a, y.b, y.c, x.d, x.e, x.f, x.g, x.h⟩
  | 4 => ⟨y.a, y.b, y.c, y.d, x.e, x.f, x.g, x.h⟩
  | 5 => ⟨y.a, y.b, y.c, y.d, y.e, x.f, x.g, x.h⟩
  | 6 => ⟨y.a, y.b, y.c, y.d, y.e, y.f, x.g, x.h⟩
  | 7 => ⟨y.a, y.b, y.c, y.d, y.e, y.f, y.g, x.h⟩
  | _ => y
theorem side_x {ar : Ar} (har : ar = std) {l : List Wd} {es : List (List T)} {i : Int} (hes : encU l = es) (hl : l.length = 64) (h : 0 ≤ i ∧ i < 64) : Side (ar.inb i es) := by
  have := encU_len hes
  subst har
  exact ⟨by simp [std]; omega⟩
set_option maxRecDepth 20000 in
theorem fn156 : Tryz.prog.funcs[156]? = some Tryz.f156 := rfl
set_option maxHeartbeats 40000000 in
set_option maxRecDepth 3000 in
theorem iBlock (hP : Prg P) {v : V8} {a1 b1 c1 d1 e1 f1 g1 h1 : Int} (hv : V8R v a1 b1 c1 d1 e1 f1 g1 h1) {b : List UInt8} {bs : List (List T)} (hb : encB b = bs) (hbl : b.length = 64) {ks : List (List T)} (hks : encU kC = ks) :
    ACall P 156 [.one (.ptr 0 0), .one (.t (.sl bs))] [(0, boxS a1 b1 c1 d1 e1 f1 g1 h1), (1, .row 1 ks 0 [0] false)]
      (fun r ob => ∃ n : N8, V8R (blockV kC v b) n.a n.b n.c n.d n.e n.f n.g n.h ∧ r = .tup [] ∧ ob = [(0, boxS n.a n.b n.c n.d n.e n.f n.g n.h), (1, .row 1 ks 0 [0] false)]) := by
  generalize hKK : (fun (r : A) (ob : Obs) => ∃ n : N8, V8R (blockV kC v b) n.a n.b n.c n.d n.e n.f n.g n.h ∧ r = A.tup [] ∧ ob = [(0, boxS n.a n.b n.c n.d n.e n.f n.g n.h), (1, Ob.row 1 ks 0 [0] false)]) = K
  have hkl : kC.length = 64 := rfl
  generalize hkk : kC = kk at *
  have hksl := encU_len hks
  refine acall_fn (md := md) [none] v156 hP.mixed hP.tab (fn_at hP fn156) 2 rfl (by decide +kernel) rfl ?_
  intro ar har
  cbv
  repeat' (first | (with_reducible refine and_side ?_ ?_; rotate_left; try cbv))
  case refine_1 => exact ⟨by subst har; simp [std]⟩
  refine loop_start [] [] ?_
  cbv
  refine LoopR.mk (List Wd × List (List T) × Int) (fun x => ([(18, .one (.t (.int .i64 x.2.2)))], [(16, .row 1 x.2.1 0 [0] false)])) (fun x => encU x.1 = x.2.1 ∧ 0 ≤ x.2.2 ∧ x.2.2 ≤ 16 ∧ x.1 = sch1 b x.2.2.toNat) (fun x => 16 - x.2.2.toNat) (List.replicate 64 0, ar.rep 64 [.int .u32 0], 0) ?e ?f ?g
  case e => kernel_rfl
  case f => exact ⟨by subst har; exact encU_zero rfl, Int.le_refl _, (by decide : (0 : Int) ≤ 16), rfl⟩
  case g =>
    intro x hx
    obtain ⟨ws, wss, i⟩ := x
    have hws : encU ws = wss := hx.1
    have hi0 : 0 ≤ i := hx.2.1
    have hi16 : i ≤ 16 := hx.2.2.1
    have hwv : ws = sch1 b i.toNat := hx.2.2.2
    clear hx
    have hwl : ws.length = 64 := by rw [hwv]; exact sch1_len b _
    have hwsl := encU_len hws
    have e4 : iopS .mul .i64 4 i = 4 * i := mulI (by omega) (by omega)
    cbv
    repeat' (first | (intro; cbv) | (refine br_intro ?_ ?_ <;> intro <;> cbv))
    case refine_1 =>
      have hlt := lt_cmp har (by assumption : ar.icmp .lss i 16 = true)
      have eidx : ar.iop .mul .i64 4 i = ((4 * i.toNat : Nat) : Int) := by subst har; show iopS .mul .i64 4 i = _; rw [e4]; omega
      have hW : std.conv .u32 (getS b (ar.iop .mul .i64 4 i) 4).1 = wI (word4 b i.toNat) := by rw [eidx, getS_word (by omega)]; exact conv_word b i.toNat
      refine call_intro (iGet hP (b := b) (i := ar.iop .mul .i64 4 i) (k := 4) hb (by omega) (by decide)) ?_
      rintro r ob ⟨rfl, rfl⟩
      generalize hgs : getS b (ar.iop .mul .i64 4 i) 4 = gs at hW ⊢
      obtain ⟨gv, ga⟩ := gs
      dsimp only at hW ⊢
      clear eidx
      cbv
      repeat' (first | (intro; cbv) | (with_reducible refine and_side ?_ ?_; rotate_left; try cbv))
      case refine_1 => exact side_x har hws hwl ⟨hi0, by omega⟩
      case refine_2.refine_1 => exact side_x har hws hwl ⟨hi0, by omega⟩
      case refine_2.refine_2 =>
        have hi : ar.iop .add .i64 i 1 = i + 1 := add_std har (by omega) (by omega)
        refine ⟨(ws.set i.toNat (word4 b i.toNat), ar.setc wss i 0 [.int .u32 (ar.conv .u32 gv)], i + 1), by rw [← hi]; kernel_rfl, ⟨?_, by dsimp only; omega, by dsimp only; omega, ?_⟩, by dsimp only; omega⟩
        · subst har; exact (encU_set hws hW.symm).symm
        · rw [show (i + 1).toNat = i.toNat + 1 by omega, hwv]; rfl
    case refine_2 =>
      have hi16e := ge_cmp har (by assumption : ar.icmp .lss i 16 = false)
      have hie : i.toNat = 16 := by omega
      rw [hie] at hwv
      clear hi0 hi16 hi16e hie e4
      refine loop_start [18, 19] [] ?_
      cbv
      refine LoopR.mk (List Wd × List (List T) × Int) (fun x => ([(9, .one (.t (.int .i64 x.2.2)))], [(16, .row 1 x.2.1 0 [0] false)])) (fun x => encU x.1 = x.2.1 ∧ 16 ≤ x.2.2 ∧ x.2.2 ≤ 64 ∧ x.1 = sch2 ws (x.2.2.toNat - 16)) (fun x => 64 - x.2.2.toNat) (ws, wss, 16) ?e2 ?f2 ?g2
      case e2 => kernel_rfl
      case f2 => exact ⟨hws, Int.le_refl _, (by decide : (16 : Int) ≤ 64), rfl⟩
      case g2 =>
        intro x hx
        obtain ⟨us, uss, i⟩ := x
        have hus : encU us = uss := hx.1
        have hi0 : 16 ≤ i := hx.2.1
        have hi64 : i ≤ 64 := hx.2.2.1
        have huv : us = sch2 ws (i.toNat - 16) := hx.2.2.2
        clear hx
        have hul : us.length = 64 := by rw [huv]; exact sch2_len hwl _
        have husl := encU_len hus
        have s15 : i < 64 → ar.iop .sub .i64 i 15 = i - 15 := fun h => sub_std har (by omega) (by omega)
        have s2 : i < 64 → ar.iop .sub .i64 i 2 = i - 2 := fun h => sub_std har (by omega) (by omega)
        have s16 : i < 64 → ar.iop .sub .i64 i 16 = i - 16 := fun h => sub_std har (by omega) (by omega)
        have s7 : i < 64 → ar.iop .sub .i64 i 7 = i - 7 := fun h => sub_std har (by omega) (by omega)
        cbv
        repeat' (first | (with_reducible refine and_side ?_ ?_; rotate_left; try cbv) | (refine br_intro ?_ ?_ <;> intro <;> cbv))
        case refine_1.refine_1 =>
          have hlt := lt_cmp har (by assumption : ar.icmp .lss i 64 = true)
          exact side_x har hus hul (by show 0 ≤ ar.iop .sub .i64 i 15 ∧ ar.iop .sub .i64 i 15 < 64; rw [s15 hlt]; omega)
        case refine_1.refine_2 =>
          have hlt := lt_cmp har (by assumption : ar.icmp .lss i 64 = true)
          refine get_wordJ har (i.toNat - 15) hus (by show ar.iop .sub .i64 i 15 = _; rw [s15 hlt]; omega) (by omega) fun y1 hy1 => ?_
          cbv
          repeat' (first | (with_reducible refine and_side ?_ ?_; rotate_left; try cbv))
          case refine_1 => exact side_x har hus hul (by show 0 ≤ ar.iop .sub .i64 i 2 ∧ ar.iop .sub .i64 i 2 < 64; rw [s2 hlt]; omega)
          refine get_wordJ har (i.toNat - 2) hus (by show ar.iop .sub .i64 i 2 = _; rw [s2 hlt]; omega) (by omega) fun y2 hy2 => ?_
          cbv
          repeat' (first | (intro; cbv) | (with_reducible refine and_side ?_ ?_; rotate_left; try cbv) | (refine ChkP.mk (by decide +kernel) ?_; cbv))
          case refine_2.refine_1 => exact side_x har hus hul (by show 0 ≤ ar.iop .sub .i64 i 16 ∧ ar.iop .sub .i64 i 16 < 64; rw [s16 hlt]; omega)
          refine get_wordJ har (i.toNat - 16) hus (by show ar.iop .sub .i64 i 16 = _; rw [s16 hlt]; omega) (by omega) fun y3 hy3 => ?_
          cbv
          repeat' (first | (with_reducible refine and_side ?_ ?_; rotate_left; try cbv))
          case refine_1 => exact side_x har hus hul (by show 0 ≤ ar.iop .sub .i64 i 7 ∧ ar.iop .sub .i64 i 7 < 64; rw [s7 hlt]; omega)
          refine get_wordJ har (i.toNat - 7) hus (by show ar.iop .sub .i64 i 7 = _; rw [s7 hlt]; omega) (by omega) fun y4 hy4 => ?_
          cbv
          repeat' (first | (intro; cbv) | (with_reducible refine and_side ?_ ?_; rotate_left; try cbv) | (refine ChkP.mk (by decide +kernel) ?_; cbv) | (exact side_sh har (by decide)) | (refine calld_intro (iTurn hP (by assumption) (k := 7) (q := 7) (by decide) (by decide +kernel) (by decide)) ?_; generalize hr7 : wI (rotr _ 7) = r7; cbv) | (refine calld_intro (iTurn hP (by assumption) (k := 18) (q := 18) (by decide) (by decide +kernel) (by decide)) ?_; generalize hr18 : wI (rotr _ 18) = r18; cbv) | (refine calld_intro (iTurn hP (by assumption) (k := 17) (q := 17) (by decide) (by decide +kernel) (by decide)) ?_; generalize hr17 : wI (rotr _ 17) = r17; cbv) | (refine calld_intro (iTurn hP (by assumption) (k := 19) (q := 19) (by decide) (by decide +kernel) (by decide)) ?_; generalize hr19 : wI (rotr _ 19) = r19; cbv))
          case refine_2.refine_2.refine_2.refine_2.refine_2.refine_1 => exact side_x har hus hul ⟨by omega, hlt⟩
          case refine_2.refine_2.refine_2.refine_2.refine_2.refine_2.refine_1 => exact side_x har hus hul ⟨by omega, hlt⟩
          have hW : wI (wNext us i.toNat) = ar.iop .add .u32 (ar.iop .add .u32 (ar.iop .add .u32 y3 y4) (ar.iop .xor .u32 (ar.iop .xor .u32 r7 r18) (ar.iop .shr .u32 y1 3))) (ar.iop .xor .u32 (ar.iop .xor .u32 r17 r19) (ar.iop .shr .u32 y2 10)) := by
            subst har; subst hr7; subst hr18; subst hr17; subst hr19; subst hy1; subst hy2; subst hy3; subst hy4
            show _ = iopS .add .u32 (iopS .add .u32 (iopS .add .u32 (wI _) (wI _)) (iopS .xor .u32 (iopS .xor .u32 (wI _) (wI _)) (iopS .shr .u32 (wI _) 3))) (iopS .xor .u32 (iopS .xor .u32 (wI _) (wI _)) (iopS .shr .u32 (wI _) 10))
            rw [xor32, xor32, shr32 _ (k := 3) rfl (by decide), shr32 _ (k := 10) rfl (by decide), xor32, xor32, add32, add32, add32, wNext]
            refine congrArg wI ?_
            rw [show wAt us (i.toNat - 16) + sg0 (wAt us (i.toNat - 15)) + wAt us (i.toNat - 7) = wAt us (i.toNat - 16) + wAt us (i.toNat - 7) + sg0 (wAt us (i.toNat - 15)) by ac_rfl]
            rfl
          generalize hWW : ar.iop .add .u32 (ar.iop .add .u32 (ar.iop .add .u32 y3 y4) (ar.iop .xor .u32 (ar.iop .xor .u32 r7 r18) (ar.iop .shr .u32 y1 3))) (ar.iop .xor .u32 (ar.iop .xor .u32 r17 r19) (ar.iop .shr .u32 y2 10)) = WW at hW
          have hi : ar.iop .add .i64 i 1 = i + 1 := add_std har (by omega) (by omega)
          refine ⟨(us.set i.toNat (wNext us i.toNat), ar.setc uss i 0 [.int .u32 WW], i + 1), by rw [← hi, ← hWW]; kernel_rfl, ⟨?_, by dsimp only; omega, by dsimp only; omega, ?_⟩, by dsimp only; omega⟩
          · subst har; exact (encU_set hus hW).symm
          · rw [show (i + 1).toNat - 16 = (i.toNat - 16) + 1 by omega, sch2, ← huv, show 16 + (i.toNat - 16) = i.toNat by omega]
        case refine_2 =>
          have hi64e := ge_cmp har (by assumption : ar.icmp .lss i 64 = false)
          have hie : i.toNat - 16 = 48 := by omega
          rw [hie, hwv] at huv
          clear hi0 hi64 hi64e hie hwv hws hwl hwsl s15 s2 s16 s7
          refine loop_start [9, 35] [] ?_
          cbv
          refine LoopR.mk (V8 × N8 × Int) (fun x => ([(88, .one (.t (.int .i64 x.2.2)))], [(17, .box [.t (.int .u32 x.2.1.a), .t (.int .u32 x.2.1.b), .t (.int .u32 x.2.1.c), .t (.int .u32 x.2.1.d), .t (.int .u32 x.2.1.e), .t (.int .u32 x.2.1.f), .t (.int .u32 x.2.1.g), .t (.int .u32 x.2.1.h)] false)]))
            (fun x => V8R x.1 x.2.1.a x.2.1.b x.2.1.c x.2.1.d x.2.1.e x.2.1.f x.2.1.g x.2.1.h ∧ 0 ≤ x.2.2 ∧ x.2.2 ≤ 64 ∧ x.1 = rnds kk us v x.2.2.toNat) (fun x => 64 - x.2.2.toNat) (v, ⟨a1, b1, c1, d1, e1, f1, g1, h1⟩, 0) ?e3 ?f3 ?g3
          case e3 => kernel_rfl
          case f3 => exact ⟨hv, Int.le_refl _, (by decide : (0 : Int) ≤ 64), rfl⟩
          case g3 =>
            intro x hx
            obtain ⟨u, ⟨a2, b2, c2, d2, e2, f2, g2, h2⟩, i⟩ := x
            have hu : V8R u a2 b2 c2 d2 e2 f2 g2 h2 := hx.1
            have hi0 : 0 ≤ i := hx.2.1
            have hi64 : i ≤ 64 := hx.2.2.1
            have huu : u = rnds kk us v i.toNat := hx.2.2.2
            clear hx
            obtain ⟨ua, ub, uc, ud, ue, uf, ug, uh⟩ := hu
            cbv
            repeat' (first | (with_reducible refine and_side ?_ ?_; rotate_left; try cbv) | (refine br_intro ?_ ?_ <;> intro <;> cbv) | (refine calld_intro (iTurn hP (by assumption) (k := 6) (q := 6) (by decide) (by decide +kernel) (by decide)) ?_; generalize hr6 : wI (rotr _ 6) = r6; cbv) | (refine calld_intro (iTurn hP (by assumption) (k := 11) (q := 11) (by decide) (by decide +kernel) (by decide)) ?_; generalize hr11 : wI (rotr _ 11) = r11; cbv) | (refine calld_intro (iTurn hP (by assumption) (k := 25) (q := 25) (by decide) (by decide +kernel) (by decide)) ?_; generalize hr25 : wI (rotr _ 25) = r25; cbv))
            case refine_1.refine_1 =>
              have hlt := lt_cmp har (by assumption : ar.icmp .lss i 64 = true)
              exact side_x har hks hkl ⟨hi0, hlt⟩
            case refine_1.refine_2 =>
              have hlt := lt_cmp har (by assumption : ar.icmp .lss i 64 = true)
              refine get_wordJ har i.toNat hks (by omega) (by omega) fun rk hrk => ?_
              cbv
              repeat' (first | (with_reducible refine and_side ?_ ?_; rotate_left; try cbv))
              case refine_1 => exact side_x har hus hul ⟨hi0, hlt⟩
              refine get_wordJ har i.toNat hus (by omega) (by omega) fun yw hyw => ?_
              cbv
              repeat' (first | (intro; cbv) | (refine ChkP.mk (by decide +kernel) ?_; cbv) | (refine calld_intro (iTurn hP (by assumption) (k := 2) (q := 2) (by decide) (by decide +kernel) (by decide)) ?_; generalize hr2 : wI (rotr _ 2) = r2; cbv) | (refine calld_intro (iTurn hP (by assumption) (k := 13) (q := 13) (by decide) (by decide +kernel) (by decide)) ?_; generalize hr13 : wI (rotr _ 13) = r13; cbv) | (refine calld_intro (iTurn hP (by assumption) (k := 22) (q := 22) (by decide) (by decide +kernel) (by decide)) ?_; generalize hr22 : wI (rotr _ 22) = r22; cbv))
              have hT : wI (u.h + bg1 u.e + ((u.e &&& u.f) ^^^ (~~~ u.e &&& u.g)) + wAt kk i.toNat + wAt us i.toNat) = ar.iop .add .u32 (ar.iop .add .u32 (ar.iop .add .u32 (ar.iop .add .u32 h2 (ar.iop .xor .u32 (ar.iop .xor .u32 r6 r11) r25)) (ar.iop .xor .u32 (ar.iop .and .u32 e2 f2) (ar.iop .and .u32 (ar.compl .u32 e2) g2))) rk) yw := by
                subst har; subst ua; subst ub; subst uc; subst ud; subst ue; subst uf; subst ug; subst uh; subst hr6; subst hr11; subst hr25; subst hrk; subst hyw
                show _ = iopS .add .u32 (iopS .add .u32 (iopS .add .u32 (iopS .add .u32 (wI _) (iopS .xor .u32 (iopS .xor .u32 (wI _) (wI _)) (wI _))) (iopS .xor .u32 (iopS .and .u32 (wI _) (wI _)) (iopS .and .u32 (std.compl .u32 (wI _)) (wI _)))) (wI _)) (wI _)
                rw [not32, xor32, xor32, and32, and32, xor32, add32, add32, add32, add32]
                rfl
              have hA : wI (u.h + bg1 u.e + ((u.e &&& u.f) ^^^ (~~~ u.e &&& u.g)) + wAt kk i.toNat + wAt us i.toNat + bg0 u.a + ((u.a &&& u.b) ^^^ (u.a &&& u.c) ^^^ (u.b &&& u.c))) = ar.iop .add .u32 (ar.iop .add .u32 (ar.iop .add .u32 (ar.iop .add .u32 (ar.iop .add .u32 h2 (ar.iop .xor .u32 (ar.iop .xor .u32 r6 r11) r25)) (ar.iop .xor .u32 (ar.iop .and .u32 e2 f2) (ar.iop .and .u32 (ar.compl .u32 e2) g2))) rk) yw) (ar.iop .add .u32 (ar.iop .xor .u32 (ar.iop .xor .u32 r2 r13) r22) (ar.iop .xor .u32 (ar.iop .xor .u32 (ar.iop .and .u32 a2 b2) (ar.iop .and .u32 a2 c2)) (ar.iop .and .u32 b2 c2))) := by
                rw [← hT]
                subst har; subst ua; subst ub; subst uc; subst hr2; subst hr13; subst hr22
                show _ = iopS .add .u32 (wI _) (iopS .add .u32 (iopS .xor .u32 (iopS .xor .u32 (wI _) (wI _)) (wI _)) (iopS .xor .u32 (iopS .xor .u32 (iopS .and .u32 (wI _) (wI _)) (iopS .and .u32 (wI _) (wI _))) (iopS .and .u32 (wI _) (wI _))))
                rw [xor32, xor32, and32, and32, and32, xor32, xor32, add32, add32, BitVec.add_assoc]
                rfl
              have hE : wI (u.d + (u.h + bg1 u.e + ((u.e &&& u.f) ^^^ (~~~ u.e &&& u.g)) + wAt kk i.toNat + wAt us i.toNat)) = ar.iop .add .u32 d2 (ar.iop .add .u32 (ar.iop .add .u32 (ar.iop .add .u32 (ar.iop .add .u32 h2 (ar.iop .xor .u32 (ar.iop .xor .u32 r6 r11) r25)) (ar.iop .xor .u32 (ar.iop .and .u32 e2 f2) (ar.iop .and .u32 (ar.compl .u32 e2) g2))) rk) yw) := by
                rw [← hT]
                subst har; subst ud
                show _ = iopS .add .u32 (wI _) (wI _)
                rw [add32]
              generalize hAA : ar.iop .add .u32 (ar.iop .add .u32 (ar.iop .add .u32 (ar.iop .add .u32 (ar.iop .add .u32 h2 (ar.iop .xor .u32 (ar.iop .xor .u32 r6 r11) r25)) (ar.iop .xor .u32 (ar.iop .and .u32 e2 f2) (ar.iop .and .u32 (ar.compl .u32 e2) g2))) rk) yw) (ar.iop .add .u32 (ar.iop .xor .u32 (ar.iop .xor .u32 r2 r13) r22) (ar.iop .xor .u32 (ar.iop .xor .u32 (ar.iop .and .u32 a2 b2) (ar.iop .and .u32 a2 c2)) (ar.iop .and .u32 b2 c2))) = AA at hA
              generalize hEE : ar.iop .add .u32 d2 (ar.iop .add .u32 (ar.iop .add .u32 (ar.iop .add .u32 (ar.iop .add .u32 h2 (ar.iop .xor .u32 (ar.iop .xor .u32 r6 r11) r25)) (ar.iop .xor .u32 (ar.iop .and .u32 e2 f2) (ar.iop .and .u32 (ar.compl .u32 e2) g2))) rk) yw) = EE at hE
              have hi : ar.iop .add .i64 i 1 = i + 1 := add_std har (by omega) (by omega)
              refine ⟨(rnd u (wAt kk i.toNat) (wAt us i.toNat), ⟨AA, a2, b2, c2, EE, e2, f2, g2⟩, i + 1), by rw [← hi, ← hAA, ← hEE]; kernel_rfl, ⟨⟨hA, ua, ub, uc, hE, ue, uf, ug⟩, by dsimp only; omega, by dsimp only; omega, ?_⟩, by dsimp only; omega⟩
              rw [show (i + 1).toNat = i.toNat + 1 by omega, rnds, ← huu]
            case refine_2 =>
              have hi64e := ge_cmp har (by assumption : ar.icmp .lss i 64 = false)
              have hie : i.toNat = 64 := by omega
              rw [hie] at huu
              clear hi0 hi64 hi64e hie
              refine loop_start [88, 89] [] ?_
              cbv
              refine LoopR.mk (Int × Nat × N8) (fun x => ([(187, .one (.t (.int .i64 x.1)))], [(0, .box [.row 1 0, .t (.int .u32 x.2.2.a), .t (.int .u32 x.2.2.b), .t (.int .u32 x.2.2.c), .t (.int .u32 x.2.2.d), .t (.int .u32 x.2.2.e), .t (.int .u32 x.2.2.f), .t (.int .u32 x.2.2.g), .t (.int .u32 x.2.2.h)] false)]))
                (fun x => 0 ≤ x.1 ∧ x.1.toNat = x.2.1 ∧ x.2.1 ≤ 8 ∧ x.2.2 = mixN x.2.1 ⟨a1, b1, c1, d1, e1, f1, g1, h1⟩ ⟨ar.iop .add .u32 a1 a2, ar.iop .add .u32 b1 b2, ar.iop .add .u32 c1 c2, ar.iop .add .u32 d1 d2, ar.iop .add .u32 e1 e2, ar.iop .add .u32 f1 f2, ar.iop .add .u32 g1 g2, ar.iop .add .u32 h1 h2⟩) (fun x => 8 - x.2.1) (0, 0, ⟨a1, b1, c1, d1, e1, f1, g1, h1⟩) ?e4 ?f4 ?g4
              case e4 => kernel_rfl
              case f4 => exact ⟨Int.le_refl _, rfl, Nat.zero_le _, rfl⟩
              case g4 =>
                intro x hx
                obtain ⟨i, n, m⟩ := x
                have hi0 : 0 ≤ i := hx.1
                have hin : i.toNat = n := hx.2.1
                have hn8 : n ≤ 8 := hx.2.2.1
                have hm : m = mixN n ⟨a1, b1, c1, d1, e1, f1, g1, h1⟩ ⟨ar.iop .add .u32 a1 a2, ar.iop .add .u32 b1 b2, ar.iop .add .u32 c1 c2, ar.iop .add .u32 d1 d2, ar.iop .add .u32 e1 e2, ar.iop .add .u32 f1 f2, ar.iop .add .u32 g1 g2, ar.iop .add .u32 h1 h2⟩ := hx.2.2.2
                clear hx
                have hcase := nine hi0 hin hn8
                clear hi0 hin hn8
                rcases hcase with ⟨rfl, rfl⟩ | ⟨rfl, rfl⟩ | ⟨rfl, rfl⟩ | ⟨rfl, rfl⟩ | ⟨rfl, rfl⟩ | ⟨rfl, rfl⟩ | ⟨rfl, rfl⟩ | ⟨rfl, rfl⟩ | ⟨rfl, rfl⟩
                all_goals subst hm
                all_goals cbv
                all_goals (repeat' (first | (intro; cbv) | (refine ChkP.mk (by decide +kernel) ?_; cbv) | (refine br_intro ?_ ?_ <;> intro <;> cbv)))
                case inl.refine_1 => exact ⟨(ar.iop .add .i64 0 1, 1, mixN 1 ⟨a1, b1, c1, d1, e1, f1, g1, h1⟩ ⟨ar.iop .add .u32 a1 a2, ar.iop .add .u32 b1 b2, ar.iop .add .u32 c1 c2, ar.iop .add .u32 d1 d2, ar.iop .add .u32 e1 e2, ar.iop .add .u32 f1 f2, ar.iop .add .u32 g1 g2, ar.iop .add .u32 h1 h2⟩), by kernel_rfl, ⟨by show (0 : Int) ≤ ar.iop .add .i64 0 1; subst har; decide +kernel, by show (ar.iop .add .i64 0 1).toNat = 1; subst har; decide +kernel, by dsimp only; omega, rfl⟩, by dsimp only; omega⟩
                case inl.refine_2 => exact absurd (by assumption : ar.icmp .lss 0 8 = false) (by subst har; decide)
                case inr.inl.refine_1 => exact ⟨(ar.iop .add .i64 1 1, 2, mixN 2 ⟨a1, b1, c1, d1, e1, f1, g1, h1⟩ ⟨ar.iop .add .u32 a1 a2, ar.iop .add .u32 b1 b2, ar.iop .add .u32 c1 c2, ar.iop .add .u32 d1 d2, ar.iop .add .u32 e1 e2, ar.iop .add .u32 f1 f2, ar.iop .add .u32 g1 g2, ar.iop .add .u32 h1 h2⟩), by kernel_rfl, ⟨by show (0 : Int) ≤ ar.iop .add .i64 1 1; subst har; decide +kernel, by show (ar.iop .add .i64 1 1).toNat = 2; subst har; decide +kernel, by dsimp only; omega, rfl⟩, by dsimp only; omega⟩
                case inr.inl.refine_2 => exact absurd (by assumption : ar.icmp .lss 1 8 = false) (by subst har; decide)
                case inr.inr.inl.refine_1 => exact ⟨(ar.iop .add .i64 2 1, 3, mixN 3 ⟨a1, b1, c1, d1, e1, f1, g1, h1⟩ ⟨ar.iop .add .u32 a1 a2, ar.iop .add .u32 b1 b2, ar.iop .add .u32 c1 c2, ar.iop .add .u32 d1 d2, ar.iop .add .u32 e1 e2, ar.iop .add .u32 f1 f2, ar.iop .add .u32 g1 g2, ar.iop .add .u32 h1 h2⟩), by kernel_rfl, ⟨by show (0 : Int) ≤ ar.iop .add .i64 2 1; subst har; decide +kernel, by show (ar.iop .add .i64 2 1).toNat = 3; subst har; decide +kernel, by dsimp only; omega, rfl⟩, by dsimp only; omega⟩
                case inr.inr.inl.refine_2 => exact absurd (by assumption : ar.icmp .lss 2 8 = false) (by subst har; decide)
                case inr.inr.inr.inl.refine_1 => exact ⟨(ar.iop .add .i64 3 1, 4, mixN 4 ⟨a1, b1, c1, d1, e1, f1, g1, h1⟩ ⟨ar.iop .add .u32 a1 a2, ar.iop .add .u32 b1 b2, ar.iop .add .u32 c1 c2, ar.iop .add .u32 d1 d2, ar.iop .add .u32 e1 e2, ar.iop .add .u32 f1 f2, ar.iop .add .u32 g1 g2, ar.iop .add .u32 h1 h2⟩), by kernel_rfl, ⟨by show (0 : Int) ≤ ar.iop .add .i64 3 1; subst har; decide +kernel, by show (ar.iop .add .i64 3 1).toNat = 4; subst har; decide +kernel, by dsimp only; omega, rfl⟩, by dsimp only; omega⟩
                case inr.inr.inr.inl.refine_2 => exact absurd (by assumption : ar.icmp .lss 3 8 = false) (by subst har; decide)
                case inr.inr.inr.inr.inl.refine_1 => exact ⟨(ar.iop .add .i64 4 1, 5, mixN 5 ⟨a1, b1, c1, d1, e1, f1, g1, h1⟩ ⟨ar.iop .add .u32 a1 a2, ar.iop .add .u32 b1 b2, ar.iop .add .u32 c1 c2, ar.iop .add .u32 d1 d2, ar.iop .add .u32 e1 e2, ar.iop .add .u32 f1 f2, ar.iop .add .u32 g1 g2, ar.iop .add .u32 h1 h2⟩), by kernel_rfl, ⟨by show (0 : Int) ≤ ar.iop .add .i64 4 1; subst har; decide +kernel, by show (ar.iop .add .i64 4 1).toNat = 5; subst har; decide +kernel, by dsimp only; omega, rfl⟩, by dsimp only; omega⟩
                case inr.inr.inr.inr.inl.refine_2 => exact absurd (by assumption : ar.icmp .lss 4 8 = false) (by subst har; decide)
                case inr.inr.inr.inr.inr.inl.refine_1 => exact ⟨(ar.iop .add .i64 5 1, 6, mixN 6 ⟨a1, b1, c1, d1, e1, f1, g1, h1⟩ ⟨ar.iop .add .u32 a1 a2, ar.iop .add .u32 b1 b2, ar.iop .add .u32 c1 c2, ar.iop .add .u32 d1 d2, ar.iop .add .u32 e1 e2, ar.iop .add .u32 f1 f2, ar.iop .add .u32 g1 g2, ar.iop .add .u32 h1 h2⟩), by kernel_rfl, ⟨by show (0 : Int) ≤ ar.iop .add .i64 5 1; subst har; decide +kernel, by show (ar.iop .add .i64 5 1).toNat = 6; subst har; decide +kernel, by dsimp only; omega, rfl⟩, by dsimp only; omega⟩
                case inr.inr.inr.inr.inr.inl.refine_2 => exact absurd (by assumption : ar.icmp .lss 5 8 = false) (by subst har; decide)
                case inr.inr.inr.inr.inr.inr.inl.refine_1 => exact ⟨(ar.iop .add .i64 6 1, 7, mixN 7 ⟨a1, b1, c1, d1, e1, f1, g1, h1⟩ ⟨ar.iop .add .u32 a1 a2, ar.iop .add .u32 b1 b2, ar.iop .add .u32 c1 c2, ar.iop .add .u32 d1 d2, ar.iop .add .u32 e1 e2, ar.iop .add .u32 f1 f2, ar.iop .add .u32 g1 g2, ar.iop .add .u32 h1 h2⟩), by kernel_rfl, ⟨by show (0 : Int) ≤ ar.iop .add .i64 6 1; subst har; decide +kernel, by show (ar.iop .add .i64 6 1).toNat = 7; subst har; decide +kernel, by dsimp only; omega, rfl⟩, by dsimp only; omega⟩
                case inr.inr.inr.inr.inr.inr.inl.refine_2 => exact absurd (by assumption : ar.icmp .lss 6 8 = false) (by subst har; decide)
                case inr.inr.inr.inr.inr.inr.inr.inl.refine_1 => exact ⟨(ar.iop .add .i64 7 1, 8, mixN 8 ⟨a1, b1, c1, d1, e1, f1, g1, h1⟩ ⟨ar.iop .add .u32 a1 a2, ar.iop .add .u32 b1 b2, ar.iop .add .u32 c1 c2, ar.iop .add .u32 d1 d2, ar.iop .add .u32 e1 e2, ar.iop .add .u32 f1 f2, ar.iop .add .u32 g1 g2, ar.iop .add .u32 h1 h2⟩), by kernel_rfl, ⟨by show (0 : Int) ≤ ar.iop .add .i64 7 1; subst har; decide +kernel, by show (ar.iop .add .i64 7 1).toNat = 8; subst har; decide +kernel, by dsimp only; omega, rfl⟩, by dsimp only; omega⟩
                case inr.inr.inr.inr.inr.inr.inr.inl.refine_2 => exact absurd (by assumption : ar.icmp .lss 7 8 = false) (by subst har; decide)
                case inr.inr.inr.inr.inr.inr.inr.inr.refine_1 => exact absurd (by assumption : ar.icmp .lss 8 8 = true) (by subst har; decide)
                case inr.inr.inr.inr.inr.inr.inr.inr.refine_2 =>
                  subst hKK
                  have hbv : blockV kk v b = v.add u := by rw [huu, huv]; rfl
                  refine ⟨⟨⟨ar.iop .add .u32 a1 a2, ar.iop .add .u32 b1 b2, ar.iop .add .u32 c1 c2, ar.iop .add .u32 d1 d2, ar.iop .add .u32 e1 e2, ar.iop .add .u32 f1 f2, ar.iop .add .u32 g1 g2, ar.iop .add .u32 h1 h2⟩, ?_, rfl, rfl⟩⟩
                  rw [hbv]
                  subst har
                  exact ⟨by show wI (v.a + u.a) = iopS .add .u32 a1 a2; rw [← hv.a, ← ua, add32], by show wI (v.b + u.b) = iopS .add .u32 b1 b2; rw [← hv.b, ← ub, add32], by show wI (v.c + u.c) = iopS .add .u32 c1 c2; rw [← hv.c, ← uc, add32], by show wI (v.d + u.d) = iopS .add .u32 d1 d2; rw [← hv.d, ← ud, add32], by show wI (v.e + u.e) = iopS .add .u32 e1 e2; rw [← hv.e, ← ue, add32], by show wI (v.f + u.f) = iopS .add .u32 f1 f2; rw [← hv.f, ← uf, add32], by show wI (v.g + u.g) = iopS .add .u32 g1 g2; rw [← hv.g, ← ug, add32], by show wI (v.h + u.h) = iopS .add .u32 h1 h2; rw [← hv.h, ← uh, add32]⟩
end Go.TL.Tryz
