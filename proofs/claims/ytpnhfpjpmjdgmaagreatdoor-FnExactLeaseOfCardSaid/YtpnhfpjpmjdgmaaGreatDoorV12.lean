/- Texts of a proof, joined by a program (merge.py): TfShD TfDhcI TfHouP TfHouI TfLofJ TfMarA TfHelA TfMaxA. -/
import Derived.Test.YtpnhfpjpmjdgmaaGreatDoorV11
set_option linter.all false
/- TfShD -/
namespace Go.TL.Tryz
open Go Go.TL Go.Proofs
set_option maxRecDepth 20000
variable {P : Program}
def mdS2 (n : Nat) : Md := bif eqB n 156 then ⟨[some []], true⟩ else md n
theorem fourB_nat (n : Nat) : fourB (n : Int) = [UInt8.ofNat (n / 2 ^ 24), UInt8.ofNat (n / 2 ^ 16), UInt8.ofNat (n / 2 ^ 8), UInt8.ofNat n] := by
  show [byteOf (shr8 (shr8 (n : Int) 16) 8), byteOf (shr8 (n : Int) 16), byteOf (shr8 (n : Int) 8), byteOf (n : Int)] = _
  have e : shr8 (shr8 (n : Int) 16) 8 = shr8 (n : Int) 24 := by
    rw [show shr8 (shr8 (n : Int) 16) 8 = shr8 (n : Int) 16 / 2 ^ 8 from shr8_eq _ 8 (by decide), show shr8 (n : Int) 16 = (n : Int) / 2 ^ 16 from shr8_eq _ 16 (by decide), show shr8 (n : Int) 24 = (n : Int) / 2 ^ 24 from shr8_eq _ 24 (by decide)]; omega
  rw [e]
  have h0 : byteOf (n : Int) = UInt8.ofNat n := by
    apply UInt8.toNat_inj.1
    simp only [byteOf, UInt8.toNat_ofNat']
    omega
  rw [show byteOf (shr8 (n : Int) 24) = _ from byte_shr (n := n) (j := 24) (by decide), show byteOf (shr8 (n : Int) 16) = _ from byte_shr (n := n) (j := 16) (by decide), show byteOf (shr8 (n : Int) 8) = _ from byte_shr (n := n) (j := 8) (by decide), h0]
theorem four_w {ar : Ar} (har : ar = std) {w : Wd} {x : Int} (h : wI w = x) : fourB (ar.conv .i64 x) = w4 w := by
  subst har; subst h
  have hw := w.isLt
  rw [show std.conv .i64 (wI w) = ((w.toNat : Nat) : Int) from wrap_id (by simp [wI, IntKind.has, IntKind.min, IntKind.max, IntKind.signed, IntKind.bits]; omega), fourB_nat]
  rfl
theorem cat_all (b : List UInt8) : catB [padB b, fourB 0, fourB ((8 * b.length : Nat) : Int)] = allB b := by
  rw [fourB_nat]
  rfl
theorem side_flatJ {ar : Ar} (har : ar = std) {l : List Int} {es : List (List T)} (h : encJ l = es) : Side (ar.flat es) := by
  subst har; subst h
  refine ⟨fun x hx t ht => ?_⟩
  obtain ⟨y, _, rfl⟩ := List.mem_map.1 hx
  simp at ht; subst ht; rfl
theorem side_flatU {ar : Ar} (har : ar = std) {l : List Wd} {es : List (List T)} (h : encU l = es) : Side (ar.flat es) := by
  subst har; subst h
  refine ⟨fun x hx t ht => ?_⟩
  obtain ⟨y, _, rfl⟩ := List.mem_map.1 hx
  simp at ht; subst ht; rfl
def z8 : N8 := ⟨0, 0, 0, 0, 0, 0, 0, 0⟩
def h8 : N8 := ⟨1779033703, 3144134277, 1013904242, 2773480762, 1359893119, 2600822924, 528734635, 1541459225⟩
def N8.at (n : N8) (i : Nat) : Int := [n.a, n.b, n.c, n.d, n.e, n.f, n.g, n.h].getD i 0
theorem frac_at {i : Nat} {x : Int} (h : (prV 310)[i]? = some x) : fracV x true = wI (wAt kC i) := by
  have h1 := congrArg (fun l => l[i]?) frac_k
  simp only [List.getElem?_map, h, Option.map_some] at h1
  have hi : i < kC.length := by
    rcases Nat.lt_or_ge i kC.length with h2 | h2
    · exact h2
    · rw [List.getElem?_eq_none h2] at h1; cases h1
  rw [List.getElem?_eq_getElem hi, Option.map_some] at h1
  rw [Option.some.inj h1, wAt, List.getD, List.getElem?_eq_getElem hi]; rfl
theorem frac_h8 : [wI hC.a, wI hC.b, wI hC.c, wI hC.d, wI hC.e, wI hC.f, wI hC.g, wI hC.h] = [h8.a, h8.b, h8.c, h8.d, h8.e, h8.f, h8.g, h8.h] := by decide +kernel
theorem frac_ath {i : Nat} {x : Int} (h : (prV 310)[i]? = some x) (hi : i < 8) : fracV x false = h8.at i := by
  have h1 := congrArg (fun l => l[i]?) (frac_h.trans frac_h8)
  simp only [List.getElem?_map, List.getElem?_take_of_lt hi, h, Option.map_some] at h1
  rw [N8.at, List.getD, ← h1]; rfl
theorem enc_takeU {l : List Wd} {es : List (List T)} {n : Nat} {y : Int} (h : encU (l.take n) = es) (hn : n < l.length) (hy : y = wI (wAt l n)) : encU (l.take (n + 1)) = es ++ [[.int .u32 y]] := by
  subst h; subst hy
  rw [List.take_add_one, List.getElem?_eq_getElem hn, wAt, List.getD, List.getElem?_eq_getElem hn, encU, List.map_append]
  rfl
set_option maxRecDepth 20000 in
theorem fn126 : Tryz.prog.funcs[126]? = some Tryz.f126 := rfl
set_option maxHeartbeats 40000000 in
set_option maxRecDepth 3000 in
theorem iSha (hP : Prg P) {b : List UInt8} {bs : List (List T)} (hb : encB b = bs) (hbl : b.length ≤ 900) : ACall P 126 [.one (.t (.sl bs))] [] (fun r ob => r = .one (.row 32 0) ∧ ob = [(32, .row 1 (encB (sumV kC hC b)) 0 [0] false)]) := by
  generalize hKK : (fun (r : A) (ob : Obs) => r = A.one (V.row 32 0) ∧ ob = [(32, Ob.row 1 (encB (sumV kC hC b)) 0 [0] false)]) = K
  have hll := encB_len hb
  refine acall_fn (md := mdS2) [some [(0, 1)]] v126 hP.mixed hP.tab (fn_at hP fn126) 1 rfl (by decide +kernel) rfl ?_
  intro ar har
  cbv
  repeat' (first | (intro; cbv) | (with_reducible refine and_side ?_ ?_; rotate_left; try cbv) | (refine ChkP.mk (by decide +kernel) ?_; cbv) | (refine br_intro ?_ ?_ <;> intro <;> cbv) | (exact side_sh har (by decide)))
  refine call_intro (iPrimes hP) ?_
  rintro r ob ⟨rfl, rfl⟩
  generalize hprs : encJ (prV 310) = prs
  cbv
  repeat' (first | (intro; cbv) | (with_reducible refine and_side ?_ ?_; rotate_left; try cbv))
  case refine_1 => exact side_flatJ har hprs
  refine loop_start [] [.cell 3 0 1 12] ?_
  cbv
  have hpl := prV_310
  have hpk : ∀ (i : Nat) (x : Int), (prV 310)[i]? = some x → fracV x true = wI (wAt kC i) := fun i x h => frac_at h
  have hph : ∀ (i : Nat) (x : Int), (prV 310)[i]? = some x → i < 8 → fracV x false = h8.at i := fun i x h => frac_ath h
  generalize prV 310 = pl at hprs hpl hpk hph
  have hprl := encJ_len hprs
  refine LoopR.mk (List (List T) × Int × Nat × N8) (fun x => ([(15, .one (.t (.int .i64 x.2.1)))], [(16, .box [.row 18 0, .t (.int .u32 x.2.2.2.a), .t (.int .u32 x.2.2.2.b), .t (.int .u32 x.2.2.2.c), .t (.int .u32 x.2.2.2.d), .t (.int .u32 x.2.2.2.e), .t (.int .u32 x.2.2.2.f), .t (.int .u32 x.2.2.2.g), .t (.int .u32 x.2.2.2.h)] false), (18, .row 1 x.1 0 [0] false)]))
    (fun x => encU (kC.take x.2.2.1) = x.1 ∧ 0 ≤ x.2.1 ∧ x.2.1.toNat = x.2.2.1 ∧ x.2.2.1 ≤ 64 ∧ x.2.2.2 = mixN x.2.2.1 z8 h8) (fun x => 64 - x.2.2.1) ([], 0, 0, z8) ?e ?f ?g
  case e => kernel_rfl
  case f => exact ⟨rfl, Int.le_refl _, rfl, Nat.zero_le _, rfl⟩
  case g =>
    intro x hx
    obtain ⟨ks, i, n, m⟩ := x
    have hks : encU (kC.take n) = ks := hx.1
    have hi0 : 0 ≤ i := hx.2.1
    have hin : i.toNat = n := hx.2.2.1
    have hn64 : n ≤ 64 := hx.2.2.2.1
    have hm : m = mixN n z8 h8 := hx.2.2.2.2
    have hksl : ks.length ≤ 64 := by rw [encU_len hks, List.length_take]; omega
    clear hx
    have hcase := nineO hi0 hin
    rcases hcase with hge | ⟨rfl, rfl⟩ | ⟨rfl, rfl⟩ | ⟨rfl, rfl⟩ | ⟨rfl, rfl⟩ | ⟨rfl, rfl⟩ | ⟨rfl, rfl⟩ | ⟨rfl, rfl⟩ | ⟨rfl, rfl⟩
    case inl =>
      have h8f : ar.icmp .lss i 8 = false := by subst har; simp [std, icmpS]; omega
      cbv
      repeat' (first | (with_reducible refine and_side ?_ ?_; rotate_left; try cbv) | (refine br_intro ?_ ?_ <;> intro <;> cbv))
      case refine_1.refine_1 => exact side_lt har (by assumption) hi0
      case refine_1.refine_2 =>
        refine get_ltJ har hprs (by assumption) hi0 ?_
        intro p hp
        cbv
        repeat' (first | (intro; cbv) | (with_reducible refine and_side ?_ ?_; rotate_left; try cbv) | (refine ChkP.mk (by decide +kernel) ?_; cbv) | (refine calld_intro (iFraction hP) ?_; generalize hfr : fracV _ _ = fr; cbv))
        case refine_1 => exact ⟨by subst har; simp [std]; omega, by subst har; exact wid_one _⟩
        refine br_intro (fun h => absurd (h8f.symm.trans h) (by simp)) fun _ => ?_
        cbv
        repeat' (first | (intro; cbv))
        have hlt := (List.getElem?_eq_some_iff.1 hp).1
        have ei : ar.iop .add .i64 i 1 = i + 1 := add_std har (by omega) (by omega)
        have hfk : fr = wI (wAt kC n) := by rw [← hfr]; exact hpk n p (by rw [← hin]; exact hp)
        refine ⟨(ar.app ks [[.int .u32 fr]], i + 1, n + 1, m), by rw [← ei]; kernel_rfl, ⟨?_, by dsimp only; omega, by dsimp only; omega, by dsimp only; omega, ?_⟩, by dsimp only; omega⟩
        · subst har; exact enc_takeU hks (by show n < 64; omega) hfk
        · show m = mixN (n + 1) z8 h8
          rw [hm]
          match n, hge.1 with
          | 8, _ => rfl
          | k + 9, _ => rfl
      case refine_2 =>
        have hend := ge_len har (by assumption : ar.icmp .lss i (ar.len prs) = false) hi0
        have hn : n = 64 := by omega
        subst hn
        have hm : m = h8 := hm
        subst hm
        have hks : encU kC = ks := hks
        clear hge h8f hpk hph hin hn64
        generalize hkk : kC = kk at hks ⊢
        generalize hh8 : h8 = hh
        refine call_intro (iClone hP hb (by omega)) ?_
        rintro r ob ⟨rfl, rfl⟩
        generalize hcl : encB b = cl
        cbv
        repeat' (first | (with_reducible refine and_side ?_ ?_; rotate_left; try cbv))
        case refine_1 => exact side_flat har hcl
        case refine_2.refine_1 => exact side_one har hcl (by omega)
        clear hm
        have hcll := encB_len hcl
        refine loop_start [13, 14, 15, 16] [] ?_
        cbv
        refine LoopR.mk (List (List T) × Nat) (fun x => ([], [(17, .row 1 x.1 0 [0] false)])) (fun x => encB (b ++ [128] ++ List.replicate x.2 0) = x.1 ∧ x.2 ≤ padN b.length) (fun x => padN b.length - x.2) (ar.app cl [[.int .u8 128]], 0) ?e2 ?f2 ?g2
        case e2 => kernel_rfl
        case f2 => exact ⟨by subst har; subst hcl; simp [std, encB], Nat.zero_le _⟩
        case g2 =>
          intro x hx
          obtain ⟨es, z⟩ := x
          have hes : encB (b ++ [128] ++ List.replicate z 0) = es := hx.1
          have hz : z ≤ padN b.length := hx.2
          have hesl : es.length = b.length + 1 + z := by rw [encB_len hes]; simp; omega
          have hpad64 := padN_lt b.length
          clear hx
          cbv
          repeat' (first | (intro; cbv) | (with_reducible refine and_side ?_ ?_; rotate_left; try cbv) | (refine br_intro ?_ ?_ <;> intro <;> cbv))
          case refine_1 => exact ⟨by subst har; show (64 : Int) ≠ 0; decide⟩
          case refine_2.refine_1.refine_1 => exact side_one har hes (by simp; omega)
          case refine_2.refine_1.refine_2 =>
            have hr := rem64 har hesl (by assumption : _ = true)
            have hzl : z < padN b.length := by
              have hr := of_decide_eq_true hr
              have := padN_spec b.length
              rcases Nat.lt_or_ge z (padN b.length) with h | h
              · exact h
              · exact absurd (by rw [show z = padN b.length by omega]; exact this) hr
            refine ⟨(ar.app es [[.int .u8 0]], z + 1), by kernel_rfl, ⟨?_, hzl⟩, by dsimp only; omega⟩
            show encB (b ++ [128] ++ List.replicate (z + 1) 0) = _
            subst har
            rw [List.replicate_succ', ← List.append_assoc]
            exact enc_app hes rfl
          case refine_2.refine_2 =>
            have hr := rem64 har hesl (by assumption : _ = false)
            have hr := of_decide_eq_false hr
            have hzp : z = padN b.length := padN_least (by omega) hz
            have hpad : encB (padB b) = es := by rw [← hes, hzp]; rfl
            have hpl2 : (padB b).length ≤ 1000 := by rw [padB_len]; omega
            clear hr hz hes hcl hcll
            repeat' (first | (intro; cbv) | (with_reducible refine and_side ?_ ?_; rotate_left; try cbv) | (refine call_intro (iFour hP) ?_; rintro r ob ⟨rfl, rfl⟩; generalize hfo : encB (fourB _) = fo; cbv))
            case refine_1 => exact side_flat har (by assumption)
            case refine_2.refine_1 => exact side_flat har (by assumption)
            rename_i fo0 hfo0 _ _
            have hn8 : ar.iop .mul .i64 8 (ar.len bs) = ((8 * b.length : Nat) : Int) := by
              subst har
              show iopS .mul .i64 8 (bs.length : Int) = _
              rw [hll, show iopS .mul .i64 8 (b.length : Int) = 8 * (b.length : Int) from mulI (by omega) (by omega)]; omega
            rw [hn8] at hfo
            refine call_intro (iConcat hP (n := [padB b, fourB 0, fourB ((8 * b.length : Nat) : Int)]) (show encN _ = _ by rw [← hpad, ← hfo0, ← hfo]; rfl) (by simp) (by
              intro l hl
              simp only [List.mem_cons, List.not_mem_nil, or_false] at hl
              rcases hl with rfl | rfl | rfl
              · exact hpl2
              · rw [fourB_len]; omega
              · rw [fourB_len]; omega)) ?_
            rintro r ob ⟨rfl, rfl⟩
            rw [cat_all]
            generalize hall : encB (allB b) = als
            clear hn8 hfo hfo0 hpad
            cbv
            repeat' (first | (with_reducible refine and_side ?_ ?_; rotate_left; try cbv))
            case refine_2.refine_2.refine_1 => exact side_flat har hall
            have halln := allB_64 b
            have halll : als.length = (allB b).length := encB_len hall
            have hall2 : (allB b).length ≤ 2000 := by rw [allB_len]; omega
            have hh0 : V8R hC hh.a hh.b hh.c hh.d hh.e hh.f hh.g hh.h := by subst hh8; exact ⟨rfl, rfl, rfl, rfl, rfl, rfl, rfl, rfl⟩
            obtain ⟨a0, b0, c0, d0, e0, f0, g0, h0⟩ := hh
            refine loop_start [48] [.tree 6] ?_
            cbv
            refine LoopR.mk (V8 × N8 × Int × Nat) (fun x => ([(7, .one (.t (.int .i64 x.2.2.1)))], [(16, .box [.row 17 0, .t (.int .u32 x.2.1.a), .t (.int .u32 x.2.1.b), .t (.int .u32 x.2.1.c), .t (.int .u32 x.2.1.d), .t (.int .u32 x.2.1.e), .t (.int .u32 x.2.1.f), .t (.int .u32 x.2.1.g), .t (.int .u32 x.2.1.h)] false)]))
              (fun x => V8R x.1 x.2.1.a x.2.1.b x.2.1.c x.2.1.d x.2.1.e x.2.1.f x.2.1.g x.2.1.h ∧ 0 ≤ x.2.2.1 ∧ x.2.2.1.toNat = 64 * x.2.2.2 ∧ x.2.2.1.toNat ≤ (allB b).length ∧ x.1 = hashN kk hC (allB b) x.2.2.2) (fun x => (allB b).length - x.2.2.1.toNat) (hC, ⟨a0, b0, c0, d0, e0, f0, g0, h0⟩, 0, 0) ?e3 ?f3 ?g3
            case e3 => kernel_rfl
            case f3 => exact ⟨hh0, Int.le_refl _, rfl, Nat.zero_le _, rfl⟩
            case g3 =>
              intro x hx
              obtain ⟨u, ⟨a2, b2, c2, d2, e2, f2, g2, h2⟩, i, k⟩ := x
              have hu : V8R u a2 b2 c2 d2 e2 f2 g2 h2 := hx.1
              have hi0 : 0 ≤ i := hx.2.1
              have hi64 : i.toNat = 64 * k := hx.2.2.1
              have hil : i.toNat ≤ (allB b).length := hx.2.2.2.1
              have huu : u = hashN kk hC (allB b) k := hx.2.2.2.2
              clear hx
              cbv
              repeat' (first | (intro; cbv) | (with_reducible refine and_side ?_ ?_; rotate_left; try cbv) | (refine br_intro ?_ ?_ <;> intro <;> cbv))
              case refine_1.refine_1 =>
                have hlt := lt_len har (by assumption : ar.icmp .lss i (ar.len als) = true) hi0
                have e1 : ar.iop .add .i64 i 64 = i + 64 := add_std har (by omega) (by omega)
                refine ⟨⟨?_, by rw [← hall]; subst har; exact wid_byte _⟩⟩
                show ar.insub i (ar.iop .add .i64 i 64) als
                rw [e1]
                subst har
                exact ⟨hi0, by omega, by omega⟩
              case refine_1.refine_2 =>
                have hlt := lt_len har (by assumption : ar.icmp .lss i (ar.len als) = true) hi0
                have e1 : ar.iop .add .i64 i 64 = i + 64 := add_std har (by omega) (by omega)
                have hsub : encB (((allB b).drop (64 * k)).take 64) = ar.sub als i (ar.iop .add .i64 i 64) := by
                  rw [e1, ← hall]
                  subst har
                  show _ = ((encB (allB b)).take (i + 64).toNat).drop i.toNat
                  simp only [encB, ← List.map_take, ← List.map_drop]
                  rw [List.drop_take, hi64, show (i + 64).toNat - 64 * k = 64 by omega]
                refine call_intro (iBlock hP hu hsub (by simp; omega) (by rw [hkk]; exact hks)) ?_
                rintro r ob ⟨⟨na, nb, nc, nd, ne, nf, ng, nh⟩, hn, rfl, rfl⟩
                dsimp only at hn
                rw [hkk] at hn
                unfold boxS
                cbv
                repeat' (first | (intro; cbv) | (with_reducible refine and_side ?_ ?_; rotate_left; try cbv))
                case refine_1 => exact side_flatU har hks
                refine ⟨(blockV kk u (((allB b).drop (64 * k)).take 64), ⟨na, nb, nc, nd, ne, nf, ng, nh⟩, i + 64, k + 1), by rw [← e1]; kernel_rfl, ⟨hn, by dsimp only; omega, by dsimp only; omega, by dsimp only; omega, by rw [huu]; rfl⟩, by dsimp only; omega⟩
              case refine_2 =>
                have hend := ge_len har (by assumption : ar.icmp .lss i (ar.len als) = false) hi0
                have hk64 : k = (allB b).length / 64 := by omega
                rw [hk64] at huu
                have hfin : encB u.bytes = encB (sumV kC hC b) := by rw [huu, hkk]; rfl
                obtain ⟨ua, ub, uc, ud, ue, uf, ug, uh⟩ := hu
                refine loop_start [63, 7, 3, 6] [] ?_
                cbv
                refine LoopR.mk (List (List T) × Int × Nat) (fun x => ([(78, .one (.t (.int .i64 x.2.1)))], [(16, .row 1 x.1 0 [0] false)])) (fun x => encB (u.bytes.take (4 * x.2.2)) = x.1 ∧ 0 ≤ x.2.1 ∧ x.2.1.toNat = x.2.2 ∧ x.2.2 ≤ 8) (fun x => 8 - x.2.2) ([], 0, 0) ?e4 ?f4 ?g4
                case e4 => kernel_rfl
                case f4 => exact ⟨rfl, Int.le_refl _, rfl, Nat.zero_le _⟩
                case g4 =>
                  intro x hx
                  obtain ⟨es4, i, k⟩ := x
                  have hes : encB (u.bytes.take (4 * k)) = es4 := hx.1
                  have hi0 : 0 ≤ i := hx.2.1
                  have hik : i.toNat = k := hx.2.2.1
                  have hk8 : k ≤ 8 := hx.2.2.2
                  have hesl : es4.length ≤ 32 := by rw [encB_len hes, List.length_take, bytes_len]; omega
                  clear hx
                  have hcase := nine hi0 hik hk8
                  clear hi0 hik hk8
                  rcases hcase with ⟨rfl, rfl⟩ | ⟨rfl, rfl⟩ | ⟨rfl, rfl⟩ | ⟨rfl, rfl⟩ | ⟨rfl, rfl⟩ | ⟨rfl, rfl⟩ | ⟨rfl, rfl⟩ | ⟨rfl, rfl⟩ | ⟨rfl, rfl⟩
                  all_goals cbv
                  all_goals (repeat' (first | (intro; cbv) | (with_reducible refine and_side ?_ ?_; rotate_left; try cbv) | (refine br_intro ?_ ?_ <;> intro <;> cbv) | (refine call_intro (iFour hP) ?_; rintro r ob ⟨rfl, rfl⟩; generalize hfo : encB (fourB _) = fo; cbv)))
                  case inl.refine_1.refine_1 => exact side_flat har hfo
                  case inl.refine_1.refine_2.refine_1 => exact side_app har hes hfo (by rw [fourB_len, List.length_take, bytes_len]; omega)
                  case inl.refine_1.refine_2.refine_2 => exact ⟨(ar.app es4 fo, ar.iop .add .i64 0 1, 1), by kernel_rfl, ⟨by show encB (u.bytes.take (4 * 1)) = _; rw [show u.bytes.take (4 * 1) = u.bytes.take (4 * 0) ++ w4 u.a from rfl, enc_app hes ((congrArg encB (four_w har ua)).symm.trans hfo)]; subst har; rfl, by show (0 : Int) ≤ ar.iop .add .i64 0 1; subst har; decide +kernel, by show (ar.iop .add .i64 0 1).toNat = 1; subst har; decide +kernel, by dsimp only; omega⟩, by dsimp only; omega⟩
                  case inl.refine_2 => exact absurd (by assumption : ar.icmp .lss 0 8 = false) (by subst har; decide)
                  case inr.inl.refine_1.refine_1 => exact side_flat har hfo
                  case inr.inl.refine_1.refine_2.refine_1 => exact side_app har hes hfo (by rw [fourB_len, List.length_take, bytes_len]; omega)
                  case inr.inl.refine_1.refine_2.refine_2 => exact ⟨(ar.app es4 fo, ar.iop .add .i64 1 1, 2), by kernel_rfl, ⟨by show encB (u.bytes.take (4 * 2)) = _; rw [show u.bytes.take (4 * 2) = u.bytes.take (4 * 1) ++ w4 u.b from rfl, enc_app hes ((congrArg encB (four_w har ub)).symm.trans hfo)]; subst har; rfl, by show (0 : Int) ≤ ar.iop .add .i64 1 1; subst har; decide +kernel, by show (ar.iop .add .i64 1 1).toNat = 2; subst har; decide +kernel, by dsimp only; omega⟩, by dsimp only; omega⟩
                  case inr.inl.refine_2 => exact absurd (by assumption : ar.icmp .lss 1 8 = false) (by subst har; decide)
                  case inr.inr.inl.refine_1.refine_1 => exact side_flat har hfo
                  case inr.inr.inl.refine_1.refine_2.refine_1 => exact side_app har hes hfo (by rw [fourB_len, List.length_take, bytes_len]; omega)
                  case inr.inr.inl.refine_1.refine_2.refine_2 => exact ⟨(ar.app es4 fo, ar.iop .add .i64 2 1, 3), by kernel_rfl, ⟨by show encB (u.bytes.take (4 * 3)) = _; rw [show u.bytes.take (4 * 3) = u.bytes.take (4 * 2) ++ w4 u.c from rfl, enc_app hes ((congrArg encB (four_w har uc)).symm.trans hfo)]; subst har; rfl, by show (0 : Int) ≤ ar.iop .add .i64 2 1; subst har; decide +kernel, by show (ar.iop .add .i64 2 1).toNat = 3; subst har; decide +kernel, by dsimp only; omega⟩, by dsimp only; omega⟩
                  case inr.inr.inl.refine_2 => exact absurd (by assumption : ar.icmp .lss 2 8 = false) (by subst har; decide)
                  case inr.inr.inr.inl.refine_1.refine_1 => exact side_flat har hfo
                  case inr.inr.inr.inl.refine_1.refine_2.refine_1 => exact side_app har hes hfo (by rw [fourB_len, List.length_take, bytes_len]; omega)
                  case inr.inr.inr.inl.refine_1.refine_2.refine_2 => exact ⟨(ar.app es4 fo, ar.iop .add .i64 3 1, 4), by kernel_rfl, ⟨by show encB (u.bytes.take (4 * 4)) = _; rw [show u.bytes.take (4 * 4) = u.bytes.take (4 * 3) ++ w4 u.d from rfl, enc_app hes ((congrArg encB (four_w har ud)).symm.trans hfo)]; subst har; rfl, by show (0 : Int) ≤ ar.iop .add .i64 3 1; subst har; decide +kernel, by show (ar.iop .add .i64 3 1).toNat = 4; subst har; decide +kernel, by dsimp only; omega⟩, by dsimp only; omega⟩
                  case inr.inr.inr.inl.refine_2 => exact absurd (by assumption : ar.icmp .lss 3 8 = false) (by subst har; decide)
                  case inr.inr.inr.inr.inl.refine_1.refine_1 => exact side_flat har hfo
                  case inr.inr.inr.inr.inl.refine_1.refine_2.refine_1 => exact side_app har hes hfo (by rw [fourB_len, List.length_take, bytes_len]; omega)
                  case inr.inr.inr.inr.inl.refine_1.refine_2.refine_2 => exact ⟨(ar.app es4 fo, ar.iop .add .i64 4 1, 5), by kernel_rfl, ⟨by show encB (u.bytes.take (4 * 5)) = _; rw [show u.bytes.take (4 * 5) = u.bytes.take (4 * 4) ++ w4 u.e from rfl, enc_app hes ((congrArg encB (four_w har ue)).symm.trans hfo)]; subst har; rfl, by show (0 : Int) ≤ ar.iop .add .i64 4 1; subst har; decide +kernel, by show (ar.iop .add .i64 4 1).toNat = 5; subst har; decide +kernel, by dsimp only; omega⟩, by dsimp only; omega⟩
                  case inr.inr.inr.inr.inl.refine_2 => exact absurd (by assumption : ar.icmp .lss 4 8 = false) (by subst har; decide)
                  case inr.inr.inr.inr.inr.inl.refine_1.refine_1 => exact side_flat har hfo
                  case inr.inr.inr.inr.inr.inl.refine_1.refine_2.refine_1 => exact side_app har hes hfo (by rw [fourB_len, List.length_take, bytes_len]; omega)
                  case inr.inr.inr.inr.inr.inl.refine_1.refine_2.refine_2 => exact ⟨(ar.app es4 fo, ar.iop .add .i64 5 1, 6), by kernel_rfl, ⟨by show encB (u.bytes.take (4 * 6)) = _; rw [show u.bytes.take (4 * 6) = u.bytes.take (4 * 5) ++ w4 u.f from rfl, enc_app hes ((congrArg encB (four_w har uf)).symm.trans hfo)]; subst har; rfl, by show (0 : Int) ≤ ar.iop .add .i64 5 1; subst har; decide +kernel, by show (ar.iop .add .i64 5 1).toNat = 6; subst har; decide +kernel, by dsimp only; omega⟩, by dsimp only; omega⟩
                  case inr.inr.inr.inr.inr.inl.refine_2 => exact absurd (by assumption : ar.icmp .lss 5 8 = false) (by subst har; decide)
                  case inr.inr.inr.inr.inr.inr.inl.refine_1.refine_1 => exact side_flat har hfo
                  case inr.inr.inr.inr.inr.inr.inl.refine_1.refine_2.refine_1 => exact side_app har hes hfo (by rw [fourB_len, List.length_take, bytes_len]; omega)
                  case inr.inr.inr.inr.inr.inr.inl.refine_1.refine_2.refine_2 => exact ⟨(ar.app es4 fo, ar.iop .add .i64 6 1, 7), by kernel_rfl, ⟨by show encB (u.bytes.take (4 * 7)) = _; rw [show u.bytes.take (4 * 7) = u.bytes.take (4 * 6) ++ w4 u.g from rfl, enc_app hes ((congrArg encB (four_w har ug)).symm.trans hfo)]; subst har; rfl, by show (0 : Int) ≤ ar.iop .add .i64 6 1; subst har; decide +kernel, by show (ar.iop .add .i64 6 1).toNat = 7; subst har; decide +kernel, by dsimp only; omega⟩, by dsimp only; omega⟩
                  case inr.inr.inr.inr.inr.inr.inl.refine_2 => exact absurd (by assumption : ar.icmp .lss 6 8 = false) (by subst har; decide)
                  case inr.inr.inr.inr.inr.inr.inr.inl.refine_1.refine_1 => exact side_flat har hfo
                  case inr.inr.inr.inr.inr.inr.inr.inl.refine_1.refine_2.refine_1 => exact side_app har hes hfo (by rw [fourB_len, List.length_take, bytes_len]; omega)
                  case inr.inr.inr.inr.inr.inr.inr.inl.refine_1.refine_2.refine_2 => exact ⟨(ar.app es4 fo, ar.iop .add .i64 7 1, 8), by kernel_rfl, ⟨by show encB (u.bytes.take (4 * 8)) = _; rw [show u.bytes.take (4 * 8) = u.bytes.take (4 * 7) ++ w4 u.h from rfl, enc_app hes ((congrArg encB (four_w har uh)).symm.trans hfo)]; subst har; rfl, by show (0 : Int) ≤ ar.iop .add .i64 7 1; subst har; decide +kernel, by show (ar.iop .add .i64 7 1).toNat = 8; subst har; decide +kernel, by dsimp only; omega⟩, by dsimp only; omega⟩
                  case inr.inr.inr.inr.inr.inr.inr.inl.refine_2 => exact absurd (by assumption : ar.icmp .lss 7 8 = false) (by subst har; decide)
                  case inr.inr.inr.inr.inr.inr.inr.inr.refine_1 => exact absurd (by assumption : ar.icmp .lss 8 8 = true) (by subst har; decide)
                  case inr.inr.inr.inr.inr.inr.inr.inr.refine_2 =>
                    subst hKK
                    exact ⟨⟨rfl, by rw [← hfin, ← hes]; rfl⟩⟩
    case inr.inl =>
      subst hm
      cbv
      repeat' (first | (with_reducible refine and_side ?_ ?_; rotate_left; try cbv) | (refine br_intro ?_ ?_ <;> intro <;> cbv))
      case refine_2 => have hg := ge_len har (by assumption : ar.icmp .lss 0 (ar.len prs) = false) (by decide); exfalso; omega
      case refine_1.refine_1 => exact side_lt har (by assumption) (by decide)
      refine get_ltJ har hprs (by assumption) (by decide) ?_
      intro p hp
      have ht := hpk 0 p hp
      have hf := hph 0 p hp (by decide)
      cbv
      repeat' (first | (intro; cbv) | (with_reducible refine and_side ?_ ?_; rotate_left; try cbv) | (refine ChkP.mk (by decide +kernel) ?_; cbv) | (refine br_intro ?_ ?_ <;> intro <;> cbv) | (exact side_sh har (by decide)))
      refine calld_intro (iFraction hP) ?_
      rw [ht]
      generalize hq : wI (wAt kC 0) = q
      cbv
      repeat' (first | (intro; cbv) | (with_reducible refine and_side ?_ ?_; rotate_left; try cbv) | (refine ChkP.mk (by decide +kernel) ?_; cbv) | (refine br_intro ?_ ?_ <;> intro <;> cbv))
      case refine_1.refine_2.refine_1 => exact ⟨by subst har; simp [std]; omega, by subst har; exact wid_one _⟩
      case refine_1.refine_2.refine_2.refine_2 => exact absurd (by assumption : ar.icmp .lss 0 8 = false) (by subst har; decide)
      refine calld_intro (iFraction hP) ?_
      rw [hf, show h8.at 0 = 1779033703 from rfl]
      cbv
      repeat' (first | (intro; cbv) | (refine ChkP.mk (by decide +kernel) ?_; cbv))
      exact ⟨(ar.app ks [[.int .u32 q]], ar.iop .add .i64 0 1, 1, mixN 1 z8 h8), by kernel_rfl, ⟨by show encU (kC.take (0 + 1)) = ar.app ks [[.int .u32 q]]; subst har; exact enc_takeU hks (by decide) hq.symm, by show (0 : Int) ≤ ar.iop .add .i64 0 1; subst har; decide +kernel, by show (ar.iop .add .i64 0 1).toNat = 1; subst har; decide +kernel, by dsimp only; omega, rfl⟩, by dsimp only; omega⟩
    case inr.inr.inl =>
      subst hm
      cbv
      repeat' (first | (with_reducible refine and_side ?_ ?_; rotate_left; try cbv) | (refine br_intro ?_ ?_ <;> intro <;> cbv))
      case refine_2 => have hg := ge_len har (by assumption : ar.icmp .lss 1 (ar.len prs) = false) (by decide); exfalso; omega
      case refine_1.refine_1 => exact side_lt har (by assumption) (by decide)
      refine get_ltJ har hprs (by assumption) (by decide) ?_
      intro p hp
      have ht := hpk 1 p hp
      have hf := hph 1 p hp (by decide)
      cbv
      repeat' (first | (intro; cbv) | (with_reducible refine and_side ?_ ?_; rotate_left; try cbv) | (refine ChkP.mk (by decide +kernel) ?_; cbv) | (refine br_intro ?_ ?_ <;> intro <;> cbv) | (exact side_sh har (by decide)))
      refine calld_intro (iFraction hP) ?_
      rw [ht]
      generalize hq : wI (wAt kC 1) = q
      cbv
      repeat' (first | (intro; cbv) | (with_reducible refine and_side ?_ ?_; rotate_left; try cbv) | (refine ChkP.mk (by decide +kernel) ?_; cbv) | (refine br_intro ?_ ?_ <;> intro <;> cbv))
      case refine_1.refine_2.refine_1 => exact ⟨by subst har; simp [std]; omega, by subst har; exact wid_one _⟩
      case refine_1.refine_2.refine_2.refine_2 => exact absurd (by assumption : ar.icmp .lss 1 8 = false) (by subst har; decide)
      refine calld_intro (iFraction hP) ?_
      rw [hf, show h8.at 1 = 3144134277 from rfl]
      cbv
      repeat' (first | (intro; cbv) | (refine ChkP.mk (by decide +kernel) ?_; cbv))
      exact ⟨(ar.app ks [[.int .u32 q]], ar.iop .add .i64 1 1, 2, mixN 2 z8 h8), by kernel_rfl, ⟨by show encU (kC.take (1 + 1)) = ar.app ks [[.int .u32 q]]; subst har; exact enc_takeU hks (by decide) hq.symm, by show (0 : Int) ≤ ar.iop .add .i64 1 1; subst har; decide +kernel, by show (ar.iop .add .i64 1 1).toNat = 2; subst har; decide +kernel, by dsimp only; omega, rfl⟩, by dsimp only; omega⟩
    case inr.inr.inr.inl =>
      subst hm
      cbv
      repeat' (first | (with_reducible refine and_side ?_ ?_; rotate_left; try cbv) | (refine br_intro ?_ ?_ <;> intro <;> cbv))
      case refine_2 => have hg := ge_len har (by assumption : ar.icmp .lss 2 (ar.len prs) = false) (by decide); exfalso; omega
      case refine_1.refine_1 => exact side_lt har (by assumption) (by decide)
      refine get_ltJ har hprs (by assumption) (by decide) ?_
      intro p hp
      have ht := hpk 2 p hp
      have hf := hph 2 p hp (by decide)
      cbv
      repeat' (first | (intro; cbv) | (with_reducible refine and_side ?_ ?_; rotate_left; try cbv) | (refine ChkP.mk (by decide +kernel) ?_; cbv) | (refine br_intro ?_ ?_ <;> intro <;> cbv) | (exact side_sh har (by decide)))
      refine calld_intro (iFraction hP) ?_
      rw [ht]
      generalize hq : wI (wAt kC 2) = q
      cbv
      repeat' (first | (intro; cbv) | (with_reducible refine and_side ?_ ?_; rotate_left; try cbv) | (refine ChkP.mk (by decide +kernel) ?_; cbv) | (refine br_intro ?_ ?_ <;> intro <;> cbv))
      case refine_1.refine_2.refine_1 => exact ⟨by subst har; simp [std]; omega, by subst har; exact wid_one _⟩
      case refine_1.refine_2.refine_2.refine_2 => exact absurd (by assumption : ar.icmp .lss 2 8 = false) (by subst har; decide)
      refine calld_intro (iFraction hP) ?_
      rw [hf, show h8.at 2 = 1013904242 from rfl]
      cbv
      repeat' (first | (intro; cbv) | (refine ChkP.mk (by decide +kernel) ?_; cbv))
      exact ⟨(ar.app ks [[.int .u32 q]], ar.iop .add .i64 2 1, 3, mixN 3 z8 h8), by kernel_rfl, ⟨by show encU (kC.take (2 + 1)) = ar.app ks [[.int .u32 q]]; subst har; exact enc_takeU hks (by decide) hq.symm, by show (0 : Int) ≤ ar.iop .add .i64 2 1; subst har; decide +kernel, by show (ar.iop .add .i64 2 1).toNat = 3; subst har; decide +kernel, by dsimp only; omega, rfl⟩, by dsimp only; omega⟩
    case inr.inr.inr.inr.inl =>
      subst hm
      cbv
      repeat' (first | (with_reducible refine and_side ?_ ?_; rotate_left; try cbv) | (refine br_intro ?_ ?_ <;> intro <;> cbv))
      case refine_2 => have hg := ge_len har (by assumption : ar.icmp .lss 3 (ar.len prs) = false) (by decide); exfalso; omega
      case refine_1.refine_1 => exact side_lt har (by assumption) (by decide)
      refine get_ltJ har hprs (by assumption) (by decide) ?_
      intro p hp
      have ht := hpk 3 p hp
      have hf := hph 3 p hp (by decide)
      cbv
      repeat' (first | (intro; cbv) | (with_reducible refine and_side ?_ ?_; rotate_left; try cbv) | (refine ChkP.mk (by decide +kernel) ?_; cbv) | (refine br_intro ?_ ?_ <;> intro <;> cbv) | (exact side_sh har (by decide)))
      refine calld_intro (iFraction hP) ?_
      rw [ht]
      generalize hq : wI (wAt kC 3) = q
      cbv
      repeat' (first | (intro; cbv) | (with_reducible refine and_side ?_ ?_; rotate_left; try cbv) | (refine ChkP.mk (by decide +kernel) ?_; cbv) | (refine br_intro ?_ ?_ <;> intro <;> cbv))
      case refine_1.refine_2.refine_1 => exact ⟨by subst har; simp [std]; omega, by subst har; exact wid_one _⟩
      case refine_1.refine_2.refine_2.refine_2 => exact absurd (by assumption : ar.icmp .lss 3 8 = false) (by subst har; decide)
      refine calld_intro (iFraction hP) ?_
      rw [hf, show h8.at 3 = 2773480762 from rfl]
      cbv
      repeat' (first | (intro; cbv) | (refine ChkP.mk (by decide +kernel) ?_; cbv))
      exact ⟨(ar.app ks [[.int .u32 q]], ar.iop .add .i64 3 1, 4, mixN 4 z8 h8), by kernel_rfl, ⟨by show encU (kC.take (3 + 1)) = ar.app ks [[.int .u32 q]]; subst har; exact enc_takeU hks (by decide) hq.symm, by show (0 : Int) ≤ ar.iop .add .i64 3 1; subst har; decide +kernel, by show (ar.iop .add .i64 3 1).toNat = 4; subst har; decide +kernel, by dsimp only; omega, rfl⟩, by dsimp only; omega⟩
    case inr.inr.inr.inr.inr.inl =>
      subst hm
      cbv
      repeat' (first | (with_reducible refine and_side ?_ ?_; rotate_left; try cbv) | (refine br_intro ?_ ?_ <;> intro <;> cbv))
      case refine_2 => have hg := ge_len har (by assumption : ar.icmp .lss 4 (ar.len prs) = false) (by decide); exfalso; omega
      case refine_1.refine_1 => exact side_lt har (by assumption) (by decide)
      refine get_ltJ har hprs (by assumption) (by decide) ?_
      intro p hp
      have ht := hpk 4 p hp
      have hf := hph 4 p hp (by decide)
      cbv
      repeat' (first | (intro; cbv) | (with_reducible refine and_side ?_ ?_; rotate_left; try cbv) | (refine ChkP.mk (by decide +kernel) ?_; cbv) | (refine br_intro ?_ ?_ <;> intro <;> cbv) | (exact side_sh har (by decide)))
      refine calld_intro (iFraction hP) ?_
      rw [ht]
      generalize hq : wI (wAt kC 4) = q
      cbv
      repeat' (first | (intro; cbv) | (with_reducible refine and_side ?_ ?_; rotate_left; try cbv) | (refine ChkP.mk (by decide +kernel) ?_; cbv) | (refine br_intro ?_ ?_ <;> intro <;> cbv))
      case refine_1.refine_2.refine_1 => exact ⟨by subst har; simp [std]; omega, by subst har; exact wid_one _⟩
      case refine_1.refine_2.refine_2.refine_2 => exact absurd (by assumption : ar.icmp .lss 4 8 = false) (by subst har; decide)
      refine calld_intro (iFraction hP) ?_
      rw [hf, show h8.at 4 = 1359893119 from rfl]
      cbv
      repeat' (first | (intro; cbv) | (refine ChkP.mk (by decide +kernel) ?_; cbv))
      exact ⟨(ar.app ks [[.int .u32 q]], ar.iop .add .i64 4 1, 5, mixN 5 z8 h8), by kernel_rfl, ⟨by show encU (kC.take (4 + 1)) = ar.app ks [[.int .u32 q]]; subst har; exact enc_takeU hks (by decide) hq.symm, by show (0 : Int) ≤ ar.iop .add .i64 4 1; subst har; decide +kernel, by show (ar.iop .add .i64 4 1).toNat = 5; subst har; decide +kernel, by dsimp only; omega, rfl⟩, by dsimp only; omega⟩
    case inr.inr.inr.inr.inr.inr.inl =>
      subst hm
      cbv
      repeat' (first | (with_reducible refine and_side ?_ ?_; rotate_left; try cbv) | (refine br_intro ?_ ?_ <;> intro <;> cbv))
      case refine_2 => have hg := ge_len har (by assumption : ar.icmp .lss 5 (ar.len prs) = false) (by decide); exfalso; omega
      case refine_1.refine_1 => exact side_lt har (by assumption) (by decide)
      refine get_ltJ har hprs (by assumption) (by decide) ?_
      intro p hp
      have ht := hpk 5 p hp
      have hf := hph 5 p hp (by decide)
      cbv
      repeat' (first | (intro; cbv) | (with_reducible refine and_side ?_ ?_; rotate_left; try cbv) | (refine ChkP.mk (by decide +kernel) ?_; cbv) | (refine br_intro ?_ ?_ <;> intro <;> cbv) | (exact side_sh har (by decide)))
      refine calld_intro (iFraction hP) ?_
      rw [ht]
      generalize hq : wI (wAt kC 5) = q
      cbv
      repeat' (first | (intro; cbv) | (with_reducible refine and_side ?_ ?_; rotate_left; try cbv) | (refine ChkP.mk (by decide +kernel) ?_; cbv) | (refine br_intro ?_ ?_ <;> intro <;> cbv))
      case refine_1.refine_2.refine_1 => exact ⟨by subst har; simp [std]; omega, by subst har; exact wid_one _⟩
      case refine_1.refine_2.refine_2.refine_2 => exact absurd (by assumption : ar.icmp .lss 5 8 = false) (by subst har; decide)
      refine calld_intro (iFraction hP) ?_
      rw [hf, show h8.at 5 = 2600822924 from rfl]
      cbv
      repeat' (first | (intro; cbv) | (refine ChkP.mk (by decide +kernel) ?_; cbv))
      exact ⟨(ar.app ks [[.int .u32 q]], ar.iop .add .i64 5 1, 6, mixN 6 z8 h8), by kernel_rfl, ⟨by show encU (kC.take (5 + 1)) = ar.app ks [[.int .u32 q]]; subst har; exact enc_takeU hks (by decide) hq.symm, by show (0 : Int) ≤ ar.iop .add .i64 5 1; subst har; decide +kernel, by show (ar.iop .add .i64 5 1).toNat = 6; subst har; decide +kernel, by dsimp only; omega, rfl⟩, by dsimp only; omega⟩
    case inr.inr.inr.inr.inr.inr.inr.inl =>
      subst hm
      cbv
      repeat' (first | (with_reducible refine and_side ?_ ?_; rotate_left; try cbv) | (refine br_intro ?_ ?_ <;> intro <;> cbv))
      case refine_2 => have hg := ge_len har (by assumption : ar.icmp .lss 6 (ar.len prs) = false) (by decide); exfalso; omega
      case refine_1.refine_1 => exact side_lt har (by assumption) (by decide)
      refine get_ltJ har hprs (by assumption) (by decide) ?_
      intro p hp
      have ht := hpk 6 p hp
      have hf := hph 6 p hp (by decide)
      cbv
      repeat' (first | (intro; cbv) | (with_reducible refine and_side ?_ ?_; rotate_left; try cbv) | (refine ChkP.mk (by decide +kernel) ?_; cbv) | (refine br_intro ?_ ?_ <;> intro <;> cbv) | (exact side_sh har (by decide)))
      refine calld_intro (iFraction hP) ?_
      rw [ht]
      generalize hq : wI (wAt kC 6) = q
      cbv
      repeat' (first | (intro; cbv) | (with_reducible refine and_side ?_ ?_; rotate_left; try cbv) | (refine ChkP.mk (by decide +kernel) ?_; cbv) | (refine br_intro ?_ ?_ <;> intro <;> cbv))
      case refine_1.refine_2.refine_1 => exact ⟨by subst har; simp [std]; omega, by subst har; exact wid_one _⟩
      case refine_1.refine_2.refine_2.refine_2 => exact absurd (by assumption : ar.icmp .lss 6 8 = false) (by subst har; decide)
      refine calld_intro (iFraction hP) ?_
      rw [hf, show h8.at 6 = 528734635 from rfl]
      cbv
      repeat' (first | (intro; cbv) | (refine ChkP.mk (by decide +kernel) ?_; cbv))
      exact ⟨(ar.app ks [[.int .u32 q]], ar.iop .add .i64 6 1, 7, mixN 7 z8 h8), by kernel_rfl, ⟨by show encU (kC.take (6 + 1)) = ar.app ks [[.int .u32 q]]; subst har; exact enc_takeU hks (by decide) hq.symm, by show (0 : Int) ≤ ar.iop .add .i64 6 1; subst har; decide +kernel, by show (ar.iop .add .i64 6 1).toNat = 7; subst har; decide +kernel, by dsimp only; omega, rfl⟩, by dsimp only; omega⟩
    case inr.inr.inr.inr.inr.inr.inr.inr =>
      subst hm
      cbv
      repeat' (first | (with_reducible refine and_side ?_ ?_; rotate_left; try cbv) | (refine br_intro ?_ ?_ <;> intro <;> cbv))
      case refine_2 => have hg := ge_len har (by assumption : ar.icmp .lss 7 (ar.len prs) = false) (by decide); exfalso; omega
      case refine_1.refine_1 => exact side_lt har (by assumption) (by decide)
      refine get_ltJ har hprs (by assumption) (by decide) ?_
      intro p hp
      have ht := hpk 7 p hp
      have hf := hph 7 p hp (by decide)
      cbv
      repeat' (first | (intro; cbv) | (with_reducible refine and_side ?_ ?_; rotate_left; try cbv) | (refine ChkP.mk (by decide +kernel) ?_; cbv) | (refine br_intro ?_ ?_ <;> intro <;> cbv) | (exact side_sh har (by decide)))
      refine calld_intro (iFraction hP) ?_
      rw [ht]
      generalize hq : wI (wAt kC 7) = q
      cbv
      repeat' (first | (intro; cbv) | (with_reducible refine and_side ?_ ?_; rotate_left; try cbv) | (refine ChkP.mk (by decide +kernel) ?_; cbv) | (refine br_intro ?_ ?_ <;> intro <;> cbv))
      case refine_1.refine_2.refine_1 => exact ⟨by subst har; simp [std]; omega, by subst har; exact wid_one _⟩
      case refine_1.refine_2.refine_2.refine_2 => exact absurd (by assumption : ar.icmp .lss 7 8 = false) (by subst har; decide)
      refine calld_intro (iFraction hP) ?_
      rw [hf, show h8.at 7 = 1541459225 from rfl]
      cbv
      repeat' (first | (intro; cbv) | (refine ChkP.mk (by decide +kernel) ?_; cbv))
      exact ⟨(ar.app ks [[.int .u32 q]], ar.iop .add .i64 7 1, 8, mixN 8 z8 h8), by kernel_rfl, ⟨by show encU (kC.take (7 + 1)) = ar.app ks [[.int .u32 q]]; subst har; exact enc_takeU hks (by decide) hq.symm, by show (0 : Int) ≤ ar.iop .add .i64 7 1; subst har; decide +kernel, by show (ar.iop .add .i64 7 1).toNat = 8; subst har; decide +kernel, by dsimp only; omega, rfl⟩, by dsimp only; omega⟩
end Go.TL.Tryz

/- TfDhcI -/
namespace Go.TL.Tryz
open Go Go.TL Go.Proofs
set_option maxRecDepth 20000
variable {P : Program}
set_option maxRecDepth 20000 in
theorem fn85 : Tryz.prog.funcs[85]? = some Tryz.f85 := rfl
set_option maxHeartbeats 40000000 in
set_option maxRecDepth 3000 in
theorem iDhcid (hP : Prg P) {cl : List UInt8} {n : List (List UInt8)} {cs ns : List (List T)} (hc : encB cl = cs) (hn : encN n = ns) (hcl : cl.length ≤ 16) (hnb : NmB n) : ACall P 85 [.one (.t (.sl cs)), .agg [.t (.sl ns)]] [] (fun r ob => r = .one (.t (.sl (encB (dhcidV cl n)))) ∧ ob = []) := by
  generalize hK : (fun (r : A) (ob : Obs) => r = A.one (V.t (.sl (encB (dhcidV cl n)))) ∧ ob = []) = K
  have hw := wireN_len hnb
  refine acall_fn (md := md) [none] v85 hP.mixed hP.tab (fn_at hP fn85) 2 rfl (by decide +kernel) rfl ?_
  intro ar har
  cbv
  repeat' (first | (with_reducible refine and_side ?_ ?_; rotate_left; try cbv) | (refine call_intro (iWire hP (by assumption) (by assumption)) ?_; rintro r ob ⟨rfl, rfl⟩; generalize hwr : encB (wireN _) = wr; cbv))
  case refine_1 => exact side_flat har hwr
  refine call_intro (iConcat hP (n := [cl, wireN n]) (show encN [cl, wireN n] = [[.sl cs], [.sl wr]] by rw [← hc, ← hwr]; rfl) (by simp) (by
    intro l hl
    simp only [List.mem_cons, List.not_mem_nil, or_false] at hl
    rcases hl with rfl | rfl
    · omega
    · omega)) ?_
  rintro r ob ⟨rfl, rfl⟩
  rw [show catB [cl, wireN n] = cl ++ wireN n by simp [catB]]
  generalize hcat : encB (cl ++ wireN n) = cats
  cbv
  repeat' (first | (with_reducible refine and_side ?_ ?_; rotate_left; try cbv))
  case refine_1 => exact side_flat har hcat
  refine call_intro (iSha hP hcat (by simp; omega)) ?_
  rintro r ob ⟨rfl, rfl⟩
  have hsl := sumV_len kC hC (cl ++ wireN n)
  generalize hsv : sumV kC hC (cl ++ wireN n) = sv at hsl ⊢
  generalize hsm : encB sv = sms
  cbv
  repeat' (first | (with_reducible refine and_side ?_ ?_; rotate_left; try cbv))
  case refine_2.refine_2.refine_2.refine_2 =>
    subst hK
    refine ⟨⟨?_, rfl⟩⟩
    rw [dhcidV, hsv, encB_append, hsm]
    subst har; rfl
  case refine_2.refine_2.refine_2.refine_1 =>
    have h1 := encB_len hsm
    refine ⟨?_, by subst har; rw [← hsm]; exact wid_byte _⟩
    subst har
    show ([[T.int .u8 0], [T.int .u8 1], [T.int .u8 1]] ++ sms).length * (1 + 1) ≤ 2 ^ 46
    simp; omega
  case refine_2.refine_2.refine_1 => exact side_flat har hsm
def mdDI (n : Nat) : Md := bif eqB n 85 then ⟨[], false⟩ else bif eqB n 84 then ⟨[], false⟩ else md n
set_option maxRecDepth 20000 in
theorem fn37 : Tryz.prog.funcs[37]? = some Tryz.f37 := rfl
set_option maxHeartbeats 40000000 in
set_option maxRecDepth 3000 in
theorem iD (hP : Prg P) {l : Lea} {e1 e2 : List (List T)} (he1 : encB l.cl = e1) (he2 : encB l.ho = e2) (hcl : l.cl.length ≤ 16) (hnb : NmB (l.ho :: homeN)) : ACall P 37 [.agg [.t (.int .i64 l.ip), .t (.sl e1), .t (.sl e2), .t (.int .i64 l.til), .t (.bool l.won)]] []
    (fun r ob => r = .agg [.t (.sl (encN (l.ho :: homeN))), .t (.int .i64 49), .t (.int .i64 60), .t (.int .i64 0), .t (.sl []), .t (.sl (encB (dhcidV l.cl (l.ho :: homeN)))), .t (.sl [])] ∧ ob = []) := by
  refine acall_fn (md := mdDI) [none] v37 hP.mixed hP.tab (fn_at hP fn37) 1 rfl (by decide +kernel) rfl ?_
  intro ar har
  cbv
  refine calld_intro (iLeaName hP he1 he2 hnb) ?_
  generalize hnm : l.ho :: homeN = nm at hnb ⊢
  generalize hlna : encN nm = lnas
  cbv
  repeat' (first | (intro; cbv) | (with_reducible refine and_side ?_ ?_; rotate_left; try cbv) | (refine ChkP.mk (by decide +kernel) ?_; cbv) | (refine br_intro ?_ ?_ <;> intro <;> cbv) | (refine side_sh har ?_; decide))
  refine calld_intro (show ACall P 84 _ [] _ from iLeaName hP he1 he2 (by rw [hnm]; exact hnb)) ?_
  rw [hnm, hlna]
  cbv
  repeat' (first | (intro; cbv) | (with_reducible refine and_side ?_ ?_; rotate_left; try cbv) | (refine ChkP.mk (by decide +kernel) ?_; cbv) | (refine br_intro ?_ ?_ <;> intro <;> cbv) | (refine side_sh har ?_; decide))
  refine calld_intro (iDhcid hP he1 hlna hcl hnb) ?_
  generalize hdh : encB (dhcidV l.cl nm) = dhs
  cbv
  repeat' (first | (intro; cbv) | (refine ChkP.mk (by decide +kernel) ?_; cbv))
  exact ⟨⟨rfl, rfl⟩⟩
end Go.TL.Tryz

/- TfHouP -/
namespace Go.TL.Tryz
open Go Go.TL Go.Proofs
set_option maxRecDepth 20000
variable {P : Program}
set_option maxRecDepth 20000 in
theorem fn38 : Tryz.prog.funcs[38]? = some Tryz.f38 := rfl
set_option maxHeartbeats 40000000 in
set_option maxRecDepth 3000 in
theorem iP (hP : Prg P) {l : Lea} {e1 e2 : List (List T)} (he1 : encB l.cl = e1) (he2 : encB l.ho = e2) (hnb : NmB (l.ho :: homeN)) : ACall P 38 [.agg [.t (.int .i64 l.ip), .t (.sl e1), .t (.sl e2), .t (.int .i64 l.til), .t (.bool l.won)]] []
    (fun r ob => r = .agg [.t (.sl (encN (revOf l.ip))), .t (.int .i64 12), .t (.int .i64 60), .t (.int .i64 0), .t (.sl (encN (l.ho :: homeN))), .t (.sl []), .t (.sl [])] ∧ ob = []) := by
  generalize hrv : encN (revOf l.ip) = rvs
  generalize hlna : encN (l.ho :: homeN) = lnas
  refine acall_fn (md := mdDI) [none] v38 hP.mixed hP.tab (fn_at hP fn38) 1 rfl (by decide +kernel) rfl ?_
  intro ar har
  cbv
  refine calld_intro (iReverse hP) ?_
  rw [hrv]
  cbv
  repeat' (first | (intro; cbv) | (with_reducible refine and_side ?_ ?_; rotate_left; try cbv) | (refine ChkP.mk (by decide +kernel) ?_; cbv) | (refine br_intro ?_ ?_ <;> intro <;> cbv) | (refine side_sh har ?_; decide))
  refine calld_intro (iLeaName hP he1 he2 hnb) ?_
  rw [hlna]
  cbv
  repeat' (first | (intro; cbv) | (with_reducible refine and_side ?_ ?_; rotate_left; try cbv) | (refine ChkP.mk (by decide +kernel) ?_; cbv) | (refine br_intro ?_ ?_ <;> intro <;> cbv) | (refine side_sh har ?_; decide))
  exact ⟨⟨rfl, rfl⟩⟩
end Go.TL.Tryz

/- TfHouI -/
namespace Go.TL.Tryz
open Go Go.TL Go.Proofs
set_option maxRecDepth 20000
variable {P : Program}
set_option maxRecDepth 20000 in
theorem fn8 : Tryz.prog.funcs[8]? = some Tryz.f8 := rfl
set_option maxHeartbeats 40000000 in
set_option maxRecDepth 3000 in
theorem iHouseOk (hP : Prg P) {h : Hou} {d1 d2 d3 d4 d5 : List (List T)} (hd1 : encN h.z.o = d1) (hd2 : encR h.z.rs = d2) (hd3 : encN h.rv.o = d3) (hd4 : encR h.rv.rs = d4) (hd5 : encL h.ls = d5) (hb1 : BigN h.z.rs) (hb2 : BigN h.rv.rs) :
    ACall P 8 [.agg [.t (.int .i64 h.now), .t (.sl d1), .t (.sl d2), .t (.sl d3), .t (.sl d4), .t (.sl d5)]] [] (fun r ob => r = .one (.t (.bool (houseOk h))) ∧ ob = []) := by
  have hlen : d5.length = h.ls.length := by rw [← hd5]; simp [encL]
  have hhb := homeN_b.2
  have hrb := revN_b
  generalize hK : (fun (r : A) (ob : Obs) => r = A.one (V.t (.bool (houseOk h))) ∧ ob = []) = K
  refine acall_fn (md := md) [none] v8 hP.mixed hP.tab (fn_at hP fn8) 1 rfl (by decide +kernel) rfl ?_
  intro ar har
  cbv
  repeat' (first | (intro; cbv) | (with_reducible refine and_side ?_ ?_; rotate_left; try cbv) | (refine ChkP.mk (by decide +kernel) ?_; cbv) | (refine br_intro ?_ ?_ <;> intro <;> cbv) | (refine side_sh har ?_; decide) | (refine call_intro (iWithin hP) ?_; rintro r ob ⟨rfl, rfl⟩; generalize hwi : withinB _ _ _ = wi; cbv) | (refine calld_intro (iWithin hP) ?_; generalize hwi : withinB _ _ _ = wi; cbv) | (refine call_intro (iZoneOk hP (by assumption) (by assumption) (by assumption)) ?_; rintro r ob ⟨rfl, rfl⟩; generalize hzo : zoneOk _ = zo; cbv) | (refine calld_intro (iZoneOk hP (by assumption) (by assumption) (by assumption)) ?_; generalize hzo : zoneOk _ = zo; cbv))
  case refine_1 =>
    have h0 := bnot_t har (by assumption : ar.bnot wi = true)
    rw [h0] at hwi
    exact hou_f hK (by rw [houseOk, show decide (0 ≤ h.now ∧ h.now ≤ 1000000) = false from hwi]; rfl)
  case refine_2.refine_1 =>
    have h0 := bnot_t har (by assumption : ar.bnot zo = true)
    exact hou_f hK (by rw [houseOk, hzo, h0]; simp)
  case refine_2.refine_2.refine_1 =>
    have h0 := bnot_t har (by assumption : ar.bnot zo = true)
    exact hou_f hK (by rw [houseOk, hzo, h0]; simp)
  rename_i hwb zo1 hz1 hz1b hz2b
  have n0 : decide (0 ≤ h.now ∧ h.now ≤ 1000000) = true := hwi.trans (bnot_f har hwb)
  have z1 := hz1.trans (bnot_f har hz1b)
  have z2 := hzo.trans (bnot_f har hz2b)
  have o1 := zone_ol z1
  have o2 := zone_ol z2
  refine calld_intro (iHome hP) ?_
  generalize hhom : encN homeN = homs
  cbv
  repeat' (first | (intro; cbv) | (with_reducible refine and_side ?_ ?_; rotate_left; try cbv) | (refine ChkP.mk (by decide +kernel) ?_; cbv) | (refine br_intro ?_ ?_ <;> intro <;> cbv) | (refine side_sh har ?_; decide) | (refine call_intro (iNameIs hP (by assumption) (by assumption) (by omega) (by omega)) ?_; rintro r ob ⟨rfl, rfl⟩; generalize hni : (@BEq.beq (List (List UInt8)) _ _ _) = ni; cbv) | (refine calld_intro (iNameIs hP (by assumption) (by assumption) (by omega) (by omega)) ?_; generalize hni : (@BEq.beq (List (List UInt8)) _ _ _) = ni; cbv))
  case refine_1 =>
    have h0 := bnot_t har (by assumption : ar.bnot ni = true)
    exact hou_f hK (by rw [houseOk, hni, h0]; simp)
  rename_i ho1b
  have q1 : (h.z.o == homeN) = true := hni.trans (bnot_f har ho1b)
  refine calld_intro (iRev hP) ?_
  generalize hrev : encN revN = revs
  cbv
  repeat' (first | (intro; cbv) | (with_reducible refine and_side ?_ ?_; rotate_left; try cbv) | (refine ChkP.mk (by decide +kernel) ?_; cbv) | (refine br_intro ?_ ?_ <;> intro <;> cbv) | (refine side_sh har ?_; decide))
  refine calld_intro (iNameIs hP hd3 hrev (by omega) (by omega)) ?_
  generalize hni2 : (h.rv.o == revN) = ni2
  cbv
  repeat' (first | (intro; cbv) | (with_reducible refine and_side ?_ ?_; rotate_left; try cbv) | (refine ChkP.mk (by decide +kernel) ?_; cbv) | (refine br_intro ?_ ?_ <;> intro <;> cbv) | (refine side_sh har ?_; decide))
  case refine_1 =>
    have h0 := bnot_t har (by assumption : ar.bnot ni2 = true)
    exact hou_f hK (by rw [houseOk, hni2, h0]; simp)
  case refine_2.refine_1 =>
    have h0 := gt_cmp har (by assumption : ar.icmp .gtr (ar.len d5) 8 = true)
    have h1 : ¬ h.ls.length ≤ 8 := by subst har; have h0 : (8 : Int) < (d5.length : Int) := h0; omega
    exact hou_f hK (by rw [houseOk, decide_eq_false h1]; simp)
  rename_i ho2b hbg hle hbg2
  have q2 : (h.rv.o == revN) = true := hni2.trans (bnot_f har ho2b)
  have h8 : h.ls.length ≤ 8 := by
    have h0 := le_cmp har hle
    subst har; have h0 : (d5.length : Int) ≤ 8 := h0; omega
  have k1 := zone_rr z1
  have k2 := zone_rr z2
  refine loop_start [42] [] ?_
  cbv
  refine LoopR.mk Int (fun x => ([(46, .one (.t (.int .i64 x)))], [])) (fun x => 0 ≤ x ∧ x.toNat ≤ h.ls.length ∧ leasOk h x.toNat = true) (fun x => h.ls.length - x.toNat) 0 ?e ?f ?g
  case e => kernel_rfl
  case f => exact ⟨Int.le_refl _, Nat.zero_le _, rfl⟩
  case g =>
    intro i hi
    have hi0 : 0 ≤ i := hi.1
    have hil : i.toNat ≤ h.ls.length := hi.2.1
    have hlk : leasOk h i.toNat = true := hi.2.2
    clear hi
    cbv
    repeat' (first | (intro; cbv) | (with_reducible refine and_side ?_ ?_; rotate_left; try cbv) | (refine ChkP.mk (by decide +kernel) ?_; cbv) | (refine br_intro ?_ ?_ <;> intro <;> cbv) | (refine side_sh har ?_; decide) | (refine get_ltL har (by assumption) (by assumption) (by assumption) ?_; intro x e1 e2 hx he1 he2; cbv) | (refine call_intro (iLeaseOk hP (by assumption) (by assumption)) ?_; rintro r ob ⟨rfl, rfl⟩; generalize hlo : leaOk _ _ = lo; cbv) | (refine calld_intro (iLeaseOk hP (by assumption) (by assumption)) ?_; generalize hlo : leaOk _ _ = lo; cbv))
    case refine_2 =>
      have hend := ge_len har (by assumption : ar.icmp .lss i (ar.len d5) = false) hi0
      have e : h.ls.length = i.toNat := by omega
      subst hK
      refine ⟨⟨?_, rfl⟩⟩
      rw [houseOk, z1, z2, q1, q2, e, hlk, n0, decide_eq_true (show i.toNat ≤ 8 by omega)]
      rfl
    case refine_1.refine_2.refine_1 =>
      have h0 := bnot_t har (by assumption : ar.bnot lo = true)
      have hlt := (List.getElem?_eq_some_iff.1 hx).1
      exact hou_f hK (leas_bad hlt (by rw [leaRec, hx]; simp [hlo, h0]))
    case refine_1.refine_2.refine_2.refine_1 =>
      have h0 := bnot_f har (by assumption : ar.bnot lo = false)
      have hi00 := le_cmp har (by assumption : ar.icmp .gtr i 0 = false)
      have hpv : leaPrev h.ls i.toNat = true := by rw [show i.toNat = 0 by omega]; rfl
      have hlo1 : leaOk x h.now = true := hlo.trans h0
      obtain ⟨_, hcl16, hlab⟩ := lea_facts hlo1
      have hnb := host_b hlab
      have hbg5 := big_le har hbg
      have ea : ar.iop .add .i64 i 1 = i + 1 := add_std har (by omega) (by omega)
      have hlt5 := (List.getElem?_eq_some_iff.1 hx).1
      have hwon := (by assumption : x.won = true)
      refine calld_intro (iA hP he1 he2 hnb) ?_
      generalize hna : encN (x.ho :: homeN) = nas
      cbv
      repeat' (first | (intro; cbv) | (with_reducible refine and_side ?_ ?_; rotate_left; try cbv) | (refine ChkP.mk (by decide +kernel) ?_; cbv) | (refine br_intro ?_ ?_ <;> intro <;> cbv) | (refine side_sh har ?_; decide))
      refine calld_intro (iHas hP (r := leaA x) hd2 k1 (leaA_ok hlo1) hna rfl rfl rfl) ?_
      generalize hv1 : hasV h.z.rs (leaA x) = v1
      cbv
      repeat' (first | (intro; cbv) | (with_reducible refine and_side ?_ ?_; rotate_left; try cbv) | (refine ChkP.mk (by decide +kernel) ?_; cbv) | (refine br_intro ?_ ?_ <;> intro <;> cbv) | (refine side_sh har ?_; decide))
      all_goals first
        | exact absurd (bnot_f har (by assumption : ar.bnot false = false)) (by decide)
        | (have h1 : v1 = false := by first | assumption | exact bnot_t har (by assumption)
           exact hou_f hK (leas_bad hlt5 (by rw [leaRec, hx]; simp [leaHas, hwon, hv1, h1])))
        | skip
      have w1 : v1 = true := by first | assumption | exact bnot_f har (by assumption)
      replace w1 := hv1.trans w1
      refine calld_intro (iD hP he1 he2 hcl16 hnb) ?_
      generalize hdh : encB (dhcidV x.cl (x.ho :: homeN)) = dhs
      rw [hna]
      cbv
      repeat' (first | (intro; cbv) | (with_reducible refine and_side ?_ ?_; rotate_left; try cbv) | (refine ChkP.mk (by decide +kernel) ?_; cbv) | (refine br_intro ?_ ?_ <;> intro <;> cbv) | (refine side_sh har ?_; decide))
      refine calld_intro (iHas hP (r := leaD x) hd2 k1 (leaD_ok hlo1) hna rfl hdh rfl) ?_
      generalize hv2 : hasV h.z.rs (leaD x) = v2
      cbv
      repeat' (first | (intro; cbv) | (with_reducible refine and_side ?_ ?_; rotate_left; try cbv) | (refine ChkP.mk (by decide +kernel) ?_; cbv) | (refine br_intro ?_ ?_ <;> intro <;> cbv) | (refine side_sh har ?_; decide))
      all_goals first
        | exact absurd (bnot_f har (by assumption : ar.bnot false = false)) (by decide)
        | (have h1 : v2 = false := by first | assumption | exact bnot_t har (by assumption)
           exact hou_f hK (leas_bad hlt5 (by rw [leaRec, hx]; simp [leaHas, hwon, hv2, h1])))
        | skip
      have w2 : v2 = true := by first | assumption | exact bnot_f har (by assumption)
      replace w2 := hv2.trans w2
      refine calld_intro (iP hP he1 he2 hnb) ?_
      generalize hrvn : encN (revOf x.ip) = rvns
      rw [hna]
      cbv
      repeat' (first | (intro; cbv) | (with_reducible refine and_side ?_ ?_; rotate_left; try cbv) | (refine ChkP.mk (by decide +kernel) ?_; cbv) | (refine br_intro ?_ ?_ <;> intro <;> cbv) | (refine side_sh har ?_; decide))
      refine calld_intro (iHas hP (r := leaP x) hd4 k2 (leaP_ok hlo1) hrvn hna rfl rfl) ?_
      generalize hv3 : hasV h.rv.rs (leaP x) = v3
      cbv
      repeat' (first | (intro; cbv) | (with_reducible refine and_side ?_ ?_; rotate_left; try cbv) | (refine ChkP.mk (by decide +kernel) ?_; cbv) | (refine br_intro ?_ ?_ <;> intro <;> cbv) | (refine side_sh har ?_; decide))
      all_goals first
        | exact absurd (bnot_f har (by assumption : ar.bnot false = false)) (by decide)
        | (have h1 : v3 = false := by first | assumption | exact bnot_t har (by assumption)
           exact hou_f hK (leas_bad hlt5 (by rw [leaRec, hx]; simp [leaHas, hwon, hv3, h1])))
        | skip
      have w3 : v3 = true := by first | assumption | exact bnot_f har (by assumption)
      replace w3 := hv3.trans w3
      refine ⟨i + 1, by rw [← ea]; kernel_rfl, ⟨by omega, by omega, ?_⟩, by omega⟩
      rw [show (i + 1).toNat = i.toNat + 1 by omega, leas_succ, hlk, leaRec, hx]
      simp [hlo1, hpv, leaHas, w1, w2, w3]
    case refine_1.refine_2.refine_2.refine_2 =>
      have h0 := bnot_f har (by assumption : ar.bnot lo = false)
      have hi00 := le_cmp har (by assumption : ar.icmp .gtr i 0 = false)
      have hpv : leaPrev h.ls i.toNat = true := by rw [show i.toNat = 0 by omega]; rfl
      have hlo1 : leaOk x h.now = true := hlo.trans h0
      have hbg5 := big_le har hbg
      have ea : ar.iop .add .i64 i 1 = i + 1 := add_std har (by omega) (by omega)
      have hlt5 := (List.getElem?_eq_some_iff.1 hx).1
      have hwon := (by assumption : x.won = false)
      refine ⟨i + 1, by rw [← ea]; kernel_rfl, ⟨by omega, by omega, ?_⟩, by omega⟩
      rw [show (i + 1).toNat = i.toNat + 1 by omega, leas_succ, hlk, leaRec, hx]
      simp [hlo1, hpv, leaHas, hwon]
    case refine_1.refine_1 =>
      have h0 := gt_cmp har (by assumption : ar.icmp .gtr i 0 = true)
      have hb6 := big_le har hbg
      have es1 : ar.iop .sub .i64 i 1 = i - 1 := sub_std har (by omega) (by omega)
      have ej : (ar.iop .sub .i64 i 1).toNat = i.toNat - 1 := by rw [es1]; omega
      have hlt := (List.getElem?_eq_some_iff.1 hx).1
      refine get_lea har hd5 ⟨by show 0 ≤ ar.iop .sub .i64 i 1; rw [es1]; omega, by show (ar.iop .sub .i64 i 1).toNat < _; rw [ej]; omega⟩ fun y f1 f2 hy hf1 hf2 => ?_
      have hy : h.ls[(ar.iop .sub .i64 i 1).toNat]? = some y := hy
      rw [ej] at hy
      have hpe : leaPrev h.ls i.toNat = decide (y.ip < x.ip) := by
        rw [show i.toNat = (i.toNat - 1) + 1 by omega, leaPrev, hy, show i.toNat - 1 + 1 = i.toNat by omega, hx]
      cbv
      repeat' (first | (intro; cbv) | (with_reducible refine and_side ?_ ?_; rotate_left; try cbv) | (refine ChkP.mk (by decide +kernel) ?_; cbv) | (refine br_intro ?_ ?_ <;> intro <;> cbv) | (refine side_sh har ?_; decide) | (refine call_intro (iLeaseOk hP (by assumption) (by assumption)) ?_; rintro r ob ⟨rfl, rfl⟩; generalize hlo : leaOk _ _ = lo; cbv) | (refine calld_intro (iLeaseOk hP (by assumption) (by assumption)) ?_; generalize hlo : leaOk _ _ = lo; cbv))
      case refine_1 =>
        have h1 := leq_t har (by assumption : ar.icmp .leq x.ip y.ip = true)
        exact hou_f hK (leas_bad hlt (by rw [leaRec, hx]; simp only [hpe, decide_eq_false (show ¬ y.ip < x.ip by omega), Bool.false_and, Bool.and_false]))
      case refine_2.refine_1 =>
        have h0 := bnot_t har (by assumption : ar.bnot lo = true)
        exact hou_f hK (leas_bad hlt (by rw [leaRec, hx]; simp [hlo, h0]))
      all_goals
        have h0 := bnot_f har (by assumption : ar.bnot lo = false)
        have h1 := leq_f har (by assumption : ar.icmp .leq x.ip y.ip = false)
        have hpv : leaPrev h.ls i.toNat = true := by rw [hpe]; exact decide_eq_true (by omega)
      case refine_2.refine_2.refine_2 =>
        have hlo1 : leaOk x h.now = true := hlo.trans h0
        have hbg5 := big_le har hbg
        have ea : ar.iop .add .i64 i 1 = i + 1 := add_std har (by omega) (by omega)
        have hlt5 := (List.getElem?_eq_some_iff.1 hx).1
        have hwon := (by assumption : x.won = false)
        refine ⟨i + 1, by rw [← ea]; kernel_rfl, ⟨by omega, by omega, ?_⟩, by omega⟩
        rw [show (i + 1).toNat = i.toNat + 1 by omega, leas_succ, hlk, leaRec, hx]
        simp [hlo1, hpv, leaHas, hwon]
      have hlo1 : leaOk x h.now = true := hlo.trans h0
      obtain ⟨_, hcl16, hlab⟩ := lea_facts hlo1
      have hnb := host_b hlab
      have hbg5 := big_le har hbg
      have ea : ar.iop .add .i64 i 1 = i + 1 := add_std har (by omega) (by omega)
      have hlt5 := (List.getElem?_eq_some_iff.1 hx).1
      have hwon := (by assumption : x.won = true)
      refine calld_intro (iA hP he1 he2 hnb) ?_
      generalize hna : encN (x.ho :: homeN) = nas
      cbv
      repeat' (first | (intro; cbv) | (with_reducible refine and_side ?_ ?_; rotate_left; try cbv) | (refine ChkP.mk (by decide +kernel) ?_; cbv) | (refine br_intro ?_ ?_ <;> intro <;> cbv) | (refine side_sh har ?_; decide))
      refine calld_intro (iHas hP (r := leaA x) hd2 k1 (leaA_ok hlo1) hna rfl rfl rfl) ?_
      generalize hv1 : hasV h.z.rs (leaA x) = v1
      cbv
      repeat' (first | (intro; cbv) | (with_reducible refine and_side ?_ ?_; rotate_left; try cbv) | (refine ChkP.mk (by decide +kernel) ?_; cbv) | (refine br_intro ?_ ?_ <;> intro <;> cbv) | (refine side_sh har ?_; decide))
      all_goals first
        | exact absurd (bnot_f har (by assumption : ar.bnot false = false)) (by decide)
        | (have h1 : v1 = false := by first | assumption | exact bnot_t har (by assumption)
           exact hou_f hK (leas_bad hlt5 (by rw [leaRec, hx]; simp [leaHas, hwon, hv1, h1])))
        | skip
      have w1 : v1 = true := by first | assumption | exact bnot_f har (by assumption)
      replace w1 := hv1.trans w1
      refine calld_intro (iD hP he1 he2 hcl16 hnb) ?_
      generalize hdh : encB (dhcidV x.cl (x.ho :: homeN)) = dhs
      rw [hna]
      cbv
      repeat' (first | (intro; cbv) | (with_reducible refine and_side ?_ ?_; rotate_left; try cbv) | (refine ChkP.mk (by decide +kernel) ?_; cbv) | (refine br_intro ?_ ?_ <;> intro <;> cbv) | (refine side_sh har ?_; decide))
      refine calld_intro (iHas hP (r := leaD x) hd2 k1 (leaD_ok hlo1) hna rfl hdh rfl) ?_
      generalize hv2 : hasV h.z.rs (leaD x) = v2
      cbv
      repeat' (first | (intro; cbv) | (with_reducible refine and_side ?_ ?_; rotate_left; try cbv) | (refine ChkP.mk (by decide +kernel) ?_; cbv) | (refine br_intro ?_ ?_ <;> intro <;> cbv) | (refine side_sh har ?_; decide))
      all_goals first
        | exact absurd (bnot_f har (by assumption : ar.bnot false = false)) (by decide)
        | (have h1 : v2 = false := by first | assumption | exact bnot_t har (by assumption)
           exact hou_f hK (leas_bad hlt5 (by rw [leaRec, hx]; simp [leaHas, hwon, hv2, h1])))
        | skip
      have w2 : v2 = true := by first | assumption | exact bnot_f har (by assumption)
      replace w2 := hv2.trans w2
      refine calld_intro (iP hP he1 he2 hnb) ?_
      generalize hrvn : encN (revOf x.ip) = rvns
      rw [hna]
      cbv
      repeat' (first | (intro; cbv) | (with_reducible refine and_side ?_ ?_; rotate_left; try cbv) | (refine ChkP.mk (by decide +kernel) ?_; cbv) | (refine br_intro ?_ ?_ <;> intro <;> cbv) | (refine side_sh har ?_; decide))
      refine calld_intro (iHas hP (r := leaP x) hd4 k2 (leaP_ok hlo1) hrvn hna rfl rfl) ?_
      generalize hv3 : hasV h.rv.rs (leaP x) = v3
      cbv
      repeat' (first | (intro; cbv) | (with_reducible refine and_side ?_ ?_; rotate_left; try cbv) | (refine ChkP.mk (by decide +kernel) ?_; cbv) | (refine br_intro ?_ ?_ <;> intro <;> cbv) | (refine side_sh har ?_; decide))
      all_goals first
        | exact absurd (bnot_f har (by assumption : ar.bnot false = false)) (by decide)
        | (have h1 : v3 = false := by first | assumption | exact bnot_t har (by assumption)
           exact hou_f hK (leas_bad hlt5 (by rw [leaRec, hx]; simp [leaHas, hwon, hv3, h1])))
        | skip
      have w3 : v3 = true := by first | assumption | exact bnot_f har (by assumption)
      replace w3 := hv3.trans w3
      refine ⟨i + 1, by rw [← ea]; kernel_rfl, ⟨by omega, by omega, ?_⟩, by omega⟩
      rw [show (i + 1).toNat = i.toNat + 1 by omega, leas_succ, hlk, leaRec, hx]
      simp [hlo1, hpv, leaHas, w1, w2, w3]
end Go.TL.Tryz

/- TfLofJ -/
namespace Go.TL.Tryz
open Go Go.TL Go.Proofs
set_option maxRecDepth 20000
variable {P : Program}
set_option maxRecDepth 20000 in
theorem fn11 : Tryz.prog.funcs[11]? = some Tryz.f11 := rfl
set_option maxHeartbeats 40000000 in
set_option maxRecDepth 3000 in
theorem iLeaseOf (hP : Prg P) {h : Hou} {d1 d2 d3 d4 d5 : List (List T)} (hd1 : encN h.z.o = d1) (hd2 : encR h.z.rs = d2) (hd3 : encN h.rv.o = d3) (hd4 : encR h.rv.rs = d4) (hd5 : encL h.ls = d5) (hb1 : BigN h.z.rs) (hb2 : BigN h.rv.rs) {ip : Int} :
    ACall P 11 [.agg [.t (.int .i64 h.now), .t (.sl d1), .t (.sl d2), .t (.sl d3), .t (.sl d4), .t (.sl d5)], .one (.t (.int .i64 ip))] []
    (fun r ob => ∃ x b e1 e2, LeaR h ip x b e1 e2 ∧ r = .tup [.agg [.t (.int .i64 x.ip), .row 32 0, .row 33 0, .t (.int .i64 x.til), .t (.bool x.won)], .one (.t (.bool b))] ∧ ob = [(32, .row 1 e1 0 [0] false), (33, .row 1 e2 0 [0] false)]) := by
  refine acall_fn (md := mdN) [some [(1, 1), (2, 1)], none] v11 hP.mixed hP.tab (fn_at hP fn11) 2 rfl (by decide +kernel) rfl ?_
  intro ar har
  cbv
  repeat' (first | (refine br_intro ?_ ?_ <;> intro <;> cbv) | (refine call_intro (iFind hP (by assumption)) ?_; rintro r ob ⟨v, hv, rfl, rfl⟩; cbv) | (refine call_intro (iHouseOk hP (by assumption) (by assumption) (by assumption) (by assumption) (by assumption) (by assumption) (by assumption)) ?_; rintro r ob ⟨rfl, rfl⟩; generalize hho : houseOk _ = hho1; cbv))
  case refine_1 =>
    have h0 := lt_cmp har (by assumption : ar.icmp .lss v 0 = true)
    exact ⟨⟨_, _, _, _, ⟨leaseR_out hv h0, rfl, rfl⟩, rfl, rfl⟩⟩
  case refine_2.refine_1 =>
    have h0 := hho.trans (bnot_t har (by assumption : ar.bnot hho1 = true))
    exact ⟨⟨_, _, _, _, ⟨leaseR_no h0, rfl, rfl⟩, rfl, rfl⟩⟩
  have h0 := ge_cmp har (by assumption : ar.icmp .lss v 0 = false)
  have hok := hho.trans (bnot_f har (by assumption : ar.bnot hho1 = false))
  obtain ⟨x, hx, hr⟩ := leaseR_in hok hv h0
  obtain ⟨e1, he1⟩ : ∃ e, encB x.cl = e := ⟨_, rfl⟩
  obtain ⟨e2, he2⟩ : ∃ e, encB x.ho = e := ⟨_, rfl⟩
  have hsz := hou_lea hok hx
  refine get_atL har hd5 hx he1 he2 h0 ?_
  cbv
  repeat' (first | (refine call_intro (iCopL hP (by assumption) (by assumption) (by assumption)) ?_; rintro r ob ⟨rfl, rfl⟩; cbv))
  exact ⟨⟨x, true, e1, e2, ⟨hr, he1, he2⟩, rfl, rfl⟩⟩
end Go.TL.Tryz

/- TfMarA -/
namespace Go.TL.Tryz
open Go Go.TL Go.Proofs
set_option maxRecDepth 20000
variable {P : Program}
/-- Marks on elements, one behind the other. -/
def mkS {α : Type} (f : Nat → α → α × Nat) : Nat → List α → List α × Nat
  | k, [] => ([], k)
  | k, x :: r => ((f k x).1 :: (mkS f (f k x).2 r).1, (mkS f (f k x).2 r).2)
section
variable {α : Type} {f : Nat → α → α × Nat}
theorem mkS_snoc (f : Nat → α → α × Nat) : ∀ (k : Nat) (l : List α) (x : α), mkS f k (l ++ [x]) = ((mkS f k l).1 ++ [(f (mkS f k l).2 x).1], (f (mkS f k l).2 x).2)
  | k, [], x => rfl
  | k, y :: l, x => by simp only [List.cons_append, mkS, mkS_snoc f (f k y).2 l x]
theorem mkS_len (f : Nat → α → α × Nat) : ∀ (k : Nat) (l : List α), (mkS f k l).1.length = l.length
  | k, [] => rfl
  | k, y :: l => by simp [mkS, mkS_len f (f k y).2 l]
theorem mkS_le (hm : ∀ k x, k ≤ (f k x).2) : ∀ (k : Nat) (l : List α), k ≤ (mkS f k l).2
  | k, [] => Nat.le_refl _
  | k, y :: l => Nat.le_trans (hm k y) (mkS_le hm (f k y).2 l)
theorem mkS_app (f : Nat → α → α × Nat) : ∀ (k : Nat) (l m : List α), mkS f k (l ++ m) = ((mkS f k l).1 ++ (mkS f (mkS f k l).2 m).1, (mkS f (mkS f k l).2 m).2)
  | k, [], m => rfl
  | k, y :: l, m => by simp only [List.cons_append, mkS, mkS_app f (f k y).2 l m]
theorem mkS_take_le (hm : ∀ k x, k ≤ (f k x).2) (k : Nat) (l : List α) (i : Nat) : (mkS f k (l.take i)).2 ≤ (mkS f k l).2 := by
  have := mkS_app f k (l.take i) (l.drop i)
  rw [List.take_append_drop] at this
  rw [this]
  exact mkS_le hm _ _
theorem mkS_next (f : Nat → α → α × Nat) (k : Nat) {l : List α} {i : Nat} {x : α} (hx : l[i]? = some x) : mkS f k (l.take (i + 1)) = ((mkS f k (l.take i)).1 ++ [(f (mkS f k (l.take i)).2 x).1], (f (mkS f k (l.take i)).2 x).2) := by
  rw [List.take_add_one, hx]
  exact mkS_snoc f k _ x
/-- Marked so far. -/
def half (f : Nat → α → α × Nat) (k : Nat) (l : List α) (i : Nat) : List α := (mkS f k (l.take i)).1 ++ l.drop i
theorem half_len {k : Nat} {l : List α} {i : Nat} : (half f k l i).length = l.length := by simp [half, mkS_len]; omega
theorem half_zero {k : Nat} {l : List α} : half f k l 0 = l := by simp [half, mkS]
theorem half_end {k : Nat} {l : List α} : half f k l l.length = (mkS f k l).1 := by simp [half]
theorem half_get {k : Nat} {l : List α} {i : Nat} {x : α} (hx : l[i]? = some x) : (half f k l i)[i]? = some x := by
  have hi := (List.getElem?_eq_some_iff.1 hx).1
  have hl : (mkS f k (l.take i)).1.length = i := by rw [mkS_len]; simp; omega
  rw [half, List.getElem?_append_right (by omega), hl, Nat.sub_self, List.getElem?_drop]
  exact hx
theorem half_set {k : Nat} {l : List α} {i : Nat} {x : α} (hx : l[i]? = some x) : (half f k l i).set i (f (mkS f k (l.take i)).2 x).1 = half f k l (i + 1) := by
  have hi := (List.getElem?_eq_some_iff.1 hx).1
  have hl : (mkS f k (l.take i)).1.length = i := by rw [mkS_len]; simp; omega
  have hd : l.drop i = x :: l.drop (i + 1) := by
    rw [List.drop_eq_getElem_cons hi]
    rw [List.getElem?_eq_getElem hi] at hx
    rw [Option.some.inj hx]
  rw [half, half, mkS_next f k hx, hd, List.set_append_right _ _ (by omega), hl, Nat.sub_self]
  simp
end
def fB (k : Nat) (_ : UInt8) : UInt8 × Nat := (byteOf k, k + 1)
theorem fB_le (k : Nat) (x : UInt8) : k ≤ (fB k x).2 := Nat.le_succ k
def fI (k : Nat) (_ : Int) : Int × Nat := ((k : Int), k + 1)
theorem fI_le (k : Nat) (x : Int) : k ≤ (fI k x).2 := Nat.le_succ k
def fN (k : Nat) (x : List UInt8) : List UInt8 × Nat := mkS fB k x
theorem fN_le (k : Nat) (x : List UInt8) : k ≤ (fN k x).2 := mkS_le fB_le k x
/-- How marks are set: in place. -/
def mdM (n : Nat) : Md := bif eqB n 48 then ⟨[some [(1000000, 2000001)]], false⟩ else bif eqB n 136 then ⟨[some [(1000000, 2000001)]], false⟩ else bif eqB n 135 then ⟨[some [(1000000, 2000001)]], false⟩ else ⟨[some [(1000000, 0)]], false⟩
theorem getp_setc {ar : Ar} (har : ar = std) {es : List (List T)} {i : Int} {j : Nat} {vs : List T} {K : List T → Prop} (h : GetP ar es i fun e => K (setAt e j vs)) : GetP ar (ar.setc es i j vs) i K := by
  subst har
  obtain ⟨⟨h0, h1⟩, k⟩ := h
  refine ⟨⟨h0, by simpa [std] using h1⟩, ?_⟩
  have hi : i.toNat < es.length := by omega
  have e : std.get (std.setc es i j vs) i = setAt (std.get es i) j vs := by
    show (es.modify i.toNat fun e => setAt e j vs).getD i.toNat [] = setAt (es.getD i.toNat []) j vs
    simp [List.getD, hi]
  rw [e]
  exact k
theorem side_setc {ar : Ar} (har : ar = std) {es : List (List T)} {i i' : Int} {j : Nat} {vs : List T} (h : ar.inb i' es) : ar.inb i' (ar.setc es i j vs) := by
  subst har
  exact ⟨h.1, by simpa [std] using h.2⟩
theorem setc_at {es : List (List T)} {i : Int} {j : Nat} {vs e : List T} (h : es[i.toNat]? = some e) : std.setc es i j vs = es.set i.toNat (setAt e j vs) := by
  show es.modify i.toNat (fun e => setAt e j vs) = _
  apply List.ext_getElem?
  intro q
  rw [modify_get, List.getElem?_set]
  by_cases r : i.toNat = q
  · subst r
    rw [if_pos rfl, if_pos rfl, if_pos (List.getElem?_eq_some_iff.1 h).1, h]; rfl
  · rw [if_neg r, if_neg r]
theorem setc_set {es : List (List T)} {i : Int} {j : Nat} {vs e : List T} (h : i.toNat < es.length) : std.setc (es.set i.toNat e) i j vs = es.set i.toNat (setAt e j vs) := by
  rw [setc_at (e := e) (by simp [h]), List.set_set]
theorem side_widB {ar : Ar} (har : ar = std) {l : List UInt8} {es : List (List T)} (h : encB l = es) : Side (ar.wid 1 es) := by
  subst har; subst h; exact ⟨wid_byte l⟩
theorem side_widI {ar : Ar} (har : ar = std) {l : List Int} {es : List (List T)} (h : encI l = es) : Side (ar.wid 1 es) := by
  subst har; subst h; exact ⟨by intro x hx; simp [encI] at hx; obtain ⟨n, _, rfl⟩ := hx; rfl⟩
theorem side_widN {ar : Ar} (har : ar = std) {l : List (List UInt8)} {es : List (List T)} (h : encN l = es) : Side (ar.wid 1 es) := by
  subst har; subst h; exact ⟨by intro x hx; simp [encN] at hx; obtain ⟨n, _, rfl⟩ := hx; rfl⟩
theorem rem3 {ar : Ar} (har : ar = std) {k : Int} {n : Nat} (h0 : 0 ≤ k) (h : k.toNat = n) : decide (n % 3 = 0) = ar.icmp .eql (ar.iop .rem .i64 k 3) 0 := by
  subst har
  show _ = (k.tmod 3 == 0)
  rw [Int.tmod_eq_emod_of_nonneg h0, Bool.eq_iff_iff, decide_eq_true_eq, beq_iff_eq]
  omega

theorem encB_set (l : List UInt8) (i : Nat) (x : UInt8) : encB (l.set i x) = (encB l).set i [.int .u8 x.toNat] := by simp [encB, List.map_set]
set_option maxRecDepth 20000 in
theorem fn48 : Tryz.prog.funcs[48]? = some Tryz.f48 := rfl
set_option maxHeartbeats 40000000 in
set_option maxRecDepth 3000 in
theorem markByteS (hP : Prg P) {l : List UInt8} {es : List (List T)} (h : encB l = es) {k : Int} (hk : 0 ≤ k) (hb : (mkS fB k.toNat l).2 ≤ 9000000000000000000) : ACall P 48 [.one (.row 0 7), .one (.t (.int .i64 k))] [(0, .row 2000001 es 7 [7] false)]
    (fun r ob => ∃ (v : Int) (es2 : List (List T)), 0 ≤ v ∧ v.toNat = (mkS fB k.toNat l).2 ∧ encB (mkS fB k.toNat l).1 = es2 ∧ r = .one (.t (.int .i64 v)) ∧ ob = [(0, .row 2000001 es2 7 [7] false)]) := by
  have hll := encB_len h
  generalize hK : (fun (r : A) (ob : Obs) => ∃ (v : Int) (es2 : List (List T)), 0 ≤ v ∧ v.toNat = (mkS fB k.toNat l).2 ∧ encB (mkS fB k.toNat l).1 = es2 ∧ r = A.one (V.t (T.int .i64 v)) ∧ ob = [(0, Ob.row 2000001 es2 7 [7] false)]) = K
  refine acall_fn (md := mdM) [none] v48 hP.mixed hP.tab (fn_at hP fn48) 2 rfl (by decide +kernel) rfl ?_
  intro ar har
  cbv
  repeat' (first | (intro; cbv) | (with_reducible refine and_side ?_ ?_; rotate_left; try cbv) | (refine ChkP.mk (by decide +kernel) ?_; cbv) | (refine br_intro ?_ ?_ <;> intro <;> cbv) | (refine side_sh har ?_; decide))
  refine loop_start [] [] ?_
  cbv
  refine LoopR.mk (List (List T) × Int × Int) (fun x => ([(1, .one (.t (.int .i64 x.2.1))), (5, .one (.t (.int .i64 x.2.2)))], [(0, .row 2000001 x.1 7 [7] false)])) (fun x => encB (half fB k.toNat l x.2.2.toNat) = x.1 ∧ 0 ≤ x.2.2 ∧ x.2.2.toNat ≤ l.length ∧ 0 ≤ x.2.1 ∧ x.2.1.toNat = (mkS fB k.toNat (l.take x.2.2.toNat)).2) (fun x => l.length - x.2.2.toNat) (es, k, 0) ?e ?f ?g
  case e => kernel_rfl
  case f => exact ⟨by show encB (half fB k.toNat l 0) = es; rw [half_zero]; exact h, Int.le_refl _, Nat.zero_le _, hk, rfl⟩
  case g =>
    intro y hy
    obtain ⟨ls, q, i⟩ := y
    have hls : encB (half fB k.toNat l i.toNat) = ls := hy.1
    have hi0 : 0 ≤ i := hy.2.1
    have hil : i.toNat ≤ l.length := hy.2.2.1
    have hq0 : 0 ≤ q := hy.2.2.2.1
    have hq : q.toNat = (mkS fB k.toNat (l.take i.toNat)).2 := hy.2.2.2.2
    clear hy
    have hlsl : ls.length = l.length := by rw [encB_len hls, half_len]
    cbv
    repeat' (first | (intro; cbv) | (with_reducible refine and_side ?_ ?_; rotate_left; try cbv) | (refine br_intro ?_ ?_ <;> intro <;> cbv))
    case refine_2 =>
      have hend := ge_len har (by assumption) hi0
      have e : i.toNat = l.length := by omega
      subst hK
      refine ⟨⟨q, ls, hq0, ?_, ?_, rfl, rfl⟩⟩
      · rw [hq, e, List.take_of_length_le (Nat.le_refl _)]
      · rw [← hls, e, half_end]
    all_goals have hlt := lt_len har (by assumption : ar.icmp .lss i (ar.len ls) = true) hi0
    all_goals have hin : ar.inb i ls := by subst har; exact ⟨hi0, by omega⟩
    all_goals first | exact ⟨hin⟩ | skip
    have hbl := big_le har (by assumption : ar.big ls)
    have hx := List.getElem?_eq_getElem (show i.toNat < l.length by omega)
    generalize l[i.toNat] = x at hx
    have hxh := half_get (f := fB) (k := k.toNat) hx
    have hnx := mkS_next fB k.toNat hx
    have hbn := mkS_take_le fB_le k.toNat l (i.toNat + 1)
    rw [hnx, ← hq] at hbn
    have hbx : (fB q.toNat x).2 ≤ 9000000000000000000 := Nat.le_trans hbn hb
    have hfx := fB_le q.toNat x
    have ei : ar.iop .add .i64 i 1 = i + 1 := add_std har (by omega) (by omega)
    have e1 : ar.iop .add .i64 q 1 = q + 1 := add_std har (by omega) (by have : (fB q.toNat x).2 = q.toNat + 1 := rfl; omega)
    refine ⟨((ar.setc ls i 0 [.int .u8 (ar.conv .u8 q)]), (ar.iop .add .i64 q 1), ar.iop .add .i64 i 1), by kernel_rfl, ⟨?_, by dsimp only; omega, by dsimp only; omega, by dsimp only; omega, ?_⟩, by dsimp only; omega⟩
    · dsimp only
      rw [show (ar.iop .add .i64 i 1).toNat = i.toNat + 1 by omega, ← half_set hx, encB_set, hls, ← hq]
      subst har
      have he : ls[i.toNat]? = some _ := at_B hls hxh rfl
      rw [setc_at he]
      show _ = ls.set i.toNat [.int .u8 (IntKind.u8.wrap q)]
      rw [← byteOf_wrap, show (fB q.toNat x).1 = byteOf q from by show byteOf ((q.toNat : Nat) : Int) = _; rw [show ((q.toNat : Nat) : Int) = q by omega]]
    · dsimp only
      rw [show (ar.iop .add .i64 i 1).toNat = i.toNat + 1 by omega, hnx, ← hq]
      show (ar.iop .add .i64 q 1).toNat = q.toNat + 1
      omega
theorem encI_set (l : List Int) (i : Nat) (x : Int) : encI (l.set i x) = (encI l).set i [.int .i64 x] := by simp [encI, List.map_set]
set_option maxRecDepth 20000 in
theorem fn136 : Tryz.prog.funcs[136]? = some Tryz.f136 := rfl
set_option maxHeartbeats 40000000 in
set_option maxRecDepth 3000 in
theorem markIntS (hP : Prg P) {l : List Int} {es : List (List T)} (h : encI l = es) {k : Int} (hk : 0 ≤ k) (hb : (mkS fI k.toNat l).2 ≤ 9000000000000000000) : ACall P 136 [.one (.row 0 7), .one (.t (.int .i64 k))] [(0, .row 2000001 es 7 [7] false)]
    (fun r ob => ∃ (v : Int) (es2 : List (List T)), 0 ≤ v ∧ v.toNat = (mkS fI k.toNat l).2 ∧ encI (mkS fI k.toNat l).1 = es2 ∧ r = .one (.t (.int .i64 v)) ∧ ob = [(0, .row 2000001 es2 7 [7] false)]) := by
  have hll := encI_len h
  generalize hK : (fun (r : A) (ob : Obs) => ∃ (v : Int) (es2 : List (List T)), 0 ≤ v ∧ v.toNat = (mkS fI k.toNat l).2 ∧ encI (mkS fI k.toNat l).1 = es2 ∧ r = A.one (V.t (T.int .i64 v)) ∧ ob = [(0, Ob.row 2000001 es2 7 [7] false)]) = K
  refine acall_fn (md := mdM) [none] v136 hP.mixed hP.tab (fn_at hP fn136) 2 rfl (by decide +kernel) rfl ?_
  intro ar har
  cbv
  repeat' (first | (intro; cbv) | (with_reducible refine and_side ?_ ?_; rotate_left; try cbv) | (refine ChkP.mk (by decide +kernel) ?_; cbv) | (refine br_intro ?_ ?_ <;> intro <;> cbv) | (refine side_sh har ?_; decide))
  refine loop_start [] [] ?_
  cbv
  refine LoopR.mk (List (List T) × Int × Int) (fun x => ([(1, .one (.t (.int .i64 x.2.1))), (5, .one (.t (.int .i64 x.2.2)))], [(0, .row 2000001 x.1 7 [7] false)])) (fun x => encI (half fI k.toNat l x.2.2.toNat) = x.1 ∧ 0 ≤ x.2.2 ∧ x.2.2.toNat ≤ l.length ∧ 0 ≤ x.2.1 ∧ x.2.1.toNat = (mkS fI k.toNat (l.take x.2.2.toNat)).2) (fun x => l.length - x.2.2.toNat) (es, k, 0) ?e ?f ?g
  case e => kernel_rfl
  case f => exact ⟨by show encI (half fI k.toNat l 0) = es; rw [half_zero]; exact h, Int.le_refl _, Nat.zero_le _, hk, rfl⟩
  case g =>
    intro y hy
    obtain ⟨ls, q, i⟩ := y
    have hls : encI (half fI k.toNat l i.toNat) = ls := hy.1
    have hi0 : 0 ≤ i := hy.2.1
    have hil : i.toNat ≤ l.length := hy.2.2.1
    have hq0 : 0 ≤ q := hy.2.2.2.1
    have hq : q.toNat = (mkS fI k.toNat (l.take i.toNat)).2 := hy.2.2.2.2
    clear hy
    have hlsl : ls.length = l.length := by rw [encI_len hls, half_len]
    cbv
    repeat' (first | (intro; cbv) | (with_reducible refine and_side ?_ ?_; rotate_left; try cbv) | (refine br_intro ?_ ?_ <;> intro <;> cbv))
    case refine_2 =>
      have hend := ge_len har (by assumption) hi0
      have e : i.toNat = l.length := by omega
      subst hK
      refine ⟨⟨q, ls, hq0, ?_, ?_, rfl, rfl⟩⟩
      · rw [hq, e, List.take_of_length_le (Nat.le_refl _)]
      · rw [← hls, e, half_end]
    all_goals have hlt := lt_len har (by assumption : ar.icmp .lss i (ar.len ls) = true) hi0
    all_goals have hin : ar.inb i ls := by subst har; exact ⟨hi0, by omega⟩
    all_goals first | exact ⟨hin⟩ | skip
    have hbl := big_le har (by assumption : ar.big ls)
    have hx := List.getElem?_eq_getElem (show i.toNat < l.length by omega)
    generalize l[i.toNat] = x at hx
    have hxh := half_get (f := fI) (k := k.toNat) hx
    have hnx := mkS_next fI k.toNat hx
    have hbn := mkS_take_le fI_le k.toNat l (i.toNat + 1)
    rw [hnx, ← hq] at hbn
    have hbx : (fI q.toNat x).2 ≤ 9000000000000000000 := Nat.le_trans hbn hb
    have hfx := fI_le q.toNat x
    have ei : ar.iop .add .i64 i 1 = i + 1 := add_std har (by omega) (by omega)
    have e1 : ar.iop .add .i64 q 1 = q + 1 := add_std har (by omega) (by have : (fI q.toNat x).2 = q.toNat + 1 := rfl; omega)
    refine ⟨((ar.setc ls i 0 [.int .i64 q]), (ar.iop .add .i64 q 1), ar.iop .add .i64 i 1), by kernel_rfl, ⟨?_, by dsimp only; omega, by dsimp only; omega, by dsimp only; omega, ?_⟩, by dsimp only; omega⟩
    · dsimp only
      rw [show (ar.iop .add .i64 i 1).toNat = i.toNat + 1 by omega, ← half_set hx, encI_set, hls, ← hq]
      subst har
      have he : ls[i.toNat]? = some _ := at_I hls hxh
      rw [setc_at he]
      show ls.set i.toNat [.int .i64 ((q.toNat : Nat) : Int)] = ls.set i.toNat [.int .i64 q]
      rw [show ((q.toNat : Nat) : Int) = q by omega]
    · dsimp only
      rw [show (ar.iop .add .i64 i 1).toNat = i.toNat + 1 by omega, hnx, ← hq]
      show (ar.iop .add .i64 q 1).toNat = q.toNat + 1
      omega
theorem encN_set (l : List (List UInt8)) (i : Nat) (x : List UInt8) : encN (l.set i x) = (encN l).set i [.sl (encB x)] := by simp [encN, List.map_set]
set_option maxRecDepth 20000 in
theorem fn135 : Tryz.prog.funcs[135]? = some Tryz.f135 := rfl
set_option maxHeartbeats 40000000 in
set_option maxRecDepth 3000 in
theorem markByteSS (hP : Prg P) {l : List (List UInt8)} {es : List (List T)} (h : encN l = es) {k : Int} (hk : 0 ≤ k) (hb : (mkS fN k.toNat l).2 ≤ 9000000000000000000) : ACall P 135 [.one (.row 0 7), .one (.t (.int .i64 k))] [(0, .row 2000001 es 7 [7] false)]
    (fun r ob => ∃ (v : Int) (es2 : List (List T)), 0 ≤ v ∧ v.toNat = (mkS fN k.toNat l).2 ∧ encN (mkS fN k.toNat l).1 = es2 ∧ r = .one (.t (.int .i64 v)) ∧ ob = [(0, .row 2000001 es2 7 [7] false)]) := by
  have hll := encN_len h
  generalize hK : (fun (r : A) (ob : Obs) => ∃ (v : Int) (es2 : List (List T)), 0 ≤ v ∧ v.toNat = (mkS fN k.toNat l).2 ∧ encN (mkS fN k.toNat l).1 = es2 ∧ r = A.one (V.t (T.int .i64 v)) ∧ ob = [(0, Ob.row 2000001 es2 7 [7] false)]) = K
  refine acall_fn (md := mdM) [none] v135 hP.mixed hP.tab (fn_at hP fn135) 2 rfl (by decide +kernel) rfl ?_
  intro ar har
  cbv
  repeat' (first | (intro; cbv) | (with_reducible refine and_side ?_ ?_; rotate_left; try cbv) | (refine ChkP.mk (by decide +kernel) ?_; cbv) | (refine br_intro ?_ ?_ <;> intro <;> cbv) | (refine side_sh har ?_; decide))
  refine loop_start [] [] ?_
  cbv
  refine LoopR.mk (List (List T) × Int × Int) (fun x => ([(1, .one (.t (.int .i64 x.2.1))), (5, .one (.t (.int .i64 x.2.2)))], [(0, .row 2000001 x.1 7 [7] false)])) (fun x => encN (half fN k.toNat l x.2.2.toNat) = x.1 ∧ 0 ≤ x.2.2 ∧ x.2.2.toNat ≤ l.length ∧ 0 ≤ x.2.1 ∧ x.2.1.toNat = (mkS fN k.toNat (l.take x.2.2.toNat)).2) (fun x => l.length - x.2.2.toNat) (es, k, 0) ?e ?f ?g
  case e => kernel_rfl
  case f => exact ⟨by show encN (half fN k.toNat l 0) = es; rw [half_zero]; exact h, Int.le_refl _, Nat.zero_le _, hk, rfl⟩
  case g =>
    intro y hy
    obtain ⟨ls, q, i⟩ := y
    have hls : encN (half fN k.toNat l i.toNat) = ls := hy.1
    have hi0 : 0 ≤ i := hy.2.1
    have hil : i.toNat ≤ l.length := hy.2.2.1
    have hq0 : 0 ≤ q := hy.2.2.2.1
    have hq : q.toNat = (mkS fN k.toNat (l.take i.toNat)).2 := hy.2.2.2.2
    clear hy
    have hlsl : ls.length = l.length := by rw [encN_len hls, half_len]
    cbv
    repeat' (first | (intro; cbv) | (with_reducible refine and_side ?_ ?_; rotate_left; try cbv) | (refine br_intro ?_ ?_ <;> intro <;> cbv))
    case refine_2 =>
      have hend := ge_len har (by assumption) hi0
      have e : i.toNat = l.length := by omega
      subst hK
      refine ⟨⟨q, ls, hq0, ?_, ?_, rfl, rfl⟩⟩
      · rw [hq, e, List.take_of_length_le (Nat.le_refl _)]
      · rw [← hls, e, half_end]
    all_goals have hlt := lt_len har (by assumption : ar.icmp .lss i (ar.len ls) = true) hi0
    all_goals have hin : ar.inb i ls := by subst har; exact ⟨hi0, by omega⟩
    all_goals first | exact ⟨hin⟩ | skip
    have hbl := big_le har (by assumption : ar.big ls)
    have hx := List.getElem?_eq_getElem (show i.toNat < l.length by omega)
    generalize l[i.toNat] = x at hx
    have hxh := half_get (f := fN) (k := k.toNat) hx
    have hnx := mkS_next fN k.toNat hx
    have hbn := mkS_take_le fN_le k.toNat l (i.toNat + 1)
    rw [hnx, ← hq] at hbn
    have hbx : (fN q.toNat x).2 ≤ 9000000000000000000 := Nat.le_trans hbn hb
    have hfx := fN_le q.toNat x
    have ei : ar.iop .add .i64 i 1 = i + 1 := add_std har (by omega) (by omega)
    generalize hxx : encB x = xx
    refine get_atN har hls hxh hxx hi0 ?_
    cbv
    repeat' (first | (intro; cbv) | (with_reducible refine and_side ?_ ?_; rotate_left; try cbv) | (refine ChkP.mk (by decide +kernel) ?_; cbv) | (refine br_intro ?_ ?_ <;> intro <;> cbv) | (refine side_sh har ?_; decide))
    refine get_atN har hls hxh hxx hi0 ?_
    cbv
    repeat' (first | (with_reducible refine and_side ?_ ?_; rotate_left; try cbv))
    all_goals first | exact side_widB har hxx | skip
    refine call_intro (markByteS hP hxx hq0 hbx) ?_
    rintro r ob ⟨v, es2, hv0, hv, hes2, rfl, rfl⟩
    cbv
    repeat' (first | (intro; cbv))
    refine ⟨((ar.setc ls i 0 [.sl es2]), v, ar.iop .add .i64 i 1), by kernel_rfl, ⟨?_, by dsimp only; omega, by dsimp only; omega, by dsimp only; omega, ?_⟩, by dsimp only; omega⟩
    · dsimp only
      rw [show (ar.iop .add .i64 i 1).toNat = i.toNat + 1 by omega, ← half_set hx, encN_set, hls, ← hq]
      subst har
      have he : ls[i.toNat]? = some [.sl xx] := at_N hls hxh hxx
      rw [setc_at he]
      show ls.set i.toNat [.sl (encB (fN q.toNat x).1)] = ls.set i.toNat [.sl es2]
      rw [← hes2]; rfl
    · dsimp only
      rw [show (ar.iop .add .i64 i 1).toNat = i.toNat + 1 by omega, hnx, ← hq]
      exact hv
def fL (k : Nat) (v : Lea) : Lea × Nat := let p1 := mkS fB (k + 1) v.cl; let p2 := mkS fB p1.2 v.ho; (⟨((k : Nat) : Int), p1.1, p2.1, ((p2.2 : Nat) : Int), decide ((p2.2 + 1) % 3 = 0)⟩, (p2.2 + 2))
theorem fL_le (k : Nat) (v : Lea) : k ≤ (fL k v).2 := by
  have h1 := mkS_le fB_le (k + 1) v.cl
  have h2 := mkS_le fB_le (mkS fB (k + 1) v.cl).2 v.ho
  show k ≤ (mkS fB (mkS fB (k + 1) v.cl).2 v.ho).2 + 2
  omega
theorem encL_set (l : List Lea) (i : Nat) (x : Lea) : encL (l.set i x) = (encL l).set i (cellsLea x) := by simp [encL, List.map_set]
set_option maxRecDepth 20000 in
theorem fn47 : Tryz.prog.funcs[47]? = some Tryz.f47 := rfl
set_option maxHeartbeats 40000000 in
set_option maxRecDepth 3000 in
theorem markLeaseS (hP : Prg P) {l : List Lea} {es : List (List T)} (h : encL l = es) {k : Int} (hk : 0 ≤ k) (hb : (mkS fL k.toNat l).2 ≤ 9000000000000000000) : ACall P 47 [.one (.row 0 7), .one (.t (.int .i64 k))] [(0, .row 2000005 es 7 [7] false)]
    (fun r ob => ∃ (v : Int) (es2 : List (List T)), 0 ≤ v ∧ v.toNat = (mkS fL k.toNat l).2 ∧ encL (mkS fL k.toNat l).1 = es2 ∧ r = .one (.t (.int .i64 v)) ∧ ob = [(0, .row 2000005 es2 7 [7] false)]) := by
  have hll := encL_len h
  generalize hK : (fun (r : A) (ob : Obs) => ∃ (v : Int) (es2 : List (List T)), 0 ≤ v ∧ v.toNat = (mkS fL k.toNat l).2 ∧ encL (mkS fL k.toNat l).1 = es2 ∧ r = A.one (V.t (T.int .i64 v)) ∧ ob = [(0, Ob.row 2000005 es2 7 [7] false)]) = K
  refine acall_fn (md := mdM) [none] v47 hP.mixed hP.tab (fn_at hP fn47) 2 rfl (by decide +kernel) rfl ?_
  intro ar har
  cbv
  repeat' (first | (intro; cbv) | (with_reducible refine and_side ?_ ?_; rotate_left; try cbv) | (refine ChkP.mk (by decide +kernel) ?_; cbv) | (refine br_intro ?_ ?_ <;> intro <;> cbv) | (refine side_sh har ?_; decide))
  refine loop_start [] [] ?_
  cbv
  refine LoopR.mk (List (List T) × Int × Int) (fun x => ([(1, .one (.t (.int .i64 x.2.1))), (5, .one (.t (.int .i64 x.2.2)))], [(0, .row 2000005 x.1 7 [7] false)])) (fun x => encL (half fL k.toNat l x.2.2.toNat) = x.1 ∧ 0 ≤ x.2.2 ∧ x.2.2.toNat ≤ l.length ∧ 0 ≤ x.2.1 ∧ x.2.1.toNat = (mkS fL k.toNat (l.take x.2.2.toNat)).2) (fun x => l.length - x.2.2.toNat) (es, k, 0) ?e ?f ?g
  case e => kernel_rfl
  case f => exact ⟨by show encL (half fL k.toNat l 0) = es; rw [half_zero]; exact h, Int.le_refl _, Nat.zero_le _, hk, rfl⟩
  case g =>
    intro y hy
    obtain ⟨ls, q, i⟩ := y
    have hls : encL (half fL k.toNat l i.toNat) = ls := hy.1
    have hi0 : 0 ≤ i := hy.2.1
    have hil : i.toNat ≤ l.length := hy.2.2.1
    have hq0 : 0 ≤ q := hy.2.2.2.1
    have hq : q.toNat = (mkS fL k.toNat (l.take i.toNat)).2 := hy.2.2.2.2
    clear hy
    have hlsl : ls.length = l.length := by rw [encL_len hls, half_len]
    cbv
    repeat' (first | (intro; cbv) | (with_reducible refine and_side ?_ ?_; rotate_left; try cbv) | (refine br_intro ?_ ?_ <;> intro <;> cbv))
    case refine_2 =>
      have hend := ge_len har (by assumption) hi0
      have e : i.toNat = l.length := by omega
      subst hK
      refine ⟨⟨q, ls, hq0, ?_, ?_, rfl, rfl⟩⟩
      · rw [hq, e, List.take_of_length_le (Nat.le_refl _)]
      · rw [← hls, e, half_end]
    all_goals have hlt := lt_len har (by assumption : ar.icmp .lss i (ar.len ls) = true) hi0
    all_goals have hin : ar.inb i ls := by subst har; exact ⟨hi0, by omega⟩
    all_goals first | exact ⟨hin⟩ | skip
    have hbl := big_le har (by assumption : ar.big ls)
    have hx := List.getElem?_eq_getElem (show i.toNat < l.length by omega)
    generalize l[i.toNat] = x at hx
    have hxh := half_get (f := fL) (k := k.toNat) hx
    have hnx := mkS_next fL k.toNat hx
    have hbn := mkS_take_le fL_le k.toNat l (i.toNat + 1)
    rw [hnx, ← hq] at hbn
    have hbx : (fL q.toNat x).2 ≤ 9000000000000000000 := Nat.le_trans hbn hb
    have hfx := fL_le q.toNat x
    have ei : ar.iop .add .i64 i 1 = i + 1 := add_std har (by omega) (by omega)
    generalize he1 : encB x.cl = e1
    generalize he2 : encB x.ho = e2
    generalize hp1 : mkS fB (q.toNat + 1) x.cl = p1
    have hl1 := mkS_le fB_le (q.toNat + 1) x.cl
    rw [hp1] at hl1
    generalize hp2 : mkS fB p1.2 x.ho = p2
    have hl2 := mkS_le fB_le p1.2 x.ho
    rw [hp2] at hl2
    have hfin : (fL q.toNat x).2 = p2.2 + 2 := by
      show (fL q.toNat x).2 = _
      simp only [fL, hp1, hp2]
    rw [hfin] at hbx
    have a1 : ar.iop .add .i64 q 1 = q + 1 := add_std har (by omega) (by omega)
    all_goals first | exact ⟨hin⟩ | (refine ⟨?_⟩; (repeat refine side_setc har ?_); exact hin) | (refine ⟨?_⟩; subst har; exact (by decide : (3 : Int) ≠ 0)) | skip
    refine getp_setc har ?_; refine get_atL har hls hxh he1 he2 hi0 ?_
    cbv
    repeat' (first | (intro; cbv) | (with_reducible refine and_side ?_ ?_; rotate_left; try cbv) | (refine ChkP.mk (by decide +kernel) ?_; cbv) | (refine br_intro ?_ ?_ <;> intro <;> cbv) | (refine side_sh har ?_; decide))
    all_goals first | exact ⟨hin⟩ | (refine ⟨?_⟩; (repeat refine side_setc har ?_); exact hin) | (refine ⟨?_⟩; subst har; exact (by decide : (3 : Int) ≠ 0)) | skip
    refine getp_setc har ?_; refine get_atL har hls hxh he1 he2 hi0 ?_
    cbv
    repeat' (first | (with_reducible refine and_side ?_ ?_; rotate_left; try cbv))
    all_goals first | exact side_widB har he1 | skip
    refine call_intro (markByteS hP he1 (k := (ar.iop .add .i64 q 1)) (by omega) (by rw [show ((ar.iop .add .i64 q 1)).toNat = q.toNat + 1 by omega, hp1]; omega)) ?_
    rintro r ob ⟨v1, f1, hw1, hv1, hf1, rfl, rfl⟩
    rw [show ((ar.iop .add .i64 q 1)).toNat = q.toNat + 1 by omega, hp1] at hv1 hf1
    cbv
    repeat' (first | (with_reducible refine and_side ?_ ?_; rotate_left; try cbv))
    all_goals first | exact ⟨hin⟩ | (refine ⟨?_⟩; (repeat refine side_setc har ?_); exact hin) | (refine ⟨?_⟩; subst har; exact (by decide : (3 : Int) ≠ 0)) | skip
    refine getp_setc har ?_; refine getp_setc har ?_; refine get_atL har hls hxh he1 he2 hi0 ?_
    cbv
    repeat' (first | (intro; cbv) | (with_reducible refine and_side ?_ ?_; rotate_left; try cbv) | (refine ChkP.mk (by decide +kernel) ?_; cbv) | (refine br_intro ?_ ?_ <;> intro <;> cbv) | (refine side_sh har ?_; decide))
    all_goals first | exact ⟨hin⟩ | (refine ⟨?_⟩; (repeat refine side_setc har ?_); exact hin) | (refine ⟨?_⟩; subst har; exact (by decide : (3 : Int) ≠ 0)) | skip
    refine getp_setc har ?_; refine getp_setc har ?_; refine get_atL har hls hxh he1 he2 hi0 ?_
    cbv
    repeat' (first | (with_reducible refine and_side ?_ ?_; rotate_left; try cbv))
    all_goals first | exact side_widB har he2 | skip
    refine call_intro (markByteS hP he2 (k := v1) (by omega) (by rw [show (v1).toNat = p1.2 by omega, hp2]; omega)) ?_
    rintro r ob ⟨v2, f2, hw2, hv2, hf2, rfl, rfl⟩
    rw [show (v1).toNat = p1.2 by omega, hp2] at hv2 hf2
    cbv
    repeat' (first | (intro; cbv) | (with_reducible refine and_side ?_ ?_; rotate_left; try cbv))
    have a2 : ar.iop .add .i64 v2 1 = v2 + 1 := add_std har (by omega) (by omega)
    have a3 : ar.iop .add .i64 (ar.iop .add .i64 v2 1) 1 = (ar.iop .add .i64 v2 1) + 1 := add_std har (by omega) (by omega)
    all_goals first | exact ⟨hin⟩ | (refine ⟨?_⟩; (repeat refine side_setc har ?_); exact hin) | (refine ⟨?_⟩; subst har; exact (by decide : (3 : Int) ≠ 0)) | skip
    have z0 : ((q.toNat : Nat) : Int) = q := by omega
    have z1 : ((p2.2 : Nat) : Int) = v2 := by omega
    have z2 : decide ((p2.2 + 1) % 3 = 0) = ar.icmp .eql (ar.iop .rem .i64 (ar.iop .add .i64 v2 1) 3) 0 := rem3 har (by omega) (by omega)
    refine ⟨((ar.setc (ar.setc (ar.setc (ar.setc (ar.setc ls i 0 [.int .i64 q]) i 1 [.sl f1]) i 2 [.sl f2]) i 3 [.int .i64 v2]) i 4 [.bool (ar.icmp .eql (ar.iop .rem .i64 (ar.iop .add .i64 v2 1) 3) 0)]), (ar.iop .add .i64 (ar.iop .add .i64 v2 1) 1), ar.iop .add .i64 i 1), by kernel_rfl, ⟨?_, by dsimp only; omega, by dsimp only; omega, by dsimp only; omega, ?_⟩, by dsimp only; omega⟩
    · dsimp only
      rw [show (ar.iop .add .i64 i 1).toNat = i.toNat + 1 by omega, ← half_set hx, encL_set, hls, ← hq]
      subst har
      have he := at_L hls hxh he1 he2
      rw [setc_at he, setc_set hlt, setc_set hlt, setc_set hlt, setc_set hlt]
      have hc : cellsLea (fL q.toNat x).1 = [.int .i64 ((q.toNat : Nat) : Int), .sl (encB p1.1), .sl (encB p2.1), .int .i64 ((p2.2 : Nat) : Int), .bool (decide ((p2.2 + 1) % 3 = 0))] := by simp only [cellsLea, fL, hp1, hp2]
      rw [hc]
      rw [z0, z1, z2, hf1, hf2]
      rfl
    · dsimp only
      rw [show (ar.iop .add .i64 i 1).toNat = i.toNat + 1 by omega, hnx, ← hq]
      show ((ar.iop .add .i64 (ar.iop .add .i64 v2 1) 1)).toNat = (fL q.toNat x).2
      rw [hfin]
      omega
def fR (k : Nat) (v : Rrv) : Rrv × Nat := let p1 := mkS fN k v.n; let p2 := mkS fN (p1.2 + 3) v.to; let p3 := mkS fB p2.2 v.tx; let p4 := mkS fI p3.2 v.nu; (⟨p1.1, ((p1.2 : Nat) : Int), (((p1.2 + 1) : Nat) : Int), (((p1.2 + 2) : Nat) : Int), p2.1, p3.1, p4.1⟩, p4.2)
theorem fR_le (k : Nat) (v : Rrv) : k ≤ (fR k v).2 := by
  have h1 := mkS_le fN_le k v.n
  have h2 := mkS_le fN_le ((mkS fN k v.n).2 + 3) v.to
  have h3 := mkS_le fB_le (mkS fN ((mkS fN k v.n).2 + 3) v.to).2 v.tx
  have h4 := mkS_le fI_le (mkS fB (mkS fN ((mkS fN k v.n).2 + 3) v.to).2 v.tx).2 v.nu
  show k ≤ (mkS fI (mkS fB (mkS fN ((mkS fN k v.n).2 + 3) v.to).2 v.tx).2 v.nu).2
  omega
theorem encR_set (l : List Rrv) (i : Nat) (x : Rrv) : encR (l.set i x) = (encR l).set i (cellsR x) := by simp [encR, List.map_set]
set_option maxRecDepth 20000 in
theorem fn94 : Tryz.prog.funcs[94]? = some Tryz.f94 := rfl
set_option maxHeartbeats 40000000 in
set_option maxRecDepth 3000 in
theorem markRrS (hP : Prg P) {l : List Rrv} {es : List (List T)} (h : encR l = es) {k : Int} (hk : 0 ≤ k) (hb : (mkS fR k.toNat l).2 ≤ 9000000000000000000) : ACall P 94 [.one (.row 0 7), .one (.t (.int .i64 k))] [(0, .row 2000007 es 7 [7] false)]
    (fun r ob => ∃ (v : Int) (es2 : List (List T)), 0 ≤ v ∧ v.toNat = (mkS fR k.toNat l).2 ∧ encR (mkS fR k.toNat l).1 = es2 ∧ r = .one (.t (.int .i64 v)) ∧ ob = [(0, .row 2000007 es2 7 [7] false)]) := by
  have hll := encR_len h
  generalize hK : (fun (r : A) (ob : Obs) => ∃ (v : Int) (es2 : List (List T)), 0 ≤ v ∧ v.toNat = (mkS fR k.toNat l).2 ∧ encR (mkS fR k.toNat l).1 = es2 ∧ r = A.one (V.t (T.int .i64 v)) ∧ ob = [(0, Ob.row 2000007 es2 7 [7] false)]) = K
  refine acall_fn (md := mdM) [none] v94 hP.mixed hP.tab (fn_at hP fn94) 2 rfl (by decide +kernel) rfl ?_
  intro ar har
  cbv
  repeat' (first | (intro; cbv) | (with_reducible refine and_side ?_ ?_; rotate_left; try cbv) | (refine ChkP.mk (by decide +kernel) ?_; cbv) | (refine br_intro ?_ ?_ <;> intro <;> cbv) | (refine side_sh har ?_; decide))
  refine loop_start [] [] ?_
  cbv
  refine LoopR.mk (List (List T) × Int × Int) (fun x => ([(1, .one (.t (.int .i64 x.2.1))), (5, .one (.t (.int .i64 x.2.2)))], [(0, .row 2000007 x.1 7 [7] false)])) (fun x => encR (half fR k.toNat l x.2.2.toNat) = x.1 ∧ 0 ≤ x.2.2 ∧ x.2.2.toNat ≤ l.length ∧ 0 ≤ x.2.1 ∧ x.2.1.toNat = (mkS fR k.toNat (l.take x.2.2.toNat)).2) (fun x => l.length - x.2.2.toNat) (es, k, 0) ?e ?f ?g
  case e => kernel_rfl
  case f => exact ⟨by show encR (half fR k.toNat l 0) = es; rw [half_zero]; exact h, Int.le_refl _, Nat.zero_le _, hk, rfl⟩
  case g =>
    intro y hy
    obtain ⟨ls, q, i⟩ := y
    have hls : encR (half fR k.toNat l i.toNat) = ls := hy.1
    have hi0 : 0 ≤ i := hy.2.1
    have hil : i.toNat ≤ l.length := hy.2.2.1
    have hq0 : 0 ≤ q := hy.2.2.2.1
    have hq : q.toNat = (mkS fR k.toNat (l.take i.toNat)).2 := hy.2.2.2.2
    clear hy
    have hlsl : ls.length = l.length := by rw [encR_len hls, half_len]
    cbv
    repeat' (first | (intro; cbv) | (with_reducible refine and_side ?_ ?_; rotate_left; try cbv) | (refine br_intro ?_ ?_ <;> intro <;> cbv))
    case refine_2 =>
      have hend := ge_len har (by assumption) hi0
      have e : i.toNat = l.length := by omega
      subst hK
      refine ⟨⟨q, ls, hq0, ?_, ?_, rfl, rfl⟩⟩
      · rw [hq, e, List.take_of_length_le (Nat.le_refl _)]
      · rw [← hls, e, half_end]
    all_goals have hlt := lt_len har (by assumption : ar.icmp .lss i (ar.len ls) = true) hi0
    all_goals have hin : ar.inb i ls := by subst har; exact ⟨hi0, by omega⟩
    all_goals first | exact ⟨hin⟩ | skip
    have hbl := big_le har (by assumption : ar.big ls)
    have hx := List.getElem?_eq_getElem (show i.toNat < l.length by omega)
    generalize l[i.toNat] = x at hx
    have hxh := half_get (f := fR) (k := k.toNat) hx
    have hnx := mkS_next fR k.toNat hx
    have hbn := mkS_take_le fR_le k.toNat l (i.toNat + 1)
    rw [hnx, ← hq] at hbn
    have hbx : (fR q.toNat x).2 ≤ 9000000000000000000 := Nat.le_trans hbn hb
    have hfx := fR_le q.toNat x
    have ei : ar.iop .add .i64 i 1 = i + 1 := add_std har (by omega) (by omega)
    generalize he1 : encN x.n = e1
    generalize he2 : encN x.to = e2
    generalize he3 : encB x.tx = e3
    generalize he4 : encI x.nu = e4
    generalize hp1 : mkS fN q.toNat x.n = p1
    have hl1 := mkS_le fN_le q.toNat x.n
    rw [hp1] at hl1
    generalize hp2 : mkS fN (p1.2 + 3) x.to = p2
    have hl2 := mkS_le fN_le (p1.2 + 3) x.to
    rw [hp2] at hl2
    generalize hp3 : mkS fB p2.2 x.tx = p3
    have hl3 := mkS_le fB_le p2.2 x.tx
    rw [hp3] at hl3
    generalize hp4 : mkS fI p3.2 x.nu = p4
    have hl4 := mkS_le fI_le p3.2 x.nu
    rw [hp4] at hl4
    have hfin : (fR q.toNat x).2 = p4.2 := by
      show (fR q.toNat x).2 = _
      simp only [fR, hp1, hp2, hp3, hp4]
    rw [hfin] at hbx
    all_goals first | exact ⟨hin⟩ | (refine ⟨?_⟩; (repeat refine side_setc har ?_); exact hin) | (refine ⟨?_⟩; subst har; exact (by decide : (3 : Int) ≠ 0)) | skip
    refine get_atR har hls hxh he1 he2 he3 he4 hi0 ?_
    cbv
    repeat' (first | (intro; cbv) | (with_reducible refine and_side ?_ ?_; rotate_left; try cbv) | (refine ChkP.mk (by decide +kernel) ?_; cbv) | (refine br_intro ?_ ?_ <;> intro <;> cbv) | (refine side_sh har ?_; decide))
    all_goals first | exact ⟨hin⟩ | (refine ⟨?_⟩; (repeat refine side_setc har ?_); exact hin) | (refine ⟨?_⟩; subst har; exact (by decide : (3 : Int) ≠ 0)) | skip
    refine get_atR har hls hxh he1 he2 he3 he4 hi0 ?_
    cbv
    repeat' (first | (with_reducible refine and_side ?_ ?_; rotate_left; try cbv))
    all_goals first | exact side_widN har he1 | skip
    refine call_intro (markByteSS hP he1 (k := q) (by omega) (by rw [show (q).toNat = q.toNat by omega, hp1]; omega)) ?_
    rintro r ob ⟨v1, f1, hw1, hv1, hf1, rfl, rfl⟩
    rw [show (q).toNat = q.toNat by omega, hp1] at hv1 hf1
    cbv
    repeat' (first | (intro; cbv) | (with_reducible refine and_side ?_ ?_; rotate_left; try cbv))
    have a1 : ar.iop .add .i64 v1 1 = v1 + 1 := add_std har (by omega) (by omega)
    have a2 : ar.iop .add .i64 (ar.iop .add .i64 v1 1) 1 = (ar.iop .add .i64 v1 1) + 1 := add_std har (by omega) (by omega)
    have a3 : ar.iop .add .i64 (ar.iop .add .i64 (ar.iop .add .i64 v1 1) 1) 1 = (ar.iop .add .i64 (ar.iop .add .i64 v1 1) 1) + 1 := add_std har (by omega) (by omega)
    all_goals first | exact ⟨hin⟩ | (refine ⟨?_⟩; (repeat refine side_setc har ?_); exact hin) | (refine ⟨?_⟩; subst har; exact (by decide : (3 : Int) ≠ 0)) | skip
    refine getp_setc har ?_; refine getp_setc har ?_; refine getp_setc har ?_; refine getp_setc har ?_; refine get_atR har hls hxh he1 he2 he3 he4 hi0 ?_
    cbv
    repeat' (first | (intro; cbv) | (with_reducible refine and_side ?_ ?_; rotate_left; try cbv) | (refine ChkP.mk (by decide +kernel) ?_; cbv) | (refine br_intro ?_ ?_ <;> intro <;> cbv) | (refine side_sh har ?_; decide))
    all_goals first | exact ⟨hin⟩ | (refine ⟨?_⟩; (repeat refine side_setc har ?_); exact hin) | (refine ⟨?_⟩; subst har; exact (by decide : (3 : Int) ≠ 0)) | skip
    refine getp_setc har ?_; refine getp_setc har ?_; refine getp_setc har ?_; refine getp_setc har ?_; refine get_atR har hls hxh he1 he2 he3 he4 hi0 ?_
    cbv
    repeat' (first | (with_reducible refine and_side ?_ ?_; rotate_left; try cbv))
    all_goals first | exact side_widN har he2 | skip
    refine call_intro (markByteSS hP he2 (k := (ar.iop .add .i64 (ar.iop .add .i64 (ar.iop .add .i64 v1 1) 1) 1)) (by omega) (by rw [show ((ar.iop .add .i64 (ar.iop .add .i64 (ar.iop .add .i64 v1 1) 1) 1)).toNat = p1.2 + 3 by omega, hp2]; omega)) ?_
    rintro r ob ⟨v2, f2, hw2, hv2, hf2, rfl, rfl⟩
    rw [show ((ar.iop .add .i64 (ar.iop .add .i64 (ar.iop .add .i64 v1 1) 1) 1)).toNat = p1.2 + 3 by omega, hp2] at hv2 hf2
    cbv
    repeat' (first | (with_reducible refine and_side ?_ ?_; rotate_left; try cbv))
    all_goals first | exact ⟨hin⟩ | (refine ⟨?_⟩; (repeat refine side_setc har ?_); exact hin) | (refine ⟨?_⟩; subst har; exact (by decide : (3 : Int) ≠ 0)) | skip
    refine getp_setc har ?_; refine getp_setc har ?_; refine getp_setc har ?_; refine getp_setc har ?_; refine getp_setc har ?_; refine get_atR har hls hxh he1 he2 he3 he4 hi0 ?_
    cbv
    repeat' (first | (intro; cbv) | (with_reducible refine and_side ?_ ?_; rotate_left; try cbv) | (refine ChkP.mk (by decide +kernel) ?_; cbv) | (refine br_intro ?_ ?_ <;> intro <;> cbv) | (refine side_sh har ?_; decide))
    all_goals first | exact ⟨hin⟩ | (refine ⟨?_⟩; (repeat refine side_setc har ?_); exact hin) | (refine ⟨?_⟩; subst har; exact (by decide : (3 : Int) ≠ 0)) | skip
    refine getp_setc har ?_; refine getp_setc har ?_; refine getp_setc har ?_; refine getp_setc har ?_; refine getp_setc har ?_; refine get_atR har hls hxh he1 he2 he3 he4 hi0 ?_
    cbv
    repeat' (first | (with_reducible refine and_side ?_ ?_; rotate_left; try cbv))
    all_goals first | exact side_widB har he3 | skip
    refine call_intro (markByteS hP he3 (k := v2) (by omega) (by rw [show (v2).toNat = p2.2 by omega, hp3]; omega)) ?_
    rintro r ob ⟨v3, f3, hw3, hv3, hf3, rfl, rfl⟩
    rw [show (v2).toNat = p2.2 by omega, hp3] at hv3 hf3
    cbv
    repeat' (first | (with_reducible refine and_side ?_ ?_; rotate_left; try cbv))
    all_goals first | exact ⟨hin⟩ | (refine ⟨?_⟩; (repeat refine side_setc har ?_); exact hin) | (refine ⟨?_⟩; subst har; exact (by decide : (3 : Int) ≠ 0)) | skip
    refine getp_setc har ?_; refine getp_setc har ?_; refine getp_setc har ?_; refine getp_setc har ?_; refine getp_setc har ?_; refine getp_setc har ?_; refine get_atR har hls hxh he1 he2 he3 he4 hi0 ?_
    cbv
    repeat' (first | (intro; cbv) | (with_reducible refine and_side ?_ ?_; rotate_left; try cbv) | (refine ChkP.mk (by decide +kernel) ?_; cbv) | (refine br_intro ?_ ?_ <;> intro <;> cbv) | (refine side_sh har ?_; decide))
    all_goals first | exact ⟨hin⟩ | (refine ⟨?_⟩; (repeat refine side_setc har ?_); exact hin) | (refine ⟨?_⟩; subst har; exact (by decide : (3 : Int) ≠ 0)) | skip
    refine getp_setc har ?_; refine getp_setc har ?_; refine getp_setc har ?_; refine getp_setc har ?_; refine getp_setc har ?_; refine getp_setc har ?_; refine get_atR har hls hxh he1 he2 he3 he4 hi0 ?_
    cbv
    repeat' (first | (with_reducible refine and_side ?_ ?_; rotate_left; try cbv))
    all_goals first | exact side_widI har he4 | skip
    refine call_intro (markIntS hP he4 (k := v3) (by omega) (by rw [show (v3).toNat = p3.2 by omega, hp4]; omega)) ?_
    rintro r ob ⟨v4, f4, hw4, hv4, hf4, rfl, rfl⟩
    rw [show (v3).toNat = p3.2 by omega, hp4] at hv4 hf4
    cbv
    repeat' (first | (intro; cbv))
    all_goals first | exact ⟨hin⟩ | (refine ⟨?_⟩; (repeat refine side_setc har ?_); exact hin) | (refine ⟨?_⟩; subst har; exact (by decide : (3 : Int) ≠ 0)) | skip
    have z0 : ((p1.2 : Nat) : Int) = v1 := by omega
    have z1 : ((p1.2 + 1 : Nat) : Int) = (ar.iop .add .i64 v1 1) := by omega
    have z2 : ((p1.2 + 2 : Nat) : Int) = (ar.iop .add .i64 (ar.iop .add .i64 v1 1) 1) := by omega
    refine ⟨((ar.setc (ar.setc (ar.setc (ar.setc (ar.setc (ar.setc (ar.setc ls i 0 [.sl f1]) i 1 [.int .i64 v1]) i 2 [.int .i64 (ar.iop .add .i64 v1 1)]) i 3 [.int .i64 (ar.iop .add .i64 (ar.iop .add .i64 v1 1) 1)]) i 4 [.sl f2]) i 5 [.sl f3]) i 6 [.sl f4]), v4, ar.iop .add .i64 i 1), by kernel_rfl, ⟨?_, by dsimp only; omega, by dsimp only; omega, by dsimp only; omega, ?_⟩, by dsimp only; omega⟩
    · dsimp only
      rw [show (ar.iop .add .i64 i 1).toNat = i.toNat + 1 by omega, ← half_set hx, encR_set, hls, ← hq]
      subst har
      have he := at_R hls hxh he1 he2 he3 he4
      rw [setc_at he, setc_set hlt, setc_set hlt, setc_set hlt, setc_set hlt, setc_set hlt, setc_set hlt]
      have hc : cellsR (fR q.toNat x).1 = [.sl (encN p1.1), .int .i64 ((p1.2 : Nat) : Int), .int .i64 ((p1.2 + 1 : Nat) : Int), .int .i64 ((p1.2 + 2 : Nat) : Int), .sl (encN p2.1), .sl (encB p3.1), .sl (encI p4.1)] := by simp only [cellsR, fR, hp1, hp2, hp3, hp4]
      rw [hc]
      rw [z0, z1, z2, hf1, hf2, hf3, hf4]
      rfl
    · dsimp only
      rw [show (ar.iop .add .i64 i 1).toNat = i.toNat + 1 by omega, hnx, ← hq]
      show (v4).toNat = (fR q.toNat x).2
      rw [hfin]
      omega
set_option maxRecDepth 20000 in
theorem fn93 : Tryz.prog.funcs[93]? = some Tryz.f93 := rfl
set_option maxHeartbeats 40000000 in
set_option maxRecDepth 3000 in
theorem markName (hP : Prg P) {v : List (List UInt8)} {e1 : List (List T)} (he1 : encN v = e1) {k : Int} (hk : 0 ≤ k) (hb : (mkS fN k.toNat v).2 ≤ 9000000000000000000) : ACall P 93 [.agg [.row 0 7], .one (.t (.int .i64 k))] [(0, .row 2000001 e1 7 [7] false)]
    (fun r ob => ∃ (w : Int) (g1 : List (List T)), 0 ≤ w ∧ w.toNat = (mkS fN k.toNat v).2 ∧ encN (mkS fN k.toNat v).1 = g1 ∧ r = .one (.t (.int .i64 w)) ∧ ob = [(0, .row 2000001 g1 7 [7] false)]) := by
  generalize hK : (fun (r : A) (ob : Obs) => ∃ (w : Int) (g1 : List (List T)), 0 ≤ w ∧ w.toNat = (mkS fN k.toNat v).2 ∧ encN (mkS fN k.toNat v).1 = g1 ∧ r = A.one (V.t (T.int .i64 w)) ∧ ob = [(0, Ob.row 2000001 g1 7 [7] false)]) = K
  refine acall_fn (md := mdM) [none] v93 hP.mixed hP.tab (fn_at hP fn93) 2 rfl (by decide +kernel) rfl ?_
  intro ar har
  cbv
  repeat' (first | (intro; cbv) | (with_reducible refine and_side ?_ ?_; rotate_left; try cbv) | (refine ChkP.mk (by decide +kernel) ?_; cbv) | (refine br_intro ?_ ?_ <;> intro <;> cbv) | (refine side_sh har ?_; decide))
  have b1 := mkS_le fN_le k.toNat v
  refine call_intro (markByteSS hP he1 hk (by first | exact hb | omega)) ?_
  rintro r ob ⟨w1, g1, h01, hw1, hg1, rfl, rfl⟩
  cbv
  repeat' (first | (intro; cbv) | (with_reducible refine and_side ?_ ?_; rotate_left; try cbv) | (refine ChkP.mk (by decide +kernel) ?_; cbv) | (refine br_intro ?_ ?_ <;> intro <;> cbv) | (refine side_sh har ?_; decide))
  subst hK
  exact ⟨⟨w1, g1, h01, hw1, hg1, rfl, rfl⟩⟩
set_option maxRecDepth 20000 in
theorem fn46 : Tryz.prog.funcs[46]? = some Tryz.f46 := rfl
set_option maxHeartbeats 40000000 in
set_option maxRecDepth 3000 in
theorem markZone (hP : Prg P) {v : Zon} {e1 e2 : List (List T)} (he1 : encN v.o = e1) (he2 : encR v.rs = e2) {k : Int} (hk : 0 ≤ k) (hb : (mkS fR (mkS fN k.toNat v.o).2 v.rs).2 ≤ 9000000000000000000) : ACall P 46 [.agg [.row 0 7, .row 1 7], .one (.t (.int .i64 k))] [(0, .row 2000001 e1 7 [7] false), (1, .row 2000007 e2 7 [7] false)]
    (fun r ob => ∃ (w : Int) (g1 g2 : List (List T)), 0 ≤ w ∧ w.toNat = (mkS fR (mkS fN k.toNat v.o).2 v.rs).2 ∧ encN (mkS fN k.toNat v.o).1 = g1 ∧ encR (mkS fR (mkS fN k.toNat v.o).2 v.rs).1 = g2 ∧ r = .one (.t (.int .i64 w)) ∧ ob = [(0, .row 2000001 g1 7 [7] false), (1, .row 2000007 g2 7 [7] false)]) := by
  generalize hK : (fun (r : A) (ob : Obs) => ∃ (w : Int) (g1 g2 : List (List T)), 0 ≤ w ∧ w.toNat = (mkS fR (mkS fN k.toNat v.o).2 v.rs).2 ∧ encN (mkS fN k.toNat v.o).1 = g1 ∧ encR (mkS fR (mkS fN k.toNat v.o).2 v.rs).1 = g2 ∧ r = A.one (V.t (T.int .i64 w)) ∧ ob = [(0, Ob.row 2000001 g1 7 [7] false), (1, Ob.row 2000007 g2 7 [7] false)]) = K
  refine acall_fn (md := mdM) [none] v46 hP.mixed hP.tab (fn_at hP fn46) 2 rfl (by decide +kernel) rfl ?_
  intro ar har
  cbv
  repeat' (first | (intro; cbv) | (with_reducible refine and_side ?_ ?_; rotate_left; try cbv) | (refine ChkP.mk (by decide +kernel) ?_; cbv) | (refine br_intro ?_ ?_ <;> intro <;> cbv) | (refine side_sh har ?_; decide))
  have b1 := mkS_le fN_le k.toNat v.o
  have b2 := mkS_le fR_le (mkS fN k.toNat v.o).2 v.rs
  refine call_intro (markName hP (v := v.o) he1 hk (by first | exact hb | omega)) ?_
  rintro r ob ⟨w1, g1, h01, hw1, hg1, rfl, rfl⟩
  cbv
  repeat' (first | (intro; cbv) | (with_reducible refine and_side ?_ ?_; rotate_left; try cbv) | (refine ChkP.mk (by decide +kernel) ?_; cbv) | (refine br_intro ?_ ?_ <;> intro <;> cbv) | (refine side_sh har ?_; decide))
  refine call_intro (markRrS hP he2 h01 (by rw [hw1]; first | exact hb | omega)) ?_
  rintro r ob ⟨w2, g2, h02, hw2, hg2, rfl, rfl⟩
  rw [hw1] at hw2 hg2
  cbv
  repeat' (first | (intro; cbv) | (with_reducible refine and_side ?_ ?_; rotate_left; try cbv) | (refine ChkP.mk (by decide +kernel) ?_; cbv) | (refine br_intro ?_ ?_ <;> intro <;> cbv) | (refine side_sh har ?_; decide))
  subst hK
  exact ⟨⟨w2, g1, g2, h02, hw2, hg1, hg2, rfl, rfl⟩⟩
set_option maxRecDepth 20000 in
theorem fn14 : Tryz.prog.funcs[14]? = some Tryz.f14 := rfl
set_option maxHeartbeats 40000000 in
set_option maxRecDepth 3000 in
theorem markLease (hP : Prg P) {v : Lea} {e1 e2 : List (List T)} (he1 : encB v.cl = e1) (he2 : encB v.ho = e2) {k : Int} (hk : 0 ≤ k) (hb : (mkS fB (mkS fB k.toNat v.cl).2 v.ho).2 ≤ 9000000000000000000) : ACall P 14 [.agg [.t (.int .i64 v.ip), .row 0 7, .row 1 7, .t (.int .i64 v.til), .t (.bool v.won)], .one (.t (.int .i64 k))] [(0, .row 2000001 e1 7 [7] false), (1, .row 2000001 e2 7 [7] false)]
    (fun r ob => ∃ (w : Int) (g1 g2 : List (List T)), 0 ≤ w ∧ w.toNat = (mkS fB (mkS fB k.toNat v.cl).2 v.ho).2 ∧ encB (mkS fB k.toNat v.cl).1 = g1 ∧ encB (mkS fB (mkS fB k.toNat v.cl).2 v.ho).1 = g2 ∧ r = .one (.t (.int .i64 w)) ∧ ob = [(0, .row 2000001 g1 7 [7] false), (1, .row 2000001 g2 7 [7] false)]) := by
  generalize hK : (fun (r : A) (ob : Obs) => ∃ (w : Int) (g1 g2 : List (List T)), 0 ≤ w ∧ w.toNat = (mkS fB (mkS fB k.toNat v.cl).2 v.ho).2 ∧ encB (mkS fB k.toNat v.cl).1 = g1 ∧ encB (mkS fB (mkS fB k.toNat v.cl).2 v.ho).1 = g2 ∧ r = A.one (V.t (T.int .i64 w)) ∧ ob = [(0, Ob.row 2000001 g1 7 [7] false), (1, Ob.row 2000001 g2 7 [7] false)]) = K
  refine acall_fn (md := mdM) [none] v14 hP.mixed hP.tab (fn_at hP fn14) 2 rfl (by decide +kernel) rfl ?_
  intro ar har
  cbv
  repeat' (first | (intro; cbv) | (with_reducible refine and_side ?_ ?_; rotate_left; try cbv) | (refine ChkP.mk (by decide +kernel) ?_; cbv) | (refine br_intro ?_ ?_ <;> intro <;> cbv) | (refine side_sh har ?_; decide))
  have b1 := mkS_le fB_le k.toNat v.cl
  have b2 := mkS_le fB_le (mkS fB k.toNat v.cl).2 v.ho
  refine call_intro (markByteS hP he1 hk (by first | exact hb | omega)) ?_
  rintro r ob ⟨w1, g1, h01, hw1, hg1, rfl, rfl⟩
  cbv
  repeat' (first | (intro; cbv) | (with_reducible refine and_side ?_ ?_; rotate_left; try cbv) | (refine ChkP.mk (by decide +kernel) ?_; cbv) | (refine br_intro ?_ ?_ <;> intro <;> cbv) | (refine side_sh har ?_; decide))
  refine call_intro (markByteS hP he2 h01 (by rw [hw1]; first | exact hb | omega)) ?_
  rintro r ob ⟨w2, g2, h02, hw2, hg2, rfl, rfl⟩
  rw [hw1] at hw2 hg2
  cbv
  repeat' (first | (intro; cbv) | (with_reducible refine and_side ?_ ?_; rotate_left; try cbv) | (refine ChkP.mk (by decide +kernel) ?_; cbv) | (refine br_intro ?_ ?_ <;> intro <;> cbv) | (refine side_sh har ?_; decide))
  subst hK
  exact ⟨⟨w2, g1, g2, h02, hw2, hg1, hg2, rfl, rfl⟩⟩
set_option maxRecDepth 20000 in
theorem fn13 : Tryz.prog.funcs[13]? = some Tryz.f13 := rfl
set_option maxHeartbeats 40000000 in
set_option maxRecDepth 3000 in
theorem markHouse (hP : Prg P) {v : Hou} {e1 e2 e3 e4 e5 : List (List T)} (he1 : encN v.z.o = e1) (he2 : encR v.z.rs = e2) (he3 : encN v.rv.o = e3) (he4 : encR v.rv.rs = e4) (he5 : encL v.ls = e5) {k : Int} (hk : 0 ≤ k) (hb : (mkS fL (mkS fR (mkS fN (mkS fR (mkS fN k.toNat v.z.o).2 v.z.rs).2 v.rv.o).2 v.rv.rs).2 v.ls).2 ≤ 9000000000000000000) : ACall P 13 [.agg [.t (.int .i64 v.now), .row 0 7, .row 1 7, .row 2 7, .row 3 7, .row 4 7], .one (.t (.int .i64 k))] [(0, .row 2000001 e1 7 [7] false), (1, .row 2000007 e2 7 [7] false), (2, .row 2000001 e3 7 [7] false), (3, .row 2000007 e4 7 [7] false), (4, .row 2000005 e5 7 [7] false)]
    (fun r ob => ∃ (w : Int) (g1 g2 g3 g4 g5 : List (List T)), 0 ≤ w ∧ w.toNat = (mkS fL (mkS fR (mkS fN (mkS fR (mkS fN k.toNat v.z.o).2 v.z.rs).2 v.rv.o).2 v.rv.rs).2 v.ls).2 ∧ encN (mkS fN k.toNat v.z.o).1 = g1 ∧ encR (mkS fR (mkS fN k.toNat v.z.o).2 v.z.rs).1 = g2 ∧ encN (mkS fN (mkS fR (mkS fN k.toNat v.z.o).2 v.z.rs).2 v.rv.o).1 = g3 ∧ encR (mkS fR (mkS fN (mkS fR (mkS fN k.toNat v.z.o).2 v.z.rs).2 v.rv.o).2 v.rv.rs).1 = g4 ∧ encL (mkS fL (mkS fR (mkS fN (mkS fR (mkS fN k.toNat v.z.o).2 v.z.rs).2 v.rv.o).2 v.rv.rs).2 v.ls).1 = g5 ∧ r = .one (.t (.int .i64 w)) ∧ ob = [(0, .row 2000001 g1 7 [7] false), (1, .row 2000007 g2 7 [7] false), (2, .row 2000001 g3 7 [7] false), (3, .row 2000007 g4 7 [7] false), (4, .row 2000005 g5 7 [7] false)]) := by
  generalize hK : (fun (r : A) (ob : Obs) => ∃ (w : Int) (g1 g2 g3 g4 g5 : List (List T)), 0 ≤ w ∧ w.toNat = (mkS fL (mkS fR (mkS fN (mkS fR (mkS fN k.toNat v.z.o).2 v.z.rs).2 v.rv.o).2 v.rv.rs).2 v.ls).2 ∧ encN (mkS fN k.toNat v.z.o).1 = g1 ∧ encR (mkS fR (mkS fN k.toNat v.z.o).2 v.z.rs).1 = g2 ∧ encN (mkS fN (mkS fR (mkS fN k.toNat v.z.o).2 v.z.rs).2 v.rv.o).1 = g3 ∧ encR (mkS fR (mkS fN (mkS fR (mkS fN k.toNat v.z.o).2 v.z.rs).2 v.rv.o).2 v.rv.rs).1 = g4 ∧ encL (mkS fL (mkS fR (mkS fN (mkS fR (mkS fN k.toNat v.z.o).2 v.z.rs).2 v.rv.o).2 v.rv.rs).2 v.ls).1 = g5 ∧ r = A.one (V.t (T.int .i64 w)) ∧ ob = [(0, Ob.row 2000001 g1 7 [7] false), (1, Ob.row 2000007 g2 7 [7] false), (2, Ob.row 2000001 g3 7 [7] false), (3, Ob.row 2000007 g4 7 [7] false), (4, Ob.row 2000005 g5 7 [7] false)]) = K
  refine acall_fn (md := mdM) [none] v13 hP.mixed hP.tab (fn_at hP fn13) 2 rfl (by decide +kernel) rfl ?_
  intro ar har
  cbv
  repeat' (first | (intro; cbv) | (with_reducible refine and_side ?_ ?_; rotate_left; try cbv) | (refine ChkP.mk (by decide +kernel) ?_; cbv) | (refine br_intro ?_ ?_ <;> intro <;> cbv) | (refine side_sh har ?_; decide))
  have b1 := mkS_le fN_le k.toNat v.z.o
  have b2 := mkS_le fR_le (mkS fN k.toNat v.z.o).2 v.z.rs
  have b3 := mkS_le fN_le (mkS fR (mkS fN k.toNat v.z.o).2 v.z.rs).2 v.rv.o
  have b4 := mkS_le fR_le (mkS fN (mkS fR (mkS fN k.toNat v.z.o).2 v.z.rs).2 v.rv.o).2 v.rv.rs
  have b5 := mkS_le fL_le (mkS fR (mkS fN (mkS fR (mkS fN k.toNat v.z.o).2 v.z.rs).2 v.rv.o).2 v.rv.rs).2 v.ls
  refine call_intro (markZone hP (v := v.z) he1 he2 hk (by first | exact hb | omega)) ?_
  rintro r ob ⟨w1, g1, g2, h01, hw1, hg1, hg2, rfl, rfl⟩
  cbv
  repeat' (first | (intro; cbv) | (with_reducible refine and_side ?_ ?_; rotate_left; try cbv) | (refine ChkP.mk (by decide +kernel) ?_; cbv) | (refine br_intro ?_ ?_ <;> intro <;> cbv) | (refine side_sh har ?_; decide))
  refine call_intro (markZone hP (v := v.rv) he3 he4 h01 (by rw [hw1]; first | exact hb | omega)) ?_
  rintro r ob ⟨w3, g3, g4, h03, hw3, hg3, hg4, rfl, rfl⟩
  rw [hw1] at hw3 hg3 hg4
  cbv
  repeat' (first | (intro; cbv) | (with_reducible refine and_side ?_ ?_; rotate_left; try cbv) | (refine ChkP.mk (by decide +kernel) ?_; cbv) | (refine br_intro ?_ ?_ <;> intro <;> cbv) | (refine side_sh har ?_; decide))
  refine call_intro (markLeaseS hP he5 h03 (by rw [hw3]; first | exact hb | omega)) ?_
  rintro r ob ⟨w5, g5, h05, hw5, hg5, rfl, rfl⟩
  rw [hw3] at hw5 hg5
  cbv
  repeat' (first | (intro; cbv) | (with_reducible refine and_side ?_ ?_; rotate_left; try cbv) | (refine ChkP.mk (by decide +kernel) ?_; cbv) | (refine br_intro ?_ ?_ <;> intro <;> cbv) | (refine side_sh har ?_; decide))
  subst hK
  exact ⟨⟨w5, g1, g2, g3, g4, g5, h05, hw5, hg1, hg2, hg3, hg4, hg5, rfl, rfl⟩⟩
end Go.TL.Tryz

/- TfHelA -/
namespace Go.TL.Tryz
open Go Go.TL Go.Proofs
set_option maxRecDepth 20000
variable {P : Program}
theorem mkS_at {α : Type} (f : Nat → α → α × Nat) : ∀ (k : Nat) (l : List α) (i : Nat) {x : α}, l[i]? = some x → (mkS f k l).1[i]? = some (f (mkS f k (l.take i)).2 x).1
  | k, [], i, x, h => by simp at h
  | k, y :: l, 0, x, h => by simp at h; subst h; simp [mkS]
  | k, y :: l, i + 1, x, h => by
    have := mkS_at f (f k y).2 l i (by simpa using h)
    simpa [mkS] using this
set_option maxRecDepth 20000 in
theorem fn49 : Tryz.prog.funcs[49]? = some Tryz.f49 := rfl
set_option maxHeartbeats 40000000 in
set_option maxRecDepth 3000 in
theorem heldByteS (hP : Prg P) {l : List UInt8} {es : List (List T)} {k : Int} (h : encB (mkS fB k.toNat l).1 = es) (hk : 0 ≤ k) (hb : (mkS fB k.toNat l).2 ≤ 9000000000000000000) : ACall P 49 [.one (.t (.sl es)), .one (.t (.int .i64 k))] []
    (fun r ob => ∃ v : Int, 0 ≤ v ∧ v.toNat = (mkS fB k.toNat l).2 ∧ r = .one (.t (.int .i64 v)) ∧ ob = []) := by
  have hll := encB_len h
  rw [mkS_len] at hll
  generalize hK : (fun (r : A) (ob : Obs) => ∃ v : Int, 0 ≤ v ∧ v.toNat = (mkS fB k.toNat l).2 ∧ r = A.one (V.t (T.int .i64 v)) ∧ ob = []) = K
  refine acall_fn (md := md) [none] v49 hP.mixed hP.tab (fn_at hP fn49) 2 rfl (by decide +kernel) rfl ?_
  intro ar har
  cbv
  repeat' (first | (intro; cbv) | (with_reducible refine and_side ?_ ?_; rotate_left; try cbv) | (refine ChkP.mk (by decide +kernel) ?_; cbv) | (refine br_intro ?_ ?_ <;> intro <;> cbv) | (refine side_sh har ?_; decide))
  refine loop_start [] [] ?_
  cbv
  refine LoopR.mk (Int × Int) (fun x => ([(1, .one (.t (.int .i64 x.1))), (5, .one (.t (.int .i64 x.2)))], [])) (fun x => 0 ≤ x.2 ∧ x.2.toNat ≤ l.length ∧ 0 ≤ x.1 ∧ x.1.toNat = (mkS fB k.toNat (l.take x.2.toNat)).2) (fun x => l.length - x.2.toNat) (k, 0) ?e2 ?f2 ?g2
  case e2 => kernel_rfl
  case f2 => exact ⟨Int.le_refl _, Nat.zero_le _, hk, rfl⟩
  case g2 =>
    intro y hy
    obtain ⟨q, i⟩ := y
    have hi0 : 0 ≤ i := hy.1
    have hil : i.toNat ≤ l.length := hy.2.1
    have hq0 : 0 ≤ q := hy.2.2.1
    have hq : q.toNat = (mkS fB k.toNat (l.take i.toNat)).2 := hy.2.2.2
    clear hy
    cbv
    repeat' (first | (intro; cbv) | (refine br_intro ?_ ?_ <;> intro <;> cbv))
    case refine_2 =>
      have hend := ge_len har (by assumption) hi0
      have e : i.toNat = l.length := by omega
      subst hK
      refine ⟨⟨q, hq0, ?_, rfl, rfl⟩⟩
      rw [hq, e, List.take_of_length_le (Nat.le_refl _)]
    have hlt := lt_len har (by assumption : ar.icmp .lss i (ar.len es) = true) hi0
    have hbl := big_le har (by assumption : ar.big es)
    have hx := List.getElem?_eq_getElem (show i.toNat < l.length by omega)
    generalize l[i.toNat] = x at hx
    have hnx := mkS_next fB k.toNat hx
    have hbn := mkS_take_le fB_le k.toNat l (i.toNat + 1)
    rw [hnx, ← hq] at hbn
    have hbx : q.toNat + 1 ≤ 9000000000000000000 := Nat.le_trans hbn hb
    have hxm := mkS_at fB k.toNat l i.toNat hx
    rw [← hq] at hxm
    have ei : ar.iop .add .i64 i 1 = i + 1 := add_std har (by omega) (by omega)
    have eq1 : ar.iop .add .i64 q 1 = q + 1 := add_std har (by omega) (by omega)
    have hcv : ((byteOf ((q.toNat : Nat) : Int)).toNat : Int) = ar.conv .u8 q := by
      rw [show ((q.toNat : Nat) : Int) = q by omega, byteOf_wrap]; subst har; rfl
    refine get_at har h hxm (xx := ar.conv .u8 q) hcv hi0 ?_
    cbv
    repeat' (first | (intro; cbv) | (refine br_intro ?_ ?_ <;> intro <;> cbv))
    case refine_1 => exact absurd (by assumption : ar.icmp .neq (ar.conv .u8 q) (ar.conv .u8 q) = true) (by subst har; simp [std, icmpS])
    refine ⟨(ar.iop .add .i64 q 1, ar.iop .add .i64 i 1), by kernel_rfl, ⟨by dsimp only; omega, by dsimp only; omega, by dsimp only; omega, ?_⟩, by dsimp only; omega⟩
    dsimp only
    rw [show (ar.iop .add .i64 i 1).toNat = i.toNat + 1 by omega, hnx, ← hq]
    show (ar.iop .add .i64 q 1).toNat = q.toNat + 1
    omega
set_option maxRecDepth 20000 in
theorem fn15 : Tryz.prog.funcs[15]? = some Tryz.f15 := rfl
set_option maxHeartbeats 40000000 in
set_option maxRecDepth 3000 in
theorem heldLease (hP : Prg P) {v : Lea} {e1 e2 : List (List T)} {k : Int} (he1 : encB (mkS fB k.toNat v.cl).1 = e1) (he2 : encB (mkS fB (mkS fB k.toNat v.cl).2 v.ho).1 = e2) (hk : 0 ≤ k) (hb : (mkS fB (mkS fB k.toNat v.cl).2 v.ho).2 ≤ 9000000000000000000) {i : Int} {t : Int} {w : Bool} :
    ACall P 15 [.agg [.t (.int .i64 i), .t (.sl e1), .t (.sl e2), .t (.int .i64 t), .t (.bool w)], .one (.t (.int .i64 k))] []
    (fun r ob => ∃ v2 : Int, 0 ≤ v2 ∧ v2.toNat = (mkS fB (mkS fB k.toNat v.cl).2 v.ho).2 ∧ r = .one (.t (.int .i64 v2)) ∧ ob = []) := by
  generalize hK : (fun (r : A) (ob : Obs) => ∃ v2 : Int, 0 ≤ v2 ∧ v2.toNat = (mkS fB (mkS fB k.toNat v.cl).2 v.ho).2 ∧ r = A.one (V.t (T.int .i64 v2)) ∧ ob = []) = K
  have b1 := mkS_le fB_le (mkS fB k.toNat v.cl).2 v.ho
  refine acall_fn (md := md) [none] v15 hP.mixed hP.tab (fn_at hP fn15) 2 rfl (by decide +kernel) rfl ?_
  intro ar har
  cbv
  repeat' (first | (intro; cbv) | (with_reducible refine and_side ?_ ?_; rotate_left; try cbv) | (refine ChkP.mk (by decide +kernel) ?_; cbv) | (refine br_intro ?_ ?_ <;> intro <;> cbv) | (refine side_sh har ?_; decide))
  refine call_intro (heldByteS hP he1 hk (by omega)) ?_
  rintro r ob ⟨w1, h01, hw1, rfl, rfl⟩
  cbv
  repeat' (first | (refine br_intro ?_ ?_ <;> intro <;> cbv))
  case refine_1 => exact absurd (lt_cmp har (by assumption : ar.icmp .lss w1 0 = true)) (by omega)
  rw [← hw1] at he2 hb
  refine call_intro (heldByteS hP he2 h01 hb) ?_
  rintro r ob ⟨w2, h02, hw2, rfl, rfl⟩
  rw [hw1] at hw2
  cbv
  repeat' (first | (refine br_intro ?_ ?_ <;> intro <;> cbv))
  case refine_1 => exact absurd (lt_cmp har (by assumption : ar.icmp .lss w2 0 = true)) (by omega)
  subst hK
  exact ⟨⟨w2, h02, hw2, rfl, rfl⟩⟩
end Go.TL.Tryz

/- TfMaxA -/
namespace Go.TL.Tryz
open Go Go.TL Go.Proofs
theorem mkS_up {α : Type} {f : Nat → α → α × Nat} {c : Nat} : ∀ (k : Nat) (l : List α), (∀ (i : Nat) x, l[i]? = some x → ∀ k, (f k x).2 ≤ k + c) → (mkS f k l).2 ≤ k + l.length * c
  | k, [], _ => by simp [mkS]
  | k, y :: l, h => by
    have h1 := h 0 y rfl k
    have h2 := mkS_up (f k y).2 l (fun i x hx => h (i + 1) x (by simpa using hx))
    simp only [mkS, List.length_cons]
    rw [Nat.add_mul]
    omega
theorem mul_up {a b c : Nat} (h : a ≤ 1048576) (e : 1048576 * b = c) : a * b ≤ c := by rw [← e]; exact Nat.mul_le_mul h (Nat.le_refl b)
theorem upB {l : List UInt8} (h : smByteS l) (k : Nat) : (mkS fB k l).2 ≤ k + 1048576 :=
  Nat.le_trans (mkS_up (c := 1) k l fun _ _ _ k => Nat.le_refl _) (by rw [Nat.mul_one]; exact Nat.add_le_add_left h k)
theorem upI {l : List Int} (h : smIntS l) (k : Nat) : (mkS fI k l).2 ≤ k + 1048576 :=
  Nat.le_trans (mkS_up (c := 1) k l fun _ _ _ k => Nat.le_refl _) (by rw [Nat.mul_one]; exact Nat.add_le_add_left h k)
theorem upN {l : List (List UInt8)} (h : smByteSS l) (k : Nat) : (mkS fN k l).2 ≤ k + 1099511627776 :=
  Nat.le_trans (mkS_up (c := 1048576) k l fun i x hx k => upB (h.2 i x hx) k) (Nat.add_le_add_left (mul_up h.1 rfl) k)
theorem upR1 {x : Rrv} (h : smRr x) (k : Nat) : (fR k x).2 ≤ k + 2199025352707 := by
  have h1 := upN h.1 k
  have h2 := upN h.2.1 ((mkS fN k x.n).2 + 3)
  have h3 := upB h.2.2.1 (mkS fN ((mkS fN k x.n).2 + 3) x.to).2
  have h4 := upI h.2.2.2 (mkS fB (mkS fN ((mkS fN k x.n).2 + 3) x.to).2 x.tx).2
  show (mkS fI (mkS fB (mkS fN ((mkS fN k x.n).2 + 3) x.to).2 x.tx).2 x.nu).2 ≤ _
  omega
theorem upR {l : List Rrv} (h : smRrS l) (k : Nat) : (mkS fR k l).2 ≤ k + 2305845208240095232 :=
  Nat.le_trans (mkS_up (c := 2199025352707) k l fun i x hx k => upR1 (h.2 i x hx) k) (Nat.add_le_add_left (mul_up h.1 (by decide)) k)
theorem upL1 {x : Lea} (h : smLease x) (k : Nat) : (fL k x).2 ≤ k + 2097155 := by
  have h1 := upB h.1 (k + 1)
  have h2 := upB h.2 (mkS fB (k + 1) x.cl).2
  show (mkS fB (mkS fB (k + 1) x.cl).2 x.ho).2 + 2 ≤ _
  omega
theorem upL {l : List Lea} (h : smLeaseS l) (k : Nat) : (mkS fL k l).2 ≤ k + 2199026401280 :=
  Nat.le_trans (mkS_up (c := 2097155) k l fun i x hx k => upL1 (h.2 i x hx) k) (Nat.add_le_add_left (mul_up h.1 (by decide)) k)
theorem upLease {x : Lea} (h : smLease x) : (mkS fB (mkS fB 1 x.cl).2 x.ho).2 ≤ 9000000000000000000 := by
  have h1 := upB h.1 1
  have h2 := upB h.2 (mkS fB 1 x.cl).2
  omega
theorem upHouse {v : Hou} (h : smHouse v) : (mkS fL (mkS fR (mkS fN (mkS fR (mkS fN 1 v.z.o).2 v.z.rs).2 v.rv.o).2 v.rv.rs).2 v.ls).2 ≤ 9000000000000000000 := by
  have h1 := upN h.1.1 1
  have h2 := upR h.1.2 (mkS fN 1 v.z.o).2
  have h3 := upN h.2.1.1 (mkS fR (mkS fN 1 v.z.o).2 v.z.rs).2
  have h4 := upR h.2.1.2 (mkS fN (mkS fR (mkS fN 1 v.z.o).2 v.z.rs).2 v.rv.o).2
  have h5 := upL h.2.2 (mkS fR (mkS fN (mkS fR (mkS fN 1 v.z.o).2 v.z.rs).2 v.rv.o).2 v.rv.rs).2
  omega
end Go.TL.Tryz
