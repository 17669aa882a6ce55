/- Texts of a proof, joined by a program (merge.py): TfZoJ TfLeaB TfDigB TfDhcS TfShQ TfShI TfShJ TfHasB TfRecS TfLeaO TfHouS TfRevB TfSamR TfWrd TfShelf. -/
import Derived.Test.YtpnhfpjpmjdgmaaGreatDoorT08
import Derived.Laws.Externs
import Derived.Shelf.Strconv.Itoa0
import Derived.Shelf.Strconv.Itoa1
import Derived.Shelf.LaysM
import Derived.Shelf.Strconv.Itoa2
import Derived.Shelf.Strconv.Itoa3
import Derived.Shelf.Bits.Mul64
import Derived.Test.YtpnhfpjpmjdgmaaGreatDoorProg
set_option linter.all false
/- TfZoJ -/
namespace Go.TL.Tryz
open Go Go.TL Go.Proofs
set_option maxRecDepth 20000
variable {P : Program}
theorem lone_iff {l : List Rrv} {n : List (List UInt8)} {i : Nat} : loneB l n i l.length = true ↔ ∀ (k : Nat) x, k ≠ i → l[k]? = some x → x.n ≠ n := by
  rw [loneB, List.all_eq_true]
  constructor
  · intro h k x hk hx
    have := h k (by have := (List.getElem?_eq_some_iff.1 hx).1; simpa using this)
    simp [nameIs, hx, hk] at this
    exact this
  · intro h k hk
    have hk : k < l.length := by simpa using hk
    by_cases e : k = i
    · simp [e]
    · have hx := List.getElem?_eq_getElem hk
      have := h k _ e hx
      simp [nameIs, hx, this]
theorem set_any (l : List Rrv) (n : List (List UInt8)) : setV l n 255 = l.filter (fun r => r.n == n) := by
  unfold setV
  congr 1
  funext r
  simp [inSet]
theorem lone_set {l : List Rrv} {i : Nat} {r : Rrv} (hr : l[i]? = some r) : loneB l r.n i l.length = decide ((setV l r.n 255).length ≤ 1) := by
  have hil := (List.getElem?_eq_some_iff.1 hr).1
  have hl : l = l.take i ++ r :: l.drop (i + 1) := by
    rw [← (List.getElem?_eq_some_iff.1 hr).2, ← List.drop_eq_getElem_cons hil, List.take_append_drop]
  have hlen : (setV l r.n 255).length = ((l.take i).filter (fun x => x.n == r.n)).length + 1 + ((l.drop (i + 1)).filter (fun x => x.n == r.n)).length := by
    rw [set_any]
    conv => lhs; rw [hl]
    simp only [List.filter_append, List.filter_cons, beq_self_eq_true, if_true, List.length_append, List.length_cons]
    omega
  rw [Bool.eq_iff_iff, lone_iff, decide_eq_true_eq, hlen]
  constructor
  · intro h
    have h1 : (l.take i).filter (fun x => x.n == r.n) = [] := by
      rw [List.filter_eq_nil_iff]
      intro x hx
      obtain ⟨k, hk⟩ := List.getElem?_of_mem hx
      have hki : k < i := by have := (List.getElem?_eq_some_iff.1 hk).1; simp at this; omega
      rw [List.getElem?_take_of_lt hki] at hk
      simpa using h k x (by omega) hk
    have h2 : (l.drop (i + 1)).filter (fun x => x.n == r.n) = [] := by
      rw [List.filter_eq_nil_iff]
      intro x hx
      obtain ⟨k, hk⟩ := List.getElem?_of_mem hx
      rw [List.getElem?_drop] at hk
      simpa using h (i + 1 + k) x (by omega) hk
    rw [h1, h2]; simp
  · intro h k x hk hx
    have h1 : (l.take i).filter (fun x => x.n == r.n) = [] := List.eq_nil_of_length_eq_zero (by omega)
    have h2 : (l.drop (i + 1)).filter (fun x => x.n == r.n) = [] := List.eq_nil_of_length_eq_zero (by omega)
    rw [List.filter_eq_nil_iff] at h1 h2
    by_cases hlt : k < i
    · have := h1 x (List.mem_of_getElem? (i := k) (by rw [List.getElem?_take_of_lt hlt]; exact hx))
      simpa using this
    · have := h2 x (List.mem_of_getElem? (i := k - (i + 1)) (by rw [List.getElem?_drop, show i + 1 + (k - (i + 1)) = k by omega]; exact hx))
      simpa using this
theorem alone_set {l : List Rrv} {i : Nat} {r : Rrv} (hr : l[i]? = some r) : aloneB l i = (!decide (r.t = 5) || decide ((setV l r.n 255).length ≤ 1)) := by
  rw [aloneB, hr, ← lone_set hr]
theorem zone_all {z : Zon} (h : z.rs.all rrOkR = false) : zoneOk z = false := by
  rw [List.all_eq_false] at h
  obtain ⟨x, hx, hf⟩ := h
  obtain ⟨k, hk⟩ := List.getElem?_of_mem hx
  exact recs_bad (List.getElem?_eq_some_iff.1 hk).1 (by rw [recOk, hk]; simp [hf])
theorem rec_true {z : Zon} {i : Nat} {x : Rrv} (hx : z.rs[i]? = some x) (hrx : rrOkR x = true) (hun : underB x.n z.o = true) (hpv : prevB z.rs i = true) (hal : aloneB z.rs i = true) (ht : isTop x = false ∨ x.n = z.o) : recOk z i = true := by
  rw [recOk, hx]
  simp only [hrx, hun, hpv, hal, Bool.true_and]
  rcases ht with ht | ht
  · rw [ht]; rfl
  · rw [ht]; simp
theorem len_gt {ar : Ar} (har : ar = std) {es : List (List T)} {n : Int} {b : Bool} (h : ar.icmp .gtr (ar.len es) n = b) : decide (n < (es.length : Int)) = b := by subst har; exact h
set_option maxRecDepth 20000 in
theorem fn30 : Tryz.prog.funcs[30]? = some Tryz.f30 := rfl
set_option maxHeartbeats 40000000 in
set_option maxRecDepth 3000 in
theorem iZoneOk (hP : Prg P) {z : Zon} {os rs : List (List T)} (ho : encN z.o = os) (hrs : encR z.rs = rs) (hb : BigN z.rs) : ACall P 30 [.agg [.t (.sl os), .t (.sl rs)]] [] (fun r ob => r = .one (.t (.bool (zoneOk z))) ∧ ob = []) := by
  have hlen := encR_len hrs
  refine acall_fn (md := md) [none] v30 hP.mixed hP.tab (fn_at hP fn30) 1 rfl (by decide +kernel) rfl ?_
  intro ar har
  cbv
  repeat' (first | (intro; cbv) | (refine br_intro ?_ ?_ <;> intro <;> cbv) | (refine call_intro (iNameOk hP (by assumption)) ?_; rintro r ob ⟨rfl, rfl⟩; generalize hno : nameOk _ = no; cbv) | (refine call_intro (iAllRr hP (by assumption)) ?_; rintro r ob ⟨rfl, rfl⟩; generalize hab : List.all _ _ = ab; cbv))
  case refine_1 =>
    have h := bnot_t har (by assumption : ar.bnot no = true)
    exact ret_bb (by rw [zoneOk, hno, h]; rfl)
  case refine_2.refine_1 =>
    have h := gt_cmp har (by assumption)
    refine ret_bb ?_
    have h : ¬ z.rs.length ≤ 60 := by subst har; have h : (60 : Int) < (rs.length : Int) := h; omega
    simp [zoneOk, h]
  case refine_2.refine_2.refine_1 =>
    have h := bnot_t har (by assumption : ar.bnot ab = true)
    exact ret_bb (zone_all (hab.trans h)).symm
  have hnok := hno.trans (bnot_f har (by assumption : ar.bnot no = false))
  have hall := hab.trans (bnot_f har (by assumption : ar.bnot ab = false))
  have h60 : z.rs.length ≤ 60 := by
    have h := le_cmp har (by assumption : ar.icmp .gtr (ar.len rs) 60 = false)
    subst har; have h : (rs.length : Int) ≤ 60 := h; omega
  have hol : z.o.length ≤ 2000000 := by have := (nmB_ok hnok).1; omega
  have hrr : ∀ (k : Nat) x, z.rs[k]? = some x → rrOkR x = true := fun k x hx => List.all_eq_true.1 hall x (List.mem_of_getElem? hx)
  refine loop_start [21] [] ?_
  cbv
  refine LoopR.mk (Int × Int) (fun x => ([(3, .one (.t (.int .i64 x.1))), (25, .one (.t (.int .i64 x.2)))], [])) (fun x => 0 ≤ x.2 ∧ x.2.toNat ≤ z.rs.length ∧ recsOk z x.2.toNat = true ∧ 0 ≤ x.1 ∧ x.1.toNat = topsN z.rs x.2.toNat ∧ x.1 ≤ x.2) (fun x => z.rs.length - x.2.toNat) (0, 0) ?e ?f ?g
  case e => kernel_rfl
  case f => exact ⟨Int.le_refl _, Nat.zero_le _, rfl, Int.le_refl _, rfl, Int.le_refl _⟩
  case g =>
    intro x hx
    obtain ⟨c, i⟩ := x
    have hi0 : 0 ≤ i := hx.1
    have hil : i.toNat ≤ z.rs.length := hx.2.1
    have hrk : recsOk z i.toNat = true := hx.2.2.1
    have hc0 : 0 ≤ c := hx.2.2.2.1
    have hct : c.toNat = topsN z.rs i.toNat := hx.2.2.2.2.1
    have hci : c ≤ i := hx.2.2.2.2.2
    clear hx
    cbv
    repeat' (first | (refine br_intro ?_ ?_ <;> intro <;> cbv))
    case refine_2 =>
      have hend := ge_len har (by assumption) hi0
      refine ret_bb ?_
      have e : i.toNat = z.rs.length := by omega
      rw [e] at hrk hct
      rw [zoneOk, hnok, hrk, decide_eq_true h60, ← hct]
      subst har
      show (c == 1) = _
      rw [Bool.eq_iff_iff]; simp; omega
    refine get_ltR har hrs (by assumption) hi0 ?_
    intro x e1 e2 e3 e4 hx he1 he2 he3 he4
    have hxl := hb _ _ hx
    have hrx := hrr _ _ hx
    have hlt := (List.getElem?_eq_some_iff.1 hx).1
    have hal := alone_set hx
    generalize haln : setV z.rs x.n 255 = sv at hal
    have hsvl : encR sv = encR (setV z.rs x.n 255) := by rw [haln]
    cbv
    repeat' (first | (intro; cbv) | (refine ChkP.mk (by decide +kernel) ?_; cbv) | (refine br_intro ?_ ?_ <;> intro <;> cbv) | (refine calld_intro (iUnder hP (by assumption) (by assumption) (by omega) (by omega)) ?_; generalize hun : underB _ _ = un; cbv) | (refine call_intro (iNameIs hP (by assumption) (by assumption) (by omega) (by omega)) ?_; rintro r ob ⟨rfl, rfl⟩; generalize hni : (@BEq.beq (List (List UInt8)) _ _ _) = ni; cbv) | (refine call_intro (iSet hP (by assumption) (by assumption) (by assumption) (by omega) (by omega)) ?_; rintro r ob ⟨rfl, rfl⟩; generalize hset : encR (setV _ _ _) = sets; cbv))
    case refine_1.refine_1 =>
      have h0 := gt_cmp har (by assumption : ar.icmp .gtr i 0 = true)
      have es1 : ar.iop .sub .i64 i 1 = i - 1 := sub_std har (by omega) (by omega)
      have ej : (ar.iop .sub .i64 i 1).toNat = i.toNat - 1 := by rw [es1]; omega
      refine get_rec har hrs ⟨by show 0 ≤ ar.iop .sub .i64 i 1; rw [es1]; omega, by show (ar.iop .sub .i64 i 1).toNat < _; rw [ej]; omega⟩ fun y f1 f2 f3 f4 hy hf1 hf2 hf3 hf4 => ?_
      have hy : z.rs[(ar.iop .sub .i64 i 1).toNat]? = some y := hy
      rw [ej] at hy
      have hry : rrOkR y = true := hrr _ _ hy
      have hpe : prevB z.rs i.toNat = decide (cmpRR y x < 0) := by
        rw [show i.toNat = (i.toNat - 1) + 1 by omega, prevB, hy, show i.toNat - 1 + 1 = i.toNat by omega, hx]
      cbv
      repeat' (first | (intro; cbv) | (with_reducible refine and_side ?_ ?_; rotate_left; try cbv) | (refine ChkP.mk (by decide +kernel) ?_; cbv) | (refine br_intro ?_ ?_ <;> intro <;> cbv) | (refine get_at har (by assumption) (by assumption) (by assumption) (by assumption) ?_; cbv) | (refine get_lt har (by assumption) (by assumption) (by assumption) ?_; intro x xx hx hxx; cbv) | (refine get_atN har (by assumption) (by assumption) (by assumption) (by assumption) ?_; cbv) | (refine get_ltN har (by assumption) (by assumption) (by assumption) ?_; intro x xx hx hxx; cbv) | (refine get_atI har (by assumption) (by assumption) (by decide) ?_; cbv) | (refine get_twoA har (by assumption) (by assumption) (by decide) ?_; intro x hx; cbv) | (refine get_twoB har (by assumption) (by assumption) (by decide) ?_; intro x hx; cbv) | (refine bytes_intro (by assumption) ?_; cbv) | (exact side_lt har (by assumption) (by assumption)) | (exact side_inb har (by assumption) (by assumption) (by assumption)) | (exact side_sh har (by decide)) | (exact side_app har (by assumption) (by assumption) (by omega)) | (exact side_app0 har (by assumption) (by omega)) | (exact side_new har (by assumption) (by omega)) | (exact side_one har (by assumption) (by omega)) | (exact side_oneN har (by assumption) (by omega)) | (exact side_flat har (by assumption)) | (exact side_sbig har (by omega)) | (refine side_sbig har ?_; simp; done) | (exact side_oneI har (by assumption) (by omega)) | (refine side_ix har ?_; simp; done) | (refine side_ix har ?_; simp; omega))
      refine calld_intro (iRrCmpR hP hry hrx hf1 hf2 hf3 hf4 he1 he2 he3 he4) ?_
      generalize hcr : cmpRR y x = cr
      cbv
      have hpv : ar.icmp .geq cr 0 = false → prevB z.rs i.toNat = true := fun h => by
        have h := geq_f har h
        rw [hpe, hcr]; simpa using h
      repeat' (first | (intro; cbv) | (refine ChkP.mk (by decide +kernel) ?_; cbv) | (refine br_intro ?_ ?_ <;> intro <;> cbv))
      case refine_1 =>
        have h := geq_t har (by assumption : ar.icmp .geq cr 0 = true)
        exact ret_bb (recs_bad hlt (by rw [recOk, hx]; simp only [hpe, hcr, decide_eq_false (show ¬ cr < 0 by omega), Bool.false_and, Bool.and_false])).symm
      have hpv := hpv (by assumption : ar.icmp .geq cr 0 = false)
      repeat' (first | (intro; cbv) | (refine ChkP.mk (by decide +kernel) ?_; cbv) | (refine br_intro ?_ ?_ <;> intro <;> cbv) | (refine calld_intro (iUnder hP (by assumption) (by assumption) (by omega) (by omega)) ?_; generalize hun : underB _ _ = un; cbv) | (refine call_intro (iNameIs hP (by assumption) (by assumption) (by omega) (by omega)) ?_; rintro r ob ⟨rfl, rfl⟩; generalize hni : (@BEq.beq (List (List UInt8)) _ _ _) = ni; cbv) | (refine call_intro (iSet hP (by assumption) (by assumption) (by assumption) (by omega) (by omega)) ?_; rintro r ob ⟨rfl, rfl⟩; generalize hset : encR (setV _ _ _) = sets; cbv))
      all_goals have hbg := big_le har (by assumption : ar.big rs)
      all_goals have ea : ar.iop .add .i64 i 1 = i + 1 := add_std har (by omega) (by omega)
      all_goals have eb : ar.iop .add .i64 c 1 = c + 1 := add_std har (by omega) (by omega)
      all_goals have ei : (i + 1).toNat = i.toNat + 1 := by omega
      all_goals first
        | (have h := bnot_t har (by assumption : ar.bnot un = true)
           exact ret_bb (recs_bad hlt (by rw [recOk, hx]; simp [hun, h])).symm)
        | (have h := bnot_t har (by assumption : ar.bnot ni = true)
           have h6 := eq_cmp har (by assumption : ar.icmp .eql x.t 6 = true)
           exact ret_bb (recs_bad hlt (by rw [recOk, hx]; simp [isTop, h6, hni, h])).symm)
        | (have h := len_gt har (by assumption : ar.icmp .gtr (ar.len sets) 1 = true)
           have h5 := eq_cmp har (by assumption : ar.icmp .eql x.t 5 = true)
           have hsl : sets.length = sv.length := by rw [← hset, haln]; simp [encR]
           have h2 : ¬ sv.length ≤ 1 := by have h := of_decide_eq_true h; omega
           exact ret_bb (recs_bad hlt (by rw [recOk, hx]; simp [hal, h5, h2])).symm)
        | (have hu := bnot_f har (by assumption : ar.bnot un = false)
           have hal1 : aloneB z.rs i.toNat = true := by
             rw [hal]
             first
               | (have h5 := ne_cmp har (by assumption : ar.icmp .eql x.t 5 = false)
                  simp [h5]; done)
               | (have h := len_gt har (by assumption : ar.icmp .gtr (ar.len sets) 1 = false)
                  have hsl : sets.length = sv.length := by rw [← hset, haln]; simp [encR]
                  have h2 : sv.length ≤ 1 := by have h := of_decide_eq_false h; omega
                  simp [h2]; done)
           first
             | (have h6 := ne_cmp har (by assumption : ar.icmp .eql x.t 6 = false)
                have hok := rec_true hx hrx (hun.trans hu) hpv hal1 (.inl (by simp [isTop, h6]))
                refine ⟨(c, i + 1), by rw [← ea]; kernel_rfl, ⟨by dsimp only; omega, by dsimp only; omega, ?_, by dsimp only; omega, ?_, by dsimp only; omega⟩, by dsimp only; omega⟩
                · show recsOk z (i + 1).toNat = true
                  rw [ei, recs_succ, hrk, hok]; rfl
                · show c.toNat = topsN z.rs (i + 1).toNat
                  rw [ei, tops_succ hx, ← hct]; simp [isTop, h6])
             | (have h6 := eq_cmp har (by assumption : ar.icmp .eql x.t 6 = true)
                have hnn := bnot_f har (by assumption : ar.bnot ni = false)
                have hok := rec_true hx hrx (hun.trans hu) hpv hal1 (.inr (by rw [hnn] at hni; simpa using hni))
                refine ⟨(c + 1, i + 1), by rw [← ea, ← eb]; kernel_rfl, ⟨by dsimp only; omega, by dsimp only; omega, ?_, by dsimp only; omega, ?_, by dsimp only; omega⟩, by dsimp only; omega⟩
                · show recsOk z (i + 1).toNat = true
                  rw [ei, recs_succ, hrk, hok]; rfl
                · show (c + 1).toNat = topsN z.rs (i + 1).toNat
                  rw [ei, tops_succ hx, ← hct]; simp [isTop, h6]; omega))
    all_goals have h0 := le_cmp har (by assumption : ar.icmp .gtr i 0 = false)
    all_goals have hpv : prevB z.rs i.toNat = true := by rw [show i.toNat = 0 by omega]; rfl
    all_goals have hbg := big_le har (by assumption : ar.big rs)
    all_goals have ea : ar.iop .add .i64 i 1 = i + 1 := add_std har (by omega) (by omega)
    all_goals have eb : ar.iop .add .i64 c 1 = c + 1 := add_std har (by omega) (by omega)
    all_goals have ei : (i + 1).toNat = i.toNat + 1 := by omega
    all_goals first
      | (have h := bnot_t har (by assumption : ar.bnot un = true)
         exact ret_bb (recs_bad hlt (by rw [recOk, hx]; simp [hun, h])).symm)
      | (have h := bnot_t har (by assumption : ar.bnot ni = true)
         have h6 := eq_cmp har (by assumption : ar.icmp .eql x.t 6 = true)
         exact ret_bb (recs_bad hlt (by rw [recOk, hx]; simp [isTop, h6, hni, h])).symm)
      | (have h := len_gt har (by assumption : ar.icmp .gtr (ar.len sets) 1 = true)
         have h5 := eq_cmp har (by assumption : ar.icmp .eql x.t 5 = true)
         have hsl : sets.length = sv.length := by rw [← hset, haln]; simp [encR]
         have h2 : ¬ sv.length ≤ 1 := by have h := of_decide_eq_true h; omega
         exact ret_bb (recs_bad hlt (by rw [recOk, hx]; simp [hal, h5, h2])).symm)
      | (have hu := bnot_f har (by assumption : ar.bnot un = false)
         have hal1 : aloneB z.rs i.toNat = true := by
           rw [hal]
           first
             | (have h5 := ne_cmp har (by assumption : ar.icmp .eql x.t 5 = false)
                simp [h5]; done)
             | (have h := len_gt har (by assumption : ar.icmp .gtr (ar.len sets) 1 = false)
                have hsl : sets.length = sv.length := by rw [← hset, haln]; simp [encR]
                have h2 : sv.length ≤ 1 := by have h := of_decide_eq_false h; omega
                simp [h2]; done)
         first
           | (have h6 := ne_cmp har (by assumption : ar.icmp .eql x.t 6 = false)
              have hok := rec_true hx hrx (hun.trans hu) hpv hal1 (.inl (by simp [isTop, h6]))
              refine ⟨(c, i + 1), by rw [← ea]; kernel_rfl, ⟨by dsimp only; omega, by dsimp only; omega, ?_, by dsimp only; omega, ?_, by dsimp only; omega⟩, by dsimp only; omega⟩
              · show recsOk z (i + 1).toNat = true
                rw [ei, recs_succ, hrk, hok]; rfl
              · show c.toNat = topsN z.rs (i + 1).toNat
                rw [ei, tops_succ hx, ← hct]; simp [isTop, h6])
           | (have h6 := eq_cmp har (by assumption : ar.icmp .eql x.t 6 = true)
              have hnn := bnot_f har (by assumption : ar.bnot ni = false)
              have hok := rec_true hx hrx (hun.trans hu) hpv hal1 (.inr (by rw [hnn] at hni; simpa using hni))
              refine ⟨(c + 1, i + 1), by rw [← ea, ← eb]; kernel_rfl, ⟨by dsimp only; omega, by dsimp only; omega, ?_, by dsimp only; omega, ?_, by dsimp only; omega⟩, by dsimp only; omega⟩
              · show recsOk z (i + 1).toNat = true
                rw [ei, recs_succ, hrk, hok]; rfl
              · show (c + 1).toNat = topsN z.rs (i + 1).toNat
                rw [ei, tops_succ hx, ← hct]; simp [isTop, h6]; omega))
end Go.TL.Tryz

/- TfLeaB -/
namespace Go.TL.Tryz
open Go Go.TL Go.Proofs
set_option maxRecDepth 20000
variable {P : Program}
def homeN : List (List UInt8) := [[104, 111, 109, 101]]
def revN : List (List UInt8) := [[48], [48], [49, 48], [105, 110, 45, 97, 100, 100, 114], [97, 114, 112, 97]]
theorem home_read : (nameRead [104, 111, 109, 101, 46]).1 = homeN := by decide +kernel
theorem rev_read : (nameRead [48, 46, 48, 46, 49, 48, 46, 105, 110, 45, 97, 100, 100, 114, 46, 97, 114, 112, 97, 46]).1 = revN := by decide +kernel
set_option maxRecDepth 20000 in
theorem fn20 : Tryz.prog.funcs[20]? = some Tryz.f20 := rfl
set_option maxHeartbeats 40000000 in
set_option maxRecDepth 3000 in
theorem sHome (hP : Prg P) : ACall P 20 [] [] (fun r ob => r = .agg [.t (.sl (encN homeN))] ∧ ob = []) := by
  generalize hh : encN homeN = hs
  refine acall_fn (md := md) [none] v20 hP.mixed hP.tab (fn_at hP fn20) 0 rfl (by decide +kernel) rfl ?_
  intro ar har
  cbv
  refine call_intro (of_w hP (by decide)) ?_
  rintro r ob ⟨rfl, rfl⟩
  rw [home_read, hh]
  cbv
  repeat' (first | (intro; cbv) | (with_reducible refine and_side ?_ ?_; rotate_left; try cbv) | (refine ChkP.mk (by decide +kernel) ?_; cbv) | (refine br_intro ?_ ?_ <;> intro <;> cbv) | (exact side_sh har (by decide)))
  exact ⟨⟨rfl, rfl⟩⟩
set_option maxRecDepth 20000 in
theorem fn21 : Tryz.prog.funcs[21]? = some Tryz.f21 := rfl
set_option maxHeartbeats 40000000 in
set_option maxRecDepth 3000 in
theorem sRev (hP : Prg P) : ACall P 21 [] [] (fun r ob => r = .agg [.t (.sl (encN revN))] ∧ ob = []) := by
  generalize hh : encN revN = hs
  refine acall_fn (md := md) [none] v21 hP.mixed hP.tab (fn_at hP fn21) 0 rfl (by decide +kernel) rfl ?_
  intro ar har
  cbv
  refine call_intro (of_w hP (by decide)) ?_
  rintro r ob ⟨rfl, rfl⟩
  rw [rev_read, hh]
  cbv
  repeat' (first | (intro; cbv) | (with_reducible refine and_side ?_ ?_; rotate_left; try cbv) | (refine ChkP.mk (by decide +kernel) ?_; cbv) | (refine br_intro ?_ ?_ <;> intro <;> cbv) | (exact side_sh har (by decide)))
  exact ⟨⟨rfl, rfl⟩⟩
def ipOk (n : Int) : Bool := withinB n 167772161 167772414
set_option maxRecDepth 20000 in
theorem fn60 : Tryz.prog.funcs[60]? = some Tryz.f60 := rfl
set_option maxHeartbeats 40000000 in
set_option maxRecDepth 3000 in
theorem sIp (hP : Prg P) {n : Int} : ACall P 60 [.one (.t (.int .i64 n))] [] (fun r ob => r = .one (.t (.bool (ipOk n))) ∧ ob = []) := by
  refine acall_fn (md := md) [none] v60 hP.mixed hP.tab (fn_at hP fn60) 1 rfl (by decide +kernel) rfl ?_
  intro ar har
  cbv
  repeat' (first | (refine br_intro ?_ ?_ <;> intro <;> cbv))
  all_goals refine ret_bb ?_
  all_goals subst har
  all_goals simp only [std, icmpS, ipOk, withinB] at *
  all_goals simp_all
  all_goals try omega
  all_goals try (rw [Bool.eq_iff_iff]; simp; omega)
def clientOk (l : List UInt8) : Bool := decide (1 ≤ l.length ∧ l.length ≤ 16)
set_option maxRecDepth 20000 in
theorem fn61 : Tryz.prog.funcs[61]? = some Tryz.f61 := rfl
set_option maxHeartbeats 40000000 in
set_option maxRecDepth 3000 in
theorem sClient (hP : Prg P) {l : List UInt8} {ls : List (List T)} (hl : encB l = ls) : ACall P 61 [.one (.t (.sl ls))] [] (fun r ob => r = .one (.t (.bool (clientOk l))) ∧ ob = []) := by
  have hlen := encB_len hl
  refine acall_fn (md := md) [none] v61 hP.mixed hP.tab (fn_at hP fn61) 1 rfl (by decide +kernel) rfl ?_
  intro ar har
  cbv
  repeat' (first | (intro; cbv) | (refine br_intro ?_ ?_ <;> intro <;> cbv))
  all_goals refine ret_bb ?_
  all_goals subst har
  all_goals simp only [std, icmpS, clientOk] at *
  all_goals simp_all
  all_goals try omega
  all_goals try (rw [Bool.eq_iff_iff]; simp; omega)
def untilB (now til : Int) : Bool := decide (now < til) && decide (til ≤ 2000000)
def leaOk (l : Lea) (now : Int) : Bool := ipOk l.ip && (clientOk l.cl && (labelOk l.ho && untilB now l.til))
set_option maxRecDepth 20000 in
theorem fn22 : Tryz.prog.funcs[22]? = some Tryz.f22 := rfl
set_option maxHeartbeats 40000000 in
set_option maxRecDepth 3000 in
theorem sLease (hP : Prg P) {l : Lea} {e1 e2 : List (List T)} (he1 : encB l.cl = e1) (he2 : encB l.ho = e2) {now : Int} : ACall P 22 [.agg [.t (.int .i64 l.ip), .t (.sl e1), .t (.sl e2), .t (.int .i64 l.til), .t (.bool l.won)], .one (.t (.int .i64 now))] [] (fun r ob => r = .one (.t (.bool (leaOk l now))) ∧ ob = []) := by
  refine acall_fn (md := md) [none] v22 hP.mixed hP.tab (fn_at hP fn22) 2 rfl (by decide +kernel) rfl ?_
  intro ar har
  cbv
  repeat' (first | (refine br_intro ?_ ?_ <;> intro <;> cbv) | (refine call_intro (sIp hP) ?_; rintro r ob ⟨rfl, rfl⟩; generalize hip : ipOk _ = ipo; cbv) | (refine call_intro (sClient hP (by assumption)) ?_; rintro r ob ⟨rfl, rfl⟩; generalize hco : clientOk _ = co; cbv) | (refine call_intro (sLabelOk hP (by assumption)) ?_; rintro r ob ⟨rfl, rfl⟩; generalize hv : labelOk _ = v; cbv))
  all_goals refine ret_bb ?_
  all_goals subst har
  all_goals simp only [std, icmpS, leaOk, untilB] at *
  all_goals simp_all
  all_goals try (intros; omega)
set_option maxRecDepth 20000 in
theorem fn78 : Tryz.prog.funcs[78]? = some Tryz.f78 := rfl
set_option maxHeartbeats 40000000 in
set_option maxRecDepth 3000 in
theorem iIp (hP : Prg P) {n : Int} : ACall P 78 [.one (.t (.int .i64 n))] [] (fun r ob => r = .one (.t (.bool (ipOk n))) ∧ ob = []) := by
  refine acall_fn (md := md) [none] v78 hP.mixed hP.tab (fn_at hP fn78) 1 rfl (by decide +kernel) rfl ?_
  intro ar har
  cbv
  repeat' (first | (refine call_intro (iWithin hP) ?_; rintro r ob ⟨rfl, rfl⟩; generalize hwi : withinB _ _ _ = wi; cbv))
  exact ⟨⟨by rw [ipOk, hwi], rfl⟩⟩
set_option maxRecDepth 20000 in
theorem fn79 : Tryz.prog.funcs[79]? = some Tryz.f79 := rfl
set_option maxHeartbeats 40000000 in
set_option maxRecDepth 3000 in
theorem iClient (hP : Prg P) {l : List UInt8} {ls : List (List T)} (hl : encB l = ls) : ACall P 79 [.one (.t (.sl ls))] [] (fun r ob => r = .one (.t (.bool (clientOk l))) ∧ ob = []) := by
  have hlen := encB_len hl
  refine acall_fn (md := md) [none] v79 hP.mixed hP.tab (fn_at hP fn79) 1 rfl (by decide +kernel) rfl ?_
  intro ar har
  cbv
  repeat' (first | (intro; cbv) | (refine call_intro (iWithin hP) ?_; rintro r ob ⟨rfl, rfl⟩; generalize hwi : withinB _ _ _ = wi; cbv))
  refine ret_bb ?_
  subst har
  rw [← hwi]
  show decide (1 ≤ (ls.length : Int) ∧ (ls.length : Int) ≤ 16) = decide (1 ≤ l.length ∧ l.length ≤ 16)
  rw [hlen, Bool.eq_iff_iff]; simp; omega
set_option maxRecDepth 20000 in
theorem fn81 : Tryz.prog.funcs[81]? = some Tryz.f81 := rfl
set_option maxHeartbeats 40000000 in
set_option maxRecDepth 3000 in
theorem iUntil (hP : Prg P) {a b : Int} : ACall P 81 [.one (.t (.int .i64 a)), .one (.t (.int .i64 b))] [] (fun r ob => r = .one (.t (.bool (untilB a b))) ∧ ob = []) := by
  refine acall_fn (md := md) [none] v81 hP.mixed hP.tab (fn_at hP fn81) 2 rfl (by decide +kernel) rfl ?_
  intro ar har
  cbv
  repeat' (first | (refine br_intro ?_ ?_ <;> intro <;> cbv))
  all_goals refine ret_bb ?_
  all_goals subst har
  all_goals simp only [std, icmpS, untilB] at *
  all_goals simp_all
  all_goals try (intros; omega)
set_option maxRecDepth 20000 in
theorem fn34 : Tryz.prog.funcs[34]? = some Tryz.f34 := rfl
set_option maxHeartbeats 40000000 in
set_option maxRecDepth 3000 in
theorem iLeaseOk (hP : Prg P) {l : Lea} {e1 e2 : List (List T)} (he1 : encB l.cl = e1) (he2 : encB l.ho = e2) {now : Int} : ACall P 34 [.agg [.t (.int .i64 l.ip), .t (.sl e1), .t (.sl e2), .t (.int .i64 l.til), .t (.bool l.won)], .one (.t (.int .i64 now))] [] (fun r ob => r = .one (.t (.bool (leaOk l now))) ∧ ob = []) := by
  refine acall_fn (md := md) [none] v34 hP.mixed hP.tab (fn_at hP fn34) 2 rfl (by decide +kernel) rfl ?_
  intro ar har
  cbv
  repeat' (first | (refine br_intro ?_ ?_ <;> intro <;> cbv) | (refine call_intro (iIp hP) ?_; rintro r ob ⟨rfl, rfl⟩; generalize hip : ipOk _ = ipo; cbv) | (refine call_intro (iClient hP (by assumption)) ?_; rintro r ob ⟨rfl, rfl⟩; generalize hco : clientOk _ = co; cbv) | (refine call_intro (iLabelOk hP (by assumption)) ?_; rintro r ob ⟨rfl, rfl⟩; generalize hlo : labelOk _ = lo; cbv) | (refine call_intro (iUntil hP) ?_; rintro r ob ⟨rfl, rfl⟩; generalize hunt : untilB _ _ = unt; cbv))
  all_goals refine ret_bb ?_
  all_goals simp_all [leaOk]
theorem homeN_b : NmB homeN ∧ homeN.length ≤ 10 := ⟨nmB_ok (by decide +kernel), by decide⟩
set_option maxRecDepth 20000 in
theorem fn103 : Tryz.prog.funcs[103]? = some Tryz.f103 := rfl
set_option maxHeartbeats 40000000 in
set_option maxRecDepth 3000 in
theorem sChild (hP : Prg P) {n : List (List UInt8)} {ns ls : List (List T)} {l : List UInt8} (hn : encN n = ns) (hl : encB l = ls) (hnl : n.length ≤ 1000000) : ACall P 103 [.agg [.t (.sl ns)], .one (.t (.sl ls))] [] (fun r ob => r = .agg [.t (.sl (encN (l :: n)))] ∧ ob = []) := by
  have hlen := encN_len hn
  have he : encN (l :: n) = [[.sl ls]] ++ ns := by subst hn; subst hl; rfl
  generalize hh : encN (l :: n) = hs at he
  refine acall_fn (md := md) [none] v103 hP.mixed hP.tab (fn_at hP fn103) 2 rfl (by decide +kernel) rfl ?_
  intro ar har
  cbv
  repeat' (first | (with_reducible refine and_side ?_ ?_; rotate_left; try cbv))
  case refine_2 => refine ⟨⟨?_, rfl⟩⟩; rw [he]; subst har; rfl
  case refine_1 =>
    refine ⟨?_, by subst har; rw [← hn]; exact wid_encN n⟩
    subst har
    show ([[T.sl ls]] ++ ns).length * (24 + 1) ≤ 2 ^ 46
    simp; omega
theorem encC (l : List UInt8) (n : List (List UInt8)) {es : List (List T)} (h : encN (l :: n) = es) : encN (l :: n) = es := h
set_option maxRecDepth 20000 in
theorem fn64 : Tryz.prog.funcs[64]? = some Tryz.f64 := rfl
set_option maxHeartbeats 40000000 in
set_option maxRecDepth 3000 in
theorem sName (hP : Prg P) {l : List UInt8} {ls : List (List T)} (hl : encB l = ls) : ACall P 64 [.one (.t (.sl ls))] [] (fun r ob => r = .agg [.t (.sl (encN (l :: homeN)))] ∧ ob = []) := by
  have hhl := homeN_b.2
  refine acall_fn (md := md) [none] v64 hP.mixed hP.tab (fn_at hP fn64) 1 rfl (by decide +kernel) rfl ?_
  intro ar har
  cbv
  refine call_intro (sHome hP) ?_; rintro r ob ⟨rfl, rfl⟩
  generalize hhn : homeN = hm at hhl ⊢
  generalize hhom : encN hm = homs
  cbv
  repeat' (first | (refine call_intro (sChild hP (by assumption) (by assumption) (by omega)) ?_; rintro r ob ⟨rfl, rfl⟩; generalize hchi : encN (_ :: _) = chis; cbv))
  exact ⟨⟨rfl, rfl⟩⟩
def leaA (l : Lea) : Rrv := ⟨l.ho :: homeN, 1, 60, l.ip, [], [], []⟩
set_option maxRecDepth 20000 in
theorem fn24 : Tryz.prog.funcs[24]? = some Tryz.f24 := rfl
set_option maxHeartbeats 40000000 in
set_option maxRecDepth 3000 in
theorem sA (hP : Prg P) {l : Lea} {e1 e2 : List (List T)} (he1 : encB l.cl = e1) (he2 : encB l.ho = e2) : ACall P 24 [.agg [.t (.int .i64 l.ip), .t (.sl e1), .t (.sl e2), .t (.int .i64 l.til), .t (.bool l.won)]] []
    (fun r ob => r = .agg [.t (.sl (encN (l.ho :: homeN))), .t (.int .i64 1), .t (.int .i64 60), .t (.int .i64 l.ip), .t (.sl []), .t (.sl []), .t (.sl [])] ∧ ob = []) := by
  refine acall_fn (md := md) [none] v24 hP.mixed hP.tab (fn_at hP fn24) 1 rfl (by decide +kernel) rfl ?_
  intro ar har
  cbv
  repeat' (first | (intro; cbv) | (refine ChkP.mk (by decide +kernel) ?_; cbv) | (refine calld_intro (sName hP (by assumption)) ?_; generalize hlna : encN (_ :: _) = lnas; cbv))
  exact ⟨⟨rfl, rfl⟩⟩
theorem get_ltStr {ar : Ar} (har : ar = std) {n : List (List UInt8)} {es : List (List T)} {i : Int} {K : List T → Prop} (hes : n.map (fun s => [T.str s]) = es) (h : ar.icmp .lss i (ar.len es) = true) (h0 : 0 ≤ i)
    (k : ∀ x, n[i.toNat]? = some x → K [.str x]) : GetP ar es i K := by
  have hl := lt_len har h h0
  have hlen : es.length = n.length := by subst hes; simp
  have hi : i.toNat < n.length := by omega
  have := k n[i.toNat] (List.getElem?_eq_getElem hi)
  subst har; subst hes
  refine ⟨by simp [std]; omega, ?_⟩
  simpa [std, hi] using this
set_option maxRecDepth 20000 in
theorem fn77 : Tryz.prog.funcs[77]? = some Tryz.f77 := rfl
set_option maxHeartbeats 40000000 in
set_option maxRecDepth 3000 in
theorem iNameOf (hP : Prg P) {es : List (List T)} {n : List (List UInt8)} (hes : n.map (fun s => [T.str s]) = es) (hn : n.length ≤ 100) (hnl : ∀ l ∈ n, l.length ≤ 100) : ACall P 77 [.one (.t (.sl es))] [] (fun r ob => r = .agg [.row 32 0] ∧ ob = [(32, .row 1 (encN n) 0 [0] false)]) := by
  have hlen : es.length = n.length := by subst hes; simp
  generalize hK : (fun (r : A) (ob : Obs) => r = A.agg [V.row 32 0] ∧ ob = [(32, Ob.row 1 (encN n) 0 [0] false)]) = K
  refine acall_fn (md := md) [some [(0, 1)]] v77 hP.mixed hP.tab (fn_at hP fn77) 1 rfl (by decide +kernel) rfl ?_
  intro ar har
  cbv
  repeat' (first | (intro; cbv))
  refine loop_start [] [.cell 3 0 1 12] ?_
  cbv
  refine LoopR.mk (List (List T) × Int) (fun x => ([(9, .one (.t (.int .i64 x.2)))], [(18, .row 1 x.1 0 [0] false)])) (fun x => encN (n.take x.2.toNat) = x.1 ∧ 0 ≤ x.2 ∧ x.2.toNat ≤ n.length) (fun x => n.length - x.2.toNat) ([], 0) ?e ?f ?g
  case e => kernel_rfl
  case f => exact ⟨rfl, Int.le_refl _, Nat.zero_le _⟩
  case g =>
    intro x hx
    obtain ⟨ls, i⟩ := x
    have hls : encN (n.take i.toNat) = ls := hx.1
    have hi0 : 0 ≤ i := hx.2.1
    have hil : i.toNat ≤ n.length := hx.2.2
    have hlsl : ls.length ≤ 100 := by rw [encN_len hls]; simp; omega
    clear hx
    cbv
    repeat' (first | (refine br_intro ?_ ?_ <;> intro <;> cbv))
    case refine_2 =>
      have hend := ge_len har (by assumption : ar.icmp .lss i (ar.len es) = false) hi0
      rw [List.take_of_length_le (by omega)] at hls
      subst hK
      exact ⟨⟨rfl, by rw [← hls]⟩⟩
    refine get_ltStr har hes (by assumption) hi0 ?_
    intro s hs
    cbv
    repeat' (first | (intro; cbv) | (with_reducible refine and_side ?_ ?_; rotate_left; try cbv))
    case refine_1.refine_1 =>
      have := hnl s (List.mem_of_getElem? hs)
      exact side_sbig har (by omega)
    case refine_1.refine_2.refine_1 => exact ⟨by subst har; simp [std]; omega, by subst har; exact wid_one _⟩
    case refine_1.refine_2.refine_2 =>
      have hlt := (List.getElem?_eq_some_iff.1 hs).1
      have ea : ar.iop .add .i64 i 1 = i + 1 := add_std har (by omega) (by omega)
      refine ⟨(ar.app ls [[.sl (ar.ofStr s)]], i + 1), by rw [← ea]; kernel_rfl, ⟨?_, by dsimp only; omega, by dsimp only; omega⟩, by dsimp only; omega⟩
      show encN (n.take (i + 1).toNat) = ar.app ls _
      rw [show (i + 1).toNat = i.toNat + 1 by omega, List.take_add_one, hs]
      subst har
      exact encN_app hls rfl
set_option maxRecDepth 20000 in
theorem fn125 : Tryz.prog.funcs[125]? = some Tryz.f125 := rfl
set_option maxHeartbeats 40000000 in
set_option maxRecDepth 3000 in
theorem iChild (hP : Prg P) {n : List (List UInt8)} {ns ls : List (List T)} {l : List UInt8} (hn : encN n = ns) (hl : encB l = ls) (hb : NmB (l :: n)) : ACall P 125 [.agg [.t (.sl ns)], .one (.t (.sl ls))] [] (fun r ob => r = .agg [.t (.sl (encN (l :: n)))] ∧ ob = []) := by
  have hlen := encN_len hn
  have he : encN (l :: n) = [[.sl ls]] ++ ns := by subst hn; subst hl; rfl
  generalize hh : encN (l :: n) = hs at he
  refine acall_fn (md := md) [none] v125 hP.mixed hP.tab (fn_at hP fn125) 2 rfl (by decide +kernel) rfl ?_
  intro ar har
  cbv
  repeat' (first | (with_reducible refine and_side ?_ ?_; rotate_left; try cbv))
  case refine_1 =>
    have := hb.1
    refine ⟨?_, by subst har; rw [← hn]; exact wid_encN n⟩
    subst har
    show ([[T.sl ls]] ++ ns).length * (24 + 1) ≤ 2 ^ 46
    simp at this ⊢; omega
  case refine_2 =>
    refine call_intro (iCopied hP (n := l :: n) (show encN (l :: n) = ar.app [[.sl ls]] ns by rw [hh, he]; subst har; rfl) hb) ?_
    rintro r ob ⟨rfl, rfl⟩
    cbv
    repeat' (first | (intro; cbv) | (with_reducible refine and_side ?_ ?_; rotate_left; try cbv) | (refine ChkP.mk (by decide +kernel) ?_; cbv) | (refine br_intro ?_ ?_ <;> intro <;> cbv) | (refine get_at har (by assumption) (by assumption) (by assumption) (by assumption) ?_; cbv) | (refine get_lt har (by assumption) (by assumption) (by assumption) ?_; intro x xx hx hxx; cbv) | (refine get_atN har (by assumption) (by assumption) (by assumption) (by assumption) ?_; cbv) | (refine get_ltN har (by assumption) (by assumption) (by assumption) ?_; intro x xx hx hxx; cbv) | (refine get_atI har (by assumption) (by assumption) (by decide) ?_; cbv) | (refine get_twoA har (by assumption) (by assumption) (by decide) ?_; intro x hx; cbv) | (refine get_twoB har (by assumption) (by assumption) (by decide) ?_; intro x hx; cbv) | (refine bytes_intro (by assumption) ?_; cbv) | (exact side_lt har (by assumption) (by assumption)) | (exact side_inb har (by assumption) (by assumption) (by assumption)) | (exact side_sh har (by decide)) | (exact side_app har (by assumption) (by assumption) (by omega)) | (exact side_app0 har (by assumption) (by omega)) | (exact side_new har (by assumption) (by omega)) | (exact side_one har (by assumption) (by omega)) | (exact side_oneN har (by assumption) (by omega)) | (exact side_flat har (by assumption)) | (exact side_sbig har (by omega)) | (refine side_sbig har ?_; simp; done) | (exact side_oneI har (by assumption) (by omega)) | (refine side_ix har ?_; simp; done) | (refine side_ix har ?_; simp; omega))
    refine ⟨⟨?_, rfl⟩⟩
    rw [he]; subst har; rfl
set_option maxRecDepth 20000 in
theorem fn32 : Tryz.prog.funcs[32]? = some Tryz.f32 := rfl
set_option maxHeartbeats 40000000 in
set_option maxRecDepth 3000 in
theorem iHome (hP : Prg P) : ACall P 32 [] [] (fun r ob => r = .agg [.t (.sl (encN homeN))] ∧ ob = []) := by
  generalize hh : encN homeN = hs
  refine acall_fn (md := md) [none] v32 hP.mixed hP.tab (fn_at hP fn32) 0 rfl (by decide +kernel) rfl ?_
  intro ar har
  cbv
  repeat' (first | (intro; cbv) | (with_reducible refine and_side ?_ ?_; rotate_left; try cbv) | (refine ChkP.mk (by decide +kernel) ?_; cbv) | (refine br_intro ?_ ?_ <;> intro <;> cbv) | (refine get_at har (by assumption) (by assumption) (by assumption) (by assumption) ?_; cbv) | (refine get_lt har (by assumption) (by assumption) (by assumption) ?_; intro x xx hx hxx; cbv) | (refine get_atN har (by assumption) (by assumption) (by assumption) (by assumption) ?_; cbv) | (refine get_ltN har (by assumption) (by assumption) (by assumption) ?_; intro x xx hx hxx; cbv) | (refine get_atI har (by assumption) (by assumption) (by decide) ?_; cbv) | (refine get_twoA har (by assumption) (by assumption) (by decide) ?_; intro x hx; cbv) | (refine get_twoB har (by assumption) (by assumption) (by decide) ?_; intro x hx; cbv) | (refine bytes_intro (by assumption) ?_; cbv) | (exact side_lt har (by assumption) (by assumption)) | (exact side_inb har (by assumption) (by assumption) (by assumption)) | (exact side_sh har (by decide)) | (exact side_app har (by assumption) (by assumption) (by omega)) | (exact side_app0 har (by assumption) (by omega)) | (exact side_new har (by assumption) (by omega)) | (exact side_one har (by assumption) (by omega)) | (exact side_oneN har (by assumption) (by omega)) | (exact side_flat har (by assumption)) | (exact side_sbig har (by omega)) | (refine side_sbig har ?_; simp; done) | (exact side_oneI har (by assumption) (by omega)) | (refine side_ix har ?_; simp; done) | (refine side_ix har ?_; simp; omega))
  refine call_intro (iNameOf hP (n := homeN) rfl (by decide) (by decide)) ?_
  rintro r ob ⟨rfl, rfl⟩
  rw [hh]
  cbv
  repeat' (first | (intro; cbv) | (with_reducible refine and_side ?_ ?_; rotate_left; try cbv) | (refine ChkP.mk (by decide +kernel) ?_; cbv) | (refine br_intro ?_ ?_ <;> intro <;> cbv) | (exact side_sh har (by decide)))
  exact ⟨⟨rfl, rfl⟩⟩
set_option maxRecDepth 20000 in
theorem fn33 : Tryz.prog.funcs[33]? = some Tryz.f33 := rfl
set_option maxHeartbeats 40000000 in
set_option maxRecDepth 3000 in
theorem iRev (hP : Prg P) : ACall P 33 [] [] (fun r ob => r = .agg [.t (.sl (encN revN))] ∧ ob = []) := by
  generalize hh : encN revN = hs
  refine acall_fn (md := md) [none] v33 hP.mixed hP.tab (fn_at hP fn33) 0 rfl (by decide +kernel) rfl ?_
  intro ar har
  cbv
  repeat' (first | (intro; cbv) | (with_reducible refine and_side ?_ ?_; rotate_left; try cbv) | (refine ChkP.mk (by decide +kernel) ?_; cbv) | (refine br_intro ?_ ?_ <;> intro <;> cbv) | (refine get_at har (by assumption) (by assumption) (by assumption) (by assumption) ?_; cbv) | (refine get_lt har (by assumption) (by assumption) (by assumption) ?_; intro x xx hx hxx; cbv) | (refine get_atN har (by assumption) (by assumption) (by assumption) (by assumption) ?_; cbv) | (refine get_ltN har (by assumption) (by assumption) (by assumption) ?_; intro x xx hx hxx; cbv) | (refine get_atI har (by assumption) (by assumption) (by decide) ?_; cbv) | (refine get_twoA har (by assumption) (by assumption) (by decide) ?_; intro x hx; cbv) | (refine get_twoB har (by assumption) (by assumption) (by decide) ?_; intro x hx; cbv) | (refine bytes_intro (by assumption) ?_; cbv) | (exact side_lt har (by assumption) (by assumption)) | (exact side_inb har (by assumption) (by assumption) (by assumption)) | (exact side_sh har (by decide)) | (exact side_app har (by assumption) (by assumption) (by omega)) | (exact side_app0 har (by assumption) (by omega)) | (exact side_new har (by assumption) (by omega)) | (exact side_one har (by assumption) (by omega)) | (exact side_oneN har (by assumption) (by omega)) | (exact side_flat har (by assumption)) | (exact side_sbig har (by omega)) | (refine side_sbig har ?_; simp; done) | (exact side_oneI har (by assumption) (by omega)) | (refine side_ix har ?_; simp; done) | (refine side_ix har ?_; simp; omega))
  refine call_intro (iNameOf hP (n := revN) rfl (by decide) (by decide)) ?_
  rintro r ob ⟨rfl, rfl⟩
  rw [hh]
  cbv
  repeat' (first | (intro; cbv) | (with_reducible refine and_side ?_ ?_; rotate_left; try cbv) | (refine ChkP.mk (by decide +kernel) ?_; cbv) | (refine br_intro ?_ ?_ <;> intro <;> cbv) | (exact side_sh har (by decide)))
  exact ⟨⟨rfl, rfl⟩⟩
theorem host_b {l : List UInt8} (h : labelOk l = true) : NmB (l :: homeN) := by
  have h1 : l.length ≤ 15 := by
    unfold labelOk at h
    simp at h
    omega
  refine ⟨by show homeN.length + 1 ≤ 7; decide, fun x hx => ?_⟩
  rcases List.mem_cons.1 hx with rfl | hx
  · omega
  · exact homeN_b.1.2 x hx
set_option maxRecDepth 20000 in
theorem fn84 : Tryz.prog.funcs[84]? = some Tryz.f84 := rfl
set_option maxHeartbeats 40000000 in
set_option maxRecDepth 3000 in
theorem iLeaName (hP : Prg P) {l : Lea} {e1 e2 : List (List T)} (he1 : encB l.cl = e1) (he2 : encB l.ho = e2) (hb : NmB (l.ho :: homeN)) : ACall P 84 [.agg [.t (.int .i64 l.ip), .t (.sl e1), .t (.sl e2), .t (.int .i64 l.til), .t (.bool l.won)]] [] (fun r ob => r = .agg [.t (.sl (encN (l.ho :: homeN)))] ∧ ob = []) := by
  refine acall_fn (md := md) [none] v84 hP.mixed hP.tab (fn_at hP fn84) 1 rfl (by decide +kernel) rfl ?_
  intro ar har
  cbv
  refine calld_intro (iHome hP) ?_
  generalize hhn : homeN = hm at hb ⊢
  generalize hhom : encN hm = homs
  cbv
  repeat' (first | (intro; cbv) | (refine ChkP.mk (by decide +kernel) ?_; cbv) | (refine calld_intro (iChild hP (by assumption) (by assumption) (by assumption)) ?_; generalize hchi : encN (_ :: _) = chis; cbv))
  exact ⟨⟨rfl, rfl⟩⟩
set_option maxRecDepth 20000 in
theorem fn36 : Tryz.prog.funcs[36]? = some Tryz.f36 := rfl
set_option maxHeartbeats 40000000 in
set_option maxRecDepth 3000 in
theorem iA (hP : Prg P) {l : Lea} {e1 e2 : List (List T)} (he1 : encB l.cl = e1) (he2 : encB l.ho = e2) (hb : NmB (l.ho :: homeN)) : ACall P 36 [.agg [.t (.int .i64 l.ip), .t (.sl e1), .t (.sl e2), .t (.int .i64 l.til), .t (.bool l.won)]] []
    (fun r ob => r = .agg [.t (.sl (encN (l.ho :: homeN))), .t (.int .i64 1), .t (.int .i64 60), .t (.int .i64 l.ip), .t (.sl []), .t (.sl []), .t (.sl [])] ∧ ob = []) := by
  refine acall_fn (md := md) [none] v36 hP.mixed hP.tab (fn_at hP fn36) 1 rfl (by decide +kernel) rfl ?_
  intro ar har
  cbv
  repeat' (first | (intro; cbv) | (refine ChkP.mk (by decide +kernel) ?_; cbv) | (refine calld_intro (iLeaName hP (by assumption) (by assumption) (by assumption)) ?_; generalize hlna : encN (_ :: _) = lnas; cbv))
  exact ⟨⟨rfl, rfl⟩⟩
end Go.TL.Tryz

/- TfDigB -/
namespace Go.TL.Tryz
open Go Go.TL Go.Proofs
set_option maxRecDepth 20000
variable {P : Program}
theorem encB_append (a b : List UInt8) : encB (a ++ b) = encB a ++ encB b := by simp [encB]
theorem quo_std {ar : Ar} (har : ar = std) {n : Int} (h0 : 0 ≤ n) (h1 : n < 100000) : ar.iop .quo .i64 n 10 = n / 10 := by
  subst har
  show IntKind.i64.wrap (n.tdiv 10) = _
  rw [Int.tdiv_eq_ediv_of_nonneg h0]
  exact wrap_id (by simp [IntKind.has, IntKind.min, IntKind.max, IntKind.signed, IntKind.bits]; omega)
theorem rem_std {ar : Ar} (har : ar = std) {n : Int} (h0 : 0 ≤ n) : ar.iop .rem .i64 n 10 = n % 10 := by
  subst har
  show n.tmod 10 = _
  exact Int.tmod_eq_emod_of_nonneg h0
set_option maxRecDepth 20000 in
theorem fn106 : Tryz.prog.funcs[106]? = some Tryz.f106 := rfl
set_option maxHeartbeats 40000000 in
set_option maxRecDepth 3000 in
theorem sDigStep (hP : Prg P) {n : Int} {rest : List UInt8} (h0 : 0 ≤ n) (h1 : n < 100000) (hl : rest.length ≤ 10) (hr : 10 ≤ n → ACall P 106 [.one (.t (.int .i64 (n / 10)))] [] (fun r ob => r = .one (.row 32 0) ∧ ob = [(32, .row 1 (encB rest) 0 [0] false)])) :
    ACall P 106 [.one (.t (.int .i64 n))] [] (fun r ob => r = .one (.row 32 0) ∧ ob = [(32, .row 1 (encB (if n < 10 then [byteOf (48 + n)] else rest ++ [byteOf (48 + n % 10)])) 0 [0] false)]) := by
  refine acall_fn (md := md) [some [(0, 1)]] v106 hP.mixed hP.tab (fn_at hP fn106) 1 rfl (by decide +kernel) rfl ?_
  intro ar har
  cbv
  have hq := quo_std har h0 h1
  have hm := rem_std har h0
  have e1 : ar.iop .add .i64 48 n = 48 + n := add_std har (by omega) (by omega)
  have e2 : ar.iop .add .i64 48 (ar.iop .rem .i64 n 10) = 48 + n % 10 := by rw [hm]; exact add_std har (by omega) (by omega)
  repeat' (first | (intro; cbv) | (with_reducible refine and_side ?_ ?_; rotate_left; try cbv) | (refine br_intro ?_ ?_ <;> intro <;> cbv))
  case refine_1 =>
    have hlt := lt_cmp har (by assumption : ar.icmp .lss n 10 = true)
    refine ⟨⟨rfl, ?_⟩⟩
    rw [if_pos hlt, enc_byteOf, ← e1]
    subst har; rfl
  have hge := ge_cmp har (by assumption : ar.icmp .lss n 10 = false)
  refine call_intro (show ACall P 106 [.one (.t (.int .i64 (ar.iop .quo .i64 n 10)))] [] _ by rw [hq]; exact hr hge) ?_
  rintro r ob ⟨rfl, rfl⟩
  generalize hrs : encB rest = rs
  cbv
  repeat' (first | (intro; cbv) | (with_reducible refine and_side ?_ ?_; rotate_left; try cbv))
  case refine_2.refine_1 => exact ⟨by subst har; show (10 : Int) ≠ 0; decide⟩
  case refine_2.refine_2.refine_1 => exact side_flat har hrs
  case refine_2.refine_2.refine_2.refine_1 => exact ⟨by subst har; show (10 : Int) ≠ 0; decide⟩
  case refine_2.refine_2.refine_2.refine_2.refine_1 => exact side_one har hrs (by omega)
  refine ⟨⟨rfl, ?_⟩⟩
  rw [if_neg (by omega), ← e2, encB_append, enc_byteOf, hrs]
  subst har; rfl
/-- The digits of a number below a thousand. -/
def digB (n : Int) : List UInt8 := if n < 10 then [byteOf (48 + n)] else (if n / 10 < 10 then [byteOf (48 + n / 10)] else [byteOf (48 + n / 10 / 10)] ++ [byteOf (48 + n / 10 % 10)]) ++ [byteOf (48 + n % 10)]
theorem digB_len (n : Int) : (digB n).length ≤ 3 := by unfold digB; repeat' split <;> simp
theorem sDigits (hP : Prg P) {n : Int} (h0 : 0 ≤ n) (h1 : n < 1000) : ACall P 106 [.one (.t (.int .i64 n))] [] (fun r ob => r = .one (.row 32 0) ∧ ob = [(32, .row 1 (encB (digB n)) 0 [0] false)]) := by
  have d1 : ∀ m : Int, 0 ≤ m → m < 10 → ACall P 106 [.one (.t (.int .i64 m))] [] (fun r ob => r = .one (.row 32 0) ∧ ob = [(32, .row 1 (encB [byteOf (48 + m)]) 0 [0] false)]) := fun m hm0 hm1 => by
    have := sDigStep hP (n := m) (rest := []) hm0 (by omega) (by simp) (fun h => by omega)
    rw [if_pos hm1] at this
    exact this
  have d2 : ∀ m : Int, 0 ≤ m → m < 100 → ACall P 106 [.one (.t (.int .i64 m))] [] (fun r ob => r = .one (.row 32 0) ∧ ob = [(32, .row 1 (encB (if m < 10 then [byteOf (48 + m)] else [byteOf (48 + m / 10)] ++ [byteOf (48 + m % 10)])) 0 [0] false)]) := fun m hm0 hm1 =>
    sDigStep hP hm0 (by omega) (by simp) fun h => d1 (m / 10) (by omega) (by omega)
  exact sDigStep hP h0 (by omega) (by split <;> simp) fun h => d2 (n / 10) (by omega) (by omega)
theorem andB255 (x : Int) : iopS .and .i64 x 255 = x % 256 := by
  show IntKind.i64.wrap (((BitVec.ofInt 64 x &&& BitVec.ofInt 64 255).toNat : Nat) : Int) = _
  have e : (BitVec.ofInt 64 x &&& BitVec.ofInt 64 255).toNat = (x % 256).toNat := by
    rw [BitVec.toNat_and, BitVec.toNat_ofInt, BitVec.toNat_ofInt]
    rw [show ((255 : Int) % ((2 ^ 64 : Nat) : Int)).toNat = 2 ^ 8 - 1 by decide, Nat.and_two_pow_sub_one_eq_mod]
    omega
  rw [e]
  rw [show (((x % 256).toNat : Nat) : Int) = x % 256 by omega]
  exact wrap_id (by simp [IntKind.has, IntKind.min, IntKind.max, IntKind.signed, IntKind.bits]; omega)
/-- The part of an address. -/
def octI (ip : Int) (i : Nat) : Int := ip / 2 ^ (8 * i) % 256
def revOf (ip : Int) : List (List UInt8) := [digB (octI ip 0), digB (octI ip 1), digB (octI ip 2), digB (octI ip 3), [105, 110, 45, 97, 100, 100, 114], [97, 114, 112, 97]]
theorem oct_std {ar : Ar} (har : ar = std) {ip i : Int} (h0 : 0 ≤ i) (h : i < 8) : ar.iop .and .i64 (ar.iop .shr .i64 ip (ar.iop .mul .i64 8 i)) 255 = octI ip i.toNat := by
  subst har
  show iopS .and .i64 (iopS .shr .i64 ip (iopS .mul .i64 8 i)) 255 = _
  rw [andB255, show iopS .mul .i64 8 i = 8 * i from mulI (by omega) (by omega), octI]
  congr 1
  show ip.fdiv (2 ^ (min (8 * i).toNat 64)) = _
  rw [Nat.min_eq_left (by omega), Int.fdiv_eq_ediv_of_nonneg _ (Int.le_of_lt (Int.pow_pos (by decide))), show (8 * i).toNat = 8 * i.toNat by omega]
theorem rev_oct (ip : Int) {k : Nat} (h : k < 4) : (revOf ip)[k]? = some (digB (octI ip k)) := by
  have hc : k = 0 ∨ k = 1 ∨ k = 2 ∨ k = 3 := by omega
  rcases hc with rfl | rfl | rfl | rfl <;> rfl
set_option maxRecDepth 20000 in
theorem fn66 : Tryz.prog.funcs[66]? = some Tryz.f66 := rfl
set_option maxHeartbeats 40000000 in
set_option maxRecDepth 3000 in
theorem sReverse (hP : Prg P) {ip : Int} : ACall P 66 [.one (.t (.int .i64 ip))] [] (fun r ob => r = .agg [.t (.sl (encN (revOf ip)))] ∧ ob = []) := by
  generalize hK : (fun (r : A) (ob : Obs) => r = A.agg [V.t (.sl (encN (revOf ip)))] ∧ ob = []) = K
  refine acall_fn (md := md) [none] v66 hP.mixed hP.tab (fn_at hP fn66) 1 rfl (by decide +kernel) rfl ?_
  intro ar har
  cbv
  repeat' (first | (intro; cbv) | (with_reducible refine and_side ?_ ?_; rotate_left; try cbv) | (refine ChkP.mk (by decide +kernel) ?_; cbv) | (refine br_intro ?_ ?_ <;> intro <;> cbv) | (refine side_sh har ?_; decide))
  refine loop_start [] [.cell 3 0 1 12] ?_
  cbv
  refine LoopR.mk (List (List T) × Int) (fun x => ([(4, .one (.t (.int .i64 x.2)))], [(18, .row 1 x.1 0 [0] false)])) (fun x => encN ((revOf ip).take x.2.toNat) = x.1 ∧ 0 ≤ x.2 ∧ x.2 ≤ 4) (fun x => (4 - x.2).toNat) ([], 0) ?e ?f ?g
  case e => kernel_rfl
  case f => exact ⟨rfl, Int.le_refl _, by decide⟩
  case g =>
    intro x hx
    obtain ⟨ls, i⟩ := x
    have hls : encN ((revOf ip).take i.toNat) = ls := hx.1
    have hi0 : 0 ≤ i := hx.2.1
    have hi4 : i ≤ 4 := hx.2.2
    have hlsl : ls.length ≤ 4 := by rw [encN_len hls, List.length_take]; omega
    clear hx
    cbv
    repeat' (first | (with_reducible refine and_side ?_ ?_; rotate_left; try cbv) | (refine br_intro ?_ ?_ <;> intro <;> cbv))
    case refine_1.refine_1 =>
      refine ⟨?_⟩
      show ar.shok (ar.iop .mul .i64 8 i)
      have e : ar.iop .mul .i64 8 i = 8 * i := by subst har; exact mulI (by omega) (by omega)
      rw [e]; subst har; show 0 ≤ 8 * i; omega
    case refine_2.refine_1 => exact ⟨by subst har; simp [std]⟩
    case refine_2.refine_2.refine_1 => exact ⟨by subst har; simp [std]⟩
    case refine_2.refine_2.refine_2.refine_1 => exact ⟨by subst har; simp [std]; omega, by subst har; intro y hy; simp at hy; rcases hy with rfl | rfl <;> rfl⟩
    case refine_2.refine_2.refine_2.refine_2 =>
      have hge := ge_cmp har (by assumption : ar.icmp .lss i 4 = false)
      have hi : i = 4 := by omega
      subst hi
      subst hK
      refine ⟨⟨?_, rfl⟩⟩
      refine congrArg (fun x => A.agg [V.t (T.sl x)]) ?_
      rw [← hls]
      subst har; rfl
    case refine_1.refine_2 =>
      have hlt := lt_cmp har (by assumption : ar.icmp .lss i 4 = true)
      have ho := oct_std har (ip := ip) hi0 (by omega)
      have hb : 0 ≤ octI ip i.toNat ∧ octI ip i.toNat < 1000 := by unfold octI; omega
      refine calld_intro (show ACall P 106 [.one (.t (.int .i64 (ar.iop .and .i64 (ar.iop .shr .i64 ip (ar.iop .mul .i64 8 i)) 255)))] [] _ by rw [ho]; exact sDigits hP hb.1 hb.2) ?_
      generalize hdg : encB (digB (octI ip i.toNat)) = dg
      cbv
      repeat' (first | (intro; cbv) | (with_reducible refine and_side ?_ ?_; rotate_left; try cbv) | (refine ChkP.mk (by decide +kernel) ?_; cbv))
      case refine_1 => exact side_flat har hdg
      case refine_2.refine_1 => exact ⟨by subst har; simp [std]; omega, by subst har; exact wid_one _⟩
      have ea : ar.iop .add .i64 i 1 = i + 1 := add_std har (by omega) (by omega)
      refine ⟨(ar.app ls [[.sl dg]], i + 1), by rw [← ea]; kernel_rfl, ⟨?_, by dsimp only; omega, by dsimp only; omega⟩, by dsimp only; omega⟩
      show encN ((revOf ip).take (i + 1).toNat) = ar.app ls [[.sl dg]]
      rw [show (i + 1).toNat = i.toNat + 1 by omega, List.take_add_one, rev_oct ip (show i.toNat < 4 by omega)]
      subst har
      exact encN_app hls (encN_one hdg)
end Go.TL.Tryz

/- TfDhcS -/
namespace Go.TL.Tryz
open Go Go.TL Go.Proofs
set_option maxRecDepth 20000
variable {P : Program}
def dhcidV (cl : List UInt8) (n : List (List UInt8)) : List UInt8 := [0, 1, 1] ++ sumV kC hC (cl ++ wireN n)
theorem sumV_len (ks : List Wd) (v : V8) (b : List UInt8) : (sumV ks v b).length = 32 := rfl
theorem dhcid_len (cl : List UInt8) (n : List (List UInt8)) : (dhcidV cl n).length = 35 := by rw [dhcidV, List.length_append, sumV_len]; rfl
set_option maxRecDepth 20000 in
theorem fn65 : Tryz.prog.funcs[65]? = some Tryz.f65 := rfl
set_option maxHeartbeats 40000000 in
set_option maxRecDepth 3000 in
theorem sDhcid (hP : Prg P) {cl : List UInt8} {n : List (List UInt8)} {cs ns : List (List T)} (hc : encB cl = cs) (hn : encN n = ns) (hcl : cl.length ≤ 16) (hnb : NmB n) : ACall P 65 [.one (.t (.sl cs)), .agg [.t (.sl ns)]] [] (fun r ob => r = .one (.t (.sl (encB (dhcidV cl n)))) ∧ ob = []) := by
  generalize hK : (fun (r : A) (ob : Obs) => r = A.one (V.t (.sl (encB (dhcidV cl n)))) ∧ ob = []) = K
  have hw := wireN_len hnb
  refine acall_fn (md := md) [none] v65 hP.mixed hP.tab (fn_at hP fn65) 2 rfl (by decide +kernel) rfl ?_
  intro ar har
  cbv
  repeat' (first | (with_reducible refine and_side ?_ ?_; rotate_left; try cbv))
  case refine_1 => exact side_app0 har hc (by omega)
  refine calld_intro (sl2put hP (l := []) rfl hn (by simp) hnb) ?_
  have hls0 : encB (wireN n) = encB ([] ++ wireN n) := rfl
  generalize hls : encB ([] ++ wireN n) = ls at hls0 ⊢
  cbv
  repeat' (first | (with_reducible refine and_side ?_ ?_; rotate_left; try cbv))
  case refine_1 =>
    refine ⟨?_, by subst har; rw [← hls0]; exact wid_byte _⟩
    have h1 := encB_len hc
    have h2 := encB_len hls0
    subst har
    show (([] ++ cs) ++ ls).length * (1 + 1) ≤ 2 ^ 46
    simp; omega
  refine calld_intro (sSum hP (b := cl ++ wireN n) (show encB (cl ++ wireN n) = ar.app (ar.app [] cs) ls by rw [enc_app hc hls0]; subst har; rfl) (by simp; omega)) ?_
  have hsl := sumV_len kC hC (cl ++ wireN n)
  generalize hsv : sumV kC hC (cl ++ wireN n) = sv at hsl ⊢
  generalize hsm : encB sv = sms
  cbv
  repeat' (first | (intro; cbv) | (with_reducible refine and_side ?_ ?_; rotate_left; try cbv) | (refine ChkP.mk (by decide +kernel) ?_; cbv))
  case refine_2.refine_2.refine_2.refine_2.refine_2 =>
    subst hK
    refine ⟨⟨?_, rfl⟩⟩
    rw [dhcidV, hsv, encB_append, hsm]
    subst har; rfl
  case refine_2.refine_2.refine_2.refine_2.refine_1 =>
    have h1 := encB_len hsm
    refine ⟨?_, by subst har; rw [← hsm]; exact wid_byte _⟩
    subst har
    show ([[T.int .u8 0], [T.int .u8 1], [T.int .u8 1]] ++ sms).length * (1 + 1) ≤ 2 ^ 46
    simp; omega
  case refine_2.refine_2.refine_2.refine_1 => exact side_flat har hsm
  all_goals first | exact side_flat har hls0 | exact side_flat har (l := cl ++ wireN n) (by rw [enc_app hc hls0]; subst har; rfl)
end Go.TL.Tryz

/- TfShQ -/
namespace Go.TL.Tryz
open Go Go.TL Go.Proofs
set_option maxRecDepth 20000
variable {P : Program}
def mulLo (x y : Int) : Int := iopS .mul .u64 x y
def mulHi (x y : Int) : Int :=
  iopS .add .u64 (iopS .add .u64 (iopS .mul .u64 (iopS .shr .u64 x 32) (iopS .shr .u64 y 32)) (iopS .shr .u64 (iopS .add .u64 (iopS .mul .u64 (iopS .shr .u64 x 32) (iopS .and .u64 y 4294967295)) (iopS .shr .u64 (iopS .mul .u64 (iopS .and .u64 x 4294967295) (iopS .and .u64 y 4294967295)) 32)) 32))
    (iopS .shr .u64 (iopS .add .u64 (iopS .and .u64 (iopS .add .u64 (iopS .mul .u64 (iopS .shr .u64 x 32) (iopS .and .u64 y 4294967295)) (iopS .shr .u64 (iopS .mul .u64 (iopS .and .u64 x 4294967295) (iopS .and .u64 y 4294967295)) 32)) 4294967295) (iopS .mul .u64 (iopS .and .u64 x 4294967295) (iopS .shr .u64 y 32))) 32)
def adLo (x y : Int) : Int := (x + y + 0) % 18446744073709551616
def adHi (x y : Int) : Int := (x + y + 0) / 18446744073709551616
def aboveV (x p : Int) (cube : Bool) : Bool :=
  let hi := mulHi x x
  let lo := mulLo x x
  match cube with
  | false => decide (p < hi) || (decide (hi = p) && decide (0 < lo))
  | true =>
    let top := mulHi lo x
    let rest := mulLo lo x
    let up := adLo (iopS .mul .u64 hi x) top
    let carry := adHi (iopS .mul .u64 hi x) top
    let whole := iopS .add .u64 (iopS .shr .u64 up 32) (iopS .shl .u64 carry 32)
    decide (p < whole) || (decide (whole = p) && (!decide (iopS .shl .u64 up 32 = 0) || !decide (rest = 0)))
/-- The root's bits, so many of them. -/
def frV (p : Int) (cube : Bool) : Nat → Int
  | 0 => 0
  | j + 1 => match aboveV (iopS .or .u64 (frV p cube j) (iopS .shl .u64 1 (37 - j))) p cube with
    | true => frV p cube j
    | false => iopS .or .u64 (frV p cube j) (iopS .shl .u64 1 (37 - j))
def fracV (p : Int) (cube : Bool) : Int := IntKind.u32.wrap (frV p cube 38)
/-- The primes below a number. -/
def prV : Nat → List Int
  | 0 => []
  | j + 1 => match (prV j).any (fun p => decide (iopS .rem .u64 (j + 2) p = 0)) with
    | true => prV j
    | false => prV j ++ [(j : Int) + 2]
theorem prV_pos : ∀ (j : Nat) (p : Int), p ∈ prV j → 2 ≤ p
  | 0, p, h => by simp [prV] at h
  | j + 1, p, h => by
    unfold prV at h
    split at h
    · exact prV_pos j p h
    · rcases List.mem_append.1 h with h | h
      · exact prV_pos j p h
      · simp at h; omega
theorem prV_len (j : Nat) : (prV j).length ≤ (prV (j + 1)).length := by
  rw [prV]
  split <;> simp
theorem prV_mono {i j : Nat} (h : i ≤ j) : (prV i).length ≤ (prV j).length := by
  induction h with
  | refl => exact Nat.le_refl _
  | step _ ih => exact Nat.le_trans ih (prV_len _)
theorem prV_309 : (prV 309).length = 63 := by decide +kernel
theorem prV_310 : (prV 310).length = 64 := by decide +kernel
theorem frac_k : (prV 310).map (fun p => fracV p true) = kC.map wI := by decide +kernel
theorem frac_h : ((prV 310).take 8).map (fun p => fracV p false) = [wI hC.a, wI hC.b, wI hC.c, wI hC.d, wI hC.e, wI hC.f, wI hC.g, wI hC.h] := by decide +kernel
end Go.TL.Tryz

/- TfShI -/
namespace Go.TL.Tryz
open Go Go.TL Go.Proofs
set_option maxRecDepth 20000
variable {P : Program}
theorem ret_b1 {a b : Bool} (h : a = b) : RetP (fun r ob => r = A.one (V.t (T.bool b)) ∧ ob = []) (A.one (V.t (T.bool a))) [] := by subst h; exact ⟨⟨rfl, rfl⟩⟩
set_option maxRecDepth 20000 in
theorem fn174 : Tryz.prog.funcs[174]? = some Tryz.f174 := rfl
set_option maxHeartbeats 40000000 in
set_option maxRecDepth 3000 in
theorem iMul64 (hP : Prg P) {x y : Int} : ACall P 174 [.one (.t (.int .u64 x)), .one (.t (.int .u64 y))] [] (fun r ob => r = .tup [.one (.t (.int .u64 (mulHi x y))), .one (.t (.int .u64 (mulLo x y)))] ∧ ob = []) := by
  refine acall_fn (md := md) [none] v174 hP.mixed hP.tab (fn_at hP fn174) 2 rfl (by decide +kernel) rfl ?_
  intro ar har
  cbv
  repeat' (first | (intro; cbv) | (with_reducible refine and_side ?_ ?_; rotate_left; try cbv) | (exact side_sh har (by decide)))
  subst har
  exact ⟨⟨rfl, rfl⟩⟩
set_option maxRecDepth 20000 in
theorem fn175 : Tryz.prog.funcs[175]? = some Tryz.f175 := rfl
set_option maxHeartbeats 40000000 in
set_option maxRecDepth 3000 in
theorem iAdd64 (hP : Prg P) {x y : Int} : ACall P 175 [.one (.t (.int .u64 x)), .one (.t (.int .u64 y)), .one (.t (.int .u64 0))] [] (fun r ob => r = .tup [.one (.t (.int .u64 (adLo x y))), .one (.t (.int .u64 (adHi x y)))] ∧ ob = []) := by
  refine acall_extern (e := add64Entry) (fn_at hP fn175) rfl (by decide +kernel) (by kernel_rfl) (by kernel_rfl) ?_
  intro w ok hd vs R hlen ha
  match vs, hlen with
  | [v1, v2, v3], _ =>
    have h1 : Rep w ok v1 (.int .u64 x) := (ha 0 _ _ rfl rfl).one_inv
    have h2 : Rep w ok v2 (.int .u64 y) := (ha 1 _ _ rfl rfl).one_inv
    have h3 : Rep w ok v3 (.int .u64 0) := (ha 2 _ _ rfl rfl).one_inv
    cases h1 with
    | int _ _ hx =>
    cases h2 with
    | int _ _ hy =>
    cases h3
    simp only [IntKind.has, IntKind.min, IntKind.max, IntKind.signed, IntKind.bits, Bool.false_eq_true, if_false] at hx hy
    refine ⟨_, _, run_add64 x y 0 (by omega) (by omega) (by omega) (by omega) w, ⟨rfl, rfl⟩, ?_⟩
    refine .tup [.int .u64 _, .int .u64 _] _ rfl fun i v a hv ha => ?_
    match i, hv, ha with
    | 0, hv, ha =>
      injection hv with hv; injection ha with ha; subst hv; subst ha
      exact .one _ _ (.int _ _ (by simp only [IntKind.has, IntKind.min, IntKind.max, IntKind.signed, IntKind.bits, Bool.false_eq_true, if_false]; omega))
    | 1, hv, ha =>
      injection hv with hv; injection ha with ha; subst hv; subst ha
      exact .one _ _ (.int _ _ (by simp only [IntKind.has, IntKind.min, IntKind.max, IntKind.signed, IntKind.bits, Bool.false_eq_true, if_false]; omega))
set_option maxRecDepth 20000 in
theorem fn168 : Tryz.prog.funcs[168]? = some Tryz.f168 := rfl
set_option maxHeartbeats 40000000 in
set_option maxRecDepth 3000 in
theorem iAbove (hP : Prg P) {x p : Int} {cube : Bool} : ACall P 168 [.one (.t (.int .u64 x)), .one (.t (.int .u64 p)), .one (.t (.bool cube))] [] (fun r ob => r = .one (.t (.bool (aboveV x p cube))) ∧ ob = []) := by
  refine acall_fn (md := md) [none] v168 hP.mixed hP.tab (fn_at hP fn168) 3 rfl (by decide +kernel) rfl ?_
  intro ar har
  cbv
  repeat' (first | (intro; cbv) | (with_reducible refine and_side ?_ ?_; rotate_left; try cbv) | (refine br_intro ?_ ?_ <;> intro <;> cbv) | (exact side_sh har (by decide)) | (refine call_intro (iMul64 hP) ?_; rintro r ob ⟨rfl, rfl⟩; generalize hmh : mulHi _ _ = mh; generalize hml : mulLo _ _ = ml; cbv) | (refine call_intro (iAdd64 hP) ?_; rintro r ob ⟨rfl, rfl⟩; generalize hal : adLo _ _ = al; generalize hah : adHi _ _ = ah; cbv))
  all_goals
    refine ret_b1 ?_
    subst har
    subst_vars
    simp_all [aboveV, std, icmpS]
    try (rw [Bool.eq_iff_iff]; simp)
set_option maxRecDepth 20000 in
theorem fn155 : Tryz.prog.funcs[155]? = some Tryz.f155 := rfl
set_option maxHeartbeats 40000000 in
set_option maxRecDepth 3000 in
theorem iFraction (hP : Prg P) {p : Int} {cube : Bool} : ACall P 155 [.one (.t (.int .u64 p)), .one (.t (.bool cube))] [] (fun r ob => r = .one (.t (.int .u32 (fracV p cube))) ∧ ob = []) := by
  refine acall_fn (md := md) [none] v155 hP.mixed hP.tab (fn_at hP fn155) 2 rfl (by decide +kernel) rfl ?_
  intro ar har
  cbv
  refine loop_start [] [] ?_
  cbv
  refine LoopR.mk (Int × Int) (fun x => ([(5, .one (.t (.int .u64 x.1))), (6, .one (.t (.int .i64 x.2)))], [])) (fun x => -1 ≤ x.2 ∧ x.2 ≤ 37 ∧ x.1 = frV p cube (37 - x.2).toNat) (fun x => (x.2 + 1).toNat) (0, 37) ?e ?f ?g
  case e => kernel_rfl
  case f => exact ⟨by decide, by decide, rfl⟩
  case g =>
    intro y hy
    obtain ⟨x, i⟩ := y
    have hi0 : -1 ≤ i := hy.1
    have hi1 : i ≤ 37 := hy.2.1
    have hx : x = frV p cube (37 - i).toNat := hy.2.2
    clear hy
    cbv
    repeat' (first | (intro; cbv) | (with_reducible refine and_side ?_ ?_; rotate_left; try cbv) | (refine br_intro ?_ ?_ <;> intro <;> cbv) | (refine call_intro (iAbove hP) ?_; rintro r ob ⟨rfl, rfl⟩; generalize hab : aboveV _ _ _ = ab; cbv))
    case refine_1.refine_1 => exact side_sh har (geq_t har (by assumption))
    case refine_1.refine_2.refine_1.refine_1 => exact side_sh har (geq_t har (by assumption))
    case refine_1.refine_2.refine_1.refine_2 =>
      have hi := geq_t har (by assumption)
      have e1 := sub_std har (a := i) (b := 1) (by omega) (by omega)
      have hf := bnot_t har (by assumption)
      refine ⟨(ar.iop .or .u64 x (ar.iop .shl .u64 1 i), i - 1), by rw [← e1]; kernel_rfl, ⟨by dsimp only; omega, by dsimp only; omega, ?_⟩, by dsimp only; omega⟩
      show _ = frV p cube (37 - (i - 1)).toNat
      rw [show (37 - (i - 1)).toNat = (37 - i).toNat + 1 by omega, frV, ← hx, show (37 : Int) - (((37 - i).toNat : Nat) : Int) = i by omega]
      subst har
      show _ = match aboveV (std.iop .or .u64 x (std.iop .shl .u64 1 i)) p cube with | true => _ | false => _
      rw [hab, hf]
      rfl
    case refine_1.refine_2.refine_2 =>
      have hi := geq_t har (by assumption)
      have e1 := sub_std har (a := i) (b := 1) (by omega) (by omega)
      have hf := bnot_f har (by assumption)
      refine ⟨(x, i - 1), by rw [← e1]; kernel_rfl, ⟨by dsimp only; omega, by dsimp only; omega, ?_⟩, by dsimp only; omega⟩
      show _ = frV p cube (37 - (i - 1)).toNat
      rw [show (37 - (i - 1)).toNat = (37 - i).toNat + 1 by omega, frV, ← hx, show (37 : Int) - (((37 - i).toNat : Nat) : Int) = i by omega]
      subst har
      show _ = match aboveV (std.iop .or .u64 x (std.iop .shl .u64 1 i)) p cube with | true => _ | false => _
      rw [hab, hf]
    case refine_2 =>
      have hi := geq_f har (by assumption)
      rw [show (37 - i).toNat = 38 by omega] at hx
      subst har; subst hx
      exact ⟨⟨rfl, rfl⟩⟩
end Go.TL.Tryz

/- TfShJ -/
namespace Go.TL.Tryz
open Go Go.TL Go.Proofs
set_option maxRecDepth 20000
variable {P : Program}

/-- Long words in memory. -/
def encJ (l : List Int) : List (List T) := l.map fun n => [.int .u64 n]
theorem encJ_len {l : List Int} {es : List (List T)} (h : encJ l = es) : es.length = l.length := by subst h; simp [encJ]
theorem encJ_app {l m : List Int} {es fs : List (List T)} (h : encJ l = es) (k : encJ m = fs) : encJ (l ++ m) = es ++ fs := by subst h; subst k; simp [encJ]
theorem get_ltJ {ar : Ar} (har : ar = std) {b : List Int} {es : List (List T)} {i : Int} {K : List T → Prop} (hes : encJ b = es) (h : ar.icmp .lss i (ar.len es) = true) (h0 : 0 ≤ i)
    (k : ∀ (x : Int), b[i.toNat]? = some x → K [.int .u64 x]) : GetP ar es i K := by
  have hl : i.toNat < b.length := by rw [← encJ_len hes]; exact lt_len har h h0
  subst har; subst hes
  refine ⟨by simp [std, encJ]; omega, ?_⟩
  have := k b[i.toNat] (List.getElem?_eq_getElem hl)
  simpa [std, encJ, hl] using this
theorem addU {a b : Int} (h1 : 0 ≤ a + b) (h2 : a + b ≤ 18446744073709551615) : iopS .add .u64 a b = a + b := by
  show IntKind.u64.wrap (a + b) = a + b
  exact wrap_id (by simp [IntKind.has, IntKind.min, IntKind.max, IntKind.signed, IntKind.bits]; omega)
theorem len_lt {ar : Ar} (har : ar = std) {ls : List (List T)} {n : Int} (h : ar.icmp .lss (ar.len ls) n = true) : (ls.length : Int) < n := by subst har; exact lt_cmp rfl h
theorem len_ge {ar : Ar} (har : ar = std) {ls : List (List T)} {n : Int} (h : ar.icmp .lss (ar.len ls) n = false) : n ≤ (ls.length : Int) := by subst har; exact ge_cmp rfl h
theorem any_hit {α : Type} {p : α → Bool} {l : List α} {i : Nat} {x : α} (hx : l[i]? = some x) (h : p x = true) : l.any p = true := List.any_eq_true.2 ⟨x, List.mem_of_getElem? hx, h⟩
theorem any_take_succ {α : Type} {p : α → Bool} {l : List α} {i : Nat} {x : α} (hx : l[i]? = some x) (h : (l.take i).any p = false) (hp : p x = false) : (l.take (i + 1)).any p = false := by
  rw [List.take_add_one, hx]; simp [h, hp]
set_option maxRecDepth 20000 in
theorem fn167 : Tryz.prog.funcs[167]? = some Tryz.f167 := rfl
set_option maxHeartbeats 40000000 in
set_option maxRecDepth 3000 in
theorem iPrimes1 (hP : Prg P) {p k : Int} (hp : 2 ≤ p) : ACall P 167 [.one (.t (.int .u64 p)), .one (.t (.pt [.int .u64 k] 0))] [] (fun r ob => r = .one (.t (.bool (decide (iopS .rem .u64 k p = 0)))) ∧ ob = []) := by
  refine acall_fn (md := md) [none] v167 hP.mixed hP.tab (fn_at hP fn167) 2 rfl (by decide +kernel) rfl ?_
  intro ar har
  cbv
  repeat' (first | (intro; cbv) | (with_reducible refine and_side ?_ ?_; rotate_left; try cbv))
  case refine_2 =>
    subst har
    refine ret_b1 ?_
    show (iopS .rem .u64 k p == 0) = _
    rw [Bool.eq_iff_iff]; simp
  case refine_1 => subst har; exact ⟨fun e => by omega⟩
set_option maxRecDepth 20000 in
theorem fn173 : Tryz.prog.funcs[173]? = some Tryz.f173 := rfl
set_option maxHeartbeats 40000000 in
set_option maxRecDepth 3000 in
theorem iIdxJ (hP : Prg P) {n : List Int} {ns : List (List T)} (hn : encJ n = ns) {k : Int} (hpos : ∀ p ∈ n, 2 ≤ p) : ACall P 173 [.one (.t (.sl ns)), .one (.t (.fn (.func 167) [] [.pt [.int .u64 k] 0]))] []
    (fun r ob => ∃ v, (0 ≤ v ↔ n.any (fun p => decide (iopS .rem .u64 k p = 0)) = true) ∧ r = .one (.t (.int .i64 v)) ∧ ob = []) := by
  refine acall_fn (md := md) [none] v173 hP.mixed hP.tab (fn_at hP fn173) 2 rfl (by decide +kernel) rfl ?_
  intro ar har
  cbv
  repeat' (first | (intro; cbv))
  refine loop_start [] [] ?_
  cbv
  refine LoopR.mk Int (fun i => ([(8, .one (.t (.int .i64 i)))], []))
    (fun i => 0 ≤ i ∧ (n.take i.toNat).any (fun p => decide (iopS .rem .u64 k p = 0)) = false) (fun i => n.length - i.toNat) 0 ?e ?f ?g
  case e => kernel_rfl
  case f => simp
  case g =>
    intro i hi
    have hi0 : 0 ≤ i := hi.1
    have hi1 : (n.take i.toNat).any (fun p => decide (iopS .rem .u64 k p = 0)) = false := hi.2
    clear hi
    cbv
    repeat' (first | (intro; cbv) | (refine br_intro ?_ ?_ <;> intro <;> cbv) | (refine get_ltJ har (by assumption) (by assumption) (by assumption) ?_; intro x hx; cbv) | (refine call_intro (iPrimes1 hP (by first | assumption | exact hpos _ (List.mem_of_getElem? (by assumption)))) ?_; rintro r ob ⟨rfl, rfl⟩; generalize hpr : decide (iopS .rem .u64 _ _ = 0) = pr; cbv))
    case refine_1.refine_1 =>
      exact ⟨⟨i, by rw [any_hit hx (by rw [hpr]; assumption)]; simp [hi0], rfl, rfl⟩⟩
    case refine_1.refine_2 =>
      have hlt := (List.getElem?_eq_some_iff.1 hx).1
      have hl := encJ_len hn
      have hb : ns.length ≤ 2 ^ 63 - 1 := by subst har; assumption
      have e1 : ar.iop .add .i64 i 1 = i + 1 := add_std har (by omega) (by omega)
      exact ⟨i + 1, by rw [← e1]; kernel_rfl, ⟨by omega, by rw [show (i + 1).toNat = i.toNat + 1 by omega]; exact any_take_succ hx hi1 (by rw [hpr]; assumption)⟩, by omega⟩
    case refine_2 =>
      have hend := ge_len har (by assumption) hi0
      rw [encJ_len hn] at hend
      rw [List.take_of_length_le hend] at hi1
      exact ⟨⟨-1, by rw [hi1]; simp, rfl, rfl⟩⟩
set_option maxRecDepth 20000 in
theorem fn166 : Tryz.prog.funcs[166]? = some Tryz.f166 := rfl
set_option maxHeartbeats 40000000 in
set_option maxRecDepth 3000 in
theorem iConJ (hP : Prg P) {n : List Int} {ns : List (List T)} (hn : encJ n = ns) {k : Int} (hpos : ∀ p ∈ n, 2 ≤ p) : ACall P 166 [.one (.t (.sl ns)), .one (.t (.fn (.func 167) [] [.pt [.int .u64 k] 0]))] []
    (fun r ob => r = .one (.t (.bool (n.any (fun p => decide (iopS .rem .u64 k p = 0))))) ∧ ob = []) := by
  refine acall_fn (md := md) [none] v166 hP.mixed hP.tab (fn_at hP fn166) 2 rfl (by decide +kernel) rfl ?_
  intro ar har
  cbv
  repeat' (first | (refine call_intro (iIdxJ hP (by assumption) hpos) ?_; rintro r ob ⟨v, hv, rfl, rfl⟩; cbv))
  subst har
  refine ret_b1 ?_
  show decide (0 ≤ v) = _
  rw [Bool.eq_iff_iff, decide_eq_true_eq, hv]
set_option maxRecDepth 20000 in
theorem fn154 : Tryz.prog.funcs[154]? = some Tryz.f154 := rfl
set_option maxHeartbeats 40000000 in
set_option maxRecDepth 3000 in
theorem iPrimes (hP : Prg P) : ACall P 154 [.one (.t (.int .i64 64))] [] (fun r ob => r = .one (.row 32 0) ∧ ob = [(32, .row 1 (encJ (prV 310)) 0 [0] false)]) := by
  generalize hK : (fun (r : A) (ob : Obs) => r = A.one (V.row 32 0) ∧ ob = [(32, Ob.row 1 (encJ (prV 310)) 0 [0] false)]) = K
  refine acall_fn (md := md) [some []] v154 hP.mixed hP.tab (fn_at hP fn154) 1 rfl (by decide +kernel) rfl ?_
  intro ar har
  cbv
  repeat' (first | (intro; cbv) | (with_reducible refine and_side ?_ ?_; rotate_left; try cbv) | (refine ChkP.mk (by decide +kernel) ?_; cbv) | (refine br_intro ?_ ?_ <;> intro <;> cbv) | (refine get_at har (by assumption) (by assumption) (by assumption) (by assumption) ?_; cbv) | (refine get_lt har (by assumption) (by assumption) (by assumption) ?_; intro x xx hx hxx; cbv) | (refine get_atN har (by assumption) (by assumption) (by assumption) (by assumption) ?_; cbv) | (refine get_ltN har (by assumption) (by assumption) (by assumption) ?_; intro x xx hx hxx; cbv) | (refine get_atI har (by assumption) (by assumption) (by decide) ?_; cbv) | (refine get_twoA har (by assumption) (by assumption) (by decide) ?_; intro x hx; cbv) | (refine get_twoB har (by assumption) (by assumption) (by decide) ?_; intro x hx; cbv) | (refine bytes_intro (by assumption) ?_; cbv) | (exact side_lt har (by assumption) (by assumption)) | (exact side_inb har (by assumption) (by assumption) (by assumption)) | (exact side_sh har (by decide)) | (exact side_app har (by assumption) (by assumption) (by omega)) | (exact side_app0 har (by assumption) (by omega)) | (exact side_new har (by assumption) (by omega)) | (exact side_one har (by assumption) (by omega)) | (exact side_oneN har (by assumption) (by omega)) | (exact side_flat har (by assumption)) | (exact side_sbig har (by omega)) | (refine side_sbig har ?_; simp; done) | (exact side_oneI har (by assumption) (by omega)) | (refine side_ix har ?_; simp; done) | (refine side_ix har ?_; simp; omega))
  refine loop_start [] [] ?_
  cbv
  refine LoopR.mk (List Int × List (List T) × Int) (fun x => ([], [(16, .row 1 x.2.1 0 [0] false), (17, .box [.t (.int .u64 x.2.2)] false)]))
    (fun x => encJ x.1 = x.2.1 ∧ 2 ≤ x.2.2 ∧ x.2.2 ≤ 312 ∧ x.1 = prV (x.2.2 - 2).toNat) (fun x => (313 - x.2.2).toNat) ([], [], 2) ?e ?f ?g
  case e => kernel_rfl
  case f => exact ⟨rfl, by decide, by decide, rfl⟩
  case g =>
    intro y hy
    obtain ⟨l, ls, k⟩ := y
    have hn : encJ l = ls := hy.1
    have hk2 : 2 ≤ k := hy.2.1
    have hk3 : k ≤ 312 := hy.2.2.1
    have hl : l = prV (k - 2).toNat := hy.2.2.2
    clear hy
    have hpos : ∀ p ∈ l, 2 ≤ p := by rw [hl]; exact prV_pos _
    have hll := encJ_len hn
    have hb : ls.length ≤ 64 := by rw [hll, hl, ← prV_310]; exact prV_mono (by omega)
    have eu : ar.iop .add .u64 k 1 = k + 1 := by subst har; exact addU (by omega) (by omega)
    have hk4 : ls.length < 64 → k < 312 := by
      intro hlt
      by_cases h : k < 312
      · exact h
      · have e : (k - 2).toNat = 310 := by omega
        rw [e] at hl
        rw [hll, hl, prV_310] at hlt
        omega
    have hj : prV ((k + 1 - 2).toNat) = match l.any (fun p => decide (iopS .rem .u64 k p = 0)) with | true => l | false => l ++ [k] := by
      rw [show (k + 1 - 2).toNat = (k - 2).toNat + 1 by omega, prV, ← hl, show (((k - 2).toNat : Nat) : Int) + 2 = k by omega]
      all_goals (generalize l.any (fun p => decide (iopS .rem .u64 k p = 0)) = q; cases q <;> rfl)
    cbv
    repeat' (first | (intro; cbv) | (with_reducible refine and_side ?_ ?_; rotate_left; try cbv) | (refine br_intro ?_ ?_ <;> intro <;> cbv) | (refine call_intro (iConJ hP (by assumption) hpos) ?_; rintro r ob ⟨rfl, rfl⟩; generalize hcj : List.any _ _ = cj; cbv))
    case refine_2 =>
      have h := len_ge har (by assumption : ar.icmp .lss (ar.len ls) 64 = false)
      have e : (k - 2).toNat = 310 := by
        rcases Nat.lt_or_ge (k - 2).toNat 310 with h1 | h1
        · have := prV_mono (show (k - 2).toNat ≤ 309 by omega)
          rw [prV_309, ← hl] at this
          omega
        · omega
      subst hK
      refine ⟨⟨rfl, ?_⟩⟩
      rw [← hn, hl, e]
    case refine_1.refine_1.refine_1 => exact ⟨by subst har; simp [std]; omega, by subst har; exact wid_one _⟩
    case refine_1.refine_1.refine_2 =>
      have hk4 := hk4 (by have := len_lt har (by assumption : ar.icmp .lss (ar.len ls) 64 = true); omega)
      rw [hcj, bnot_t har (by assumption : ar.bnot cj = true)] at hj
      refine ⟨(l ++ [k], ar.app ls [[.int .u64 k]], k + 1), by rw [← eu]; kernel_rfl, ⟨?_, by dsimp only; omega, by dsimp only; omega, hj.symm⟩, by dsimp only; omega⟩
      subst har; exact encJ_app hn rfl
    case refine_1.refine_2 =>
      have hk4 := hk4 (by have := len_lt har (by assumption : ar.icmp .lss (ar.len ls) 64 = true); omega)
      rw [hcj, bnot_f har (by assumption : ar.bnot cj = false)] at hj
      exact ⟨(l, ls, k + 1), by rw [← eu]; kernel_rfl, ⟨hn, by dsimp only; omega, by dsimp only; omega, hj.symm⟩, by dsimp only; omega⟩
end Go.TL.Tryz

/- TfHasB -/
namespace Go.TL.Tryz
open Go Go.TL Go.Proofs
set_option maxRecDepth 20000
variable {P : Program}
theorem cmpI_zero {a b : Int} : cmpI a b = 0 ↔ a = b := by unfold cmpI; split <;> rename_i h <;> (try split) <;> omega
theorem cmpRR_zero {x y : Rrv} : cmpRR x y = 0 ↔ x.n = y.n ∧ x.t = y.t ∧ dataS x.t x.addr x.to x.tx x.nu = dataS y.t y.addr y.to y.tx y.nu := by
  unfold cmpRR cmpR
  by_cases h1 : cmpN x.n y.n = 0
  · rw [if_pos h1]
    by_cases h2 : cmpI x.t y.t = 0
    · rw [if_pos h2, cmpB_zero]
      exact ⟨fun h => ⟨cmpN_zero.1 h1, cmpI_zero.1 h2, h⟩, fun h => h.2.2⟩
    · rw [if_neg h2]
      exact ⟨fun h => absurd h h2, fun h => absurd (cmpI_zero.2 h.2.1) h2⟩
  · rw [if_neg h1]
    exact ⟨fun h => absurd h h1, fun h => absurd (cmpN_zero.2 h.1) h1⟩
theorem cmpRR_comm {x y : Rrv} : cmpRR x y = 0 ↔ cmpRR y x = 0 := by
  rw [cmpRR_zero, cmpRR_zero]
  exact ⟨fun ⟨a, b, c⟩ => ⟨a.symm, b.symm, c.symm⟩, fun ⟨a, b, c⟩ => ⟨a.symm, b.symm, c.symm⟩⟩
def hasV (l : List Rrv) (r : Rrv) : Bool := l.any fun x => decide (cmpRR x r = 0)
set_option maxRecDepth 20000 in
theorem fn63 : Tryz.prog.funcs[63]? = some Tryz.f63 := rfl
set_option maxHeartbeats 40000000 in
set_option maxRecDepth 3000 in
theorem sPlace (hP : Prg P) {l : List Rrv} {r : Rrv} {es ns tos txs nus : List (List T)} (hl : encR l = es) (hok : ∀ (i : Nat) x, l[i]? = some x → rrOkR x = true) (hr : rrOkR r = true) (h1 : encN r.n = ns) (h2 : encN r.to = tos) (h3 : encB r.tx = txs) (h4 : encI r.nu = nus) :
    ACall P 63 [.one (.t (.sl es)), .agg [.t (.sl ns), .t (.int .i64 r.t), .t (.int .i64 r.ttl), .t (.int .i64 r.addr), .t (.sl tos), .t (.sl txs), .t (.sl nus)]] []
    (fun a ob => ∃ v : Int, (0 ≤ v ↔ hasV l r = true) ∧ (0 ≤ v → ∃ x, l[v.toNat]? = some x ∧ cmpRR x r = 0) ∧ a = .one (.t (.int .i64 v)) ∧ ob = []) := by
  obtain ⟨g1, g2, g3, g4, g5⟩ := rrOk_facts hr
  have g6 := g1.1
  have hlen := encR_len hl
  refine acall_fn (md := md) [none] v63 hP.mixed hP.tab (fn_at hP fn63) 2 rfl (by decide +kernel) rfl ?_
  intro ar har
  cbv
  refine loop_start [] [] ?_
  cbv
  refine LoopR.mk Int (fun i => ([(5, .one (.t (.int .i64 i)))], [])) (fun i => 0 ≤ i ∧ (l.take i.toNat).any (fun x => decide (cmpRR x r = 0)) = false) (fun i => l.length - i.toNat) 0 ?e ?f ?g
  case e => kernel_rfl
  case f => exact ⟨Int.le_refl _, rfl⟩
  case g =>
    intro i hi
    have hi0 : 0 ≤ i := hi.1
    have hi1 : (l.take i.toNat).any (fun x => decide (cmpRR x r = 0)) = false := hi.2
    clear hi
    cbv
    repeat' (first | (intro; cbv) | (refine br_intro ?_ ?_ <;> intro <;> cbv) | (refine get_ltR har (by assumption) (by assumption) (by assumption) ?_; intro x e1 e2 e3 e4 hx he1 he2 he3 he4; cbv))
    case refine_2 =>
      have hend := ge_len har (by assumption : ar.icmp .lss i (ar.len es) = false) hi0
      rw [List.take_of_length_le (by omega)] at hi1
      exact ⟨⟨-1, by rw [hasV, hi1]; simp, fun h => absurd h (by decide), rfl, rfl⟩⟩
    have hxo := hok _ _ hx
    obtain ⟨f1, f2, f3, f4, f5⟩ := rrOk_facts hxo
    have f6 := f1.1
    refine calld_intro (sl3cmp hP he1 h1 (by omega) (by omega) he2 f2 he3 (by omega) he4 f4 h2 g2 h3 (by omega) h4 g4) ?_
    generalize hcr : cmpR x.n x.t x.addr x.to x.tx x.nu r.n r.t r.addr r.to r.tx r.nu = cr
    have hcr : cmpRR x r = cr := hcr
    cbv
    repeat' (first | (intro; cbv) | (refine ChkP.mk (by decide +kernel) ?_; cbv) | (refine br_intro ?_ ?_ <;> intro <;> cbv))
    case refine_1 =>
      have h0 := eq_cmp har (by assumption : ar.icmp .eql cr 0 = true)
      have hz : cmpRR x r = 0 := hcr.trans h0
      exact ⟨⟨i, by rw [hasV, any_hit hx (by simp [hz])]; simp [hi0], fun _ => ⟨x, hx, hz⟩, rfl, rfl⟩⟩
    case refine_2 =>
      have h0 := ne_cmp har (by assumption : ar.icmp .eql cr 0 = false)
      have hlt := (List.getElem?_eq_some_iff.1 hx).1
      have hbg := big_le har (by assumption : ar.big es)
      have ea : ar.iop .add .i64 i 1 = i + 1 := add_std har (by omega) (by omega)
      exact ⟨i + 1, by rw [← ea]; kernel_rfl, ⟨by omega, by rw [show (i + 1).toNat = i.toNat + 1 by omega]; exact any_take_succ hx hi1 (by simp [hcr, h0])⟩, by omega⟩
set_option maxRecDepth 20000 in
theorem fn23 : Tryz.prog.funcs[23]? = some Tryz.f23 := rfl
set_option maxHeartbeats 40000000 in
set_option maxRecDepth 3000 in
theorem sHas (hP : Prg P) {l : List Rrv} {r : Rrv} {os es ns tos txs nus : List (List T)} (hl : encR l = es) (hok : ∀ (i : Nat) x, l[i]? = some x → rrOkR x = true) (hr : rrOkR r = true) (h1 : encN r.n = ns) (h2 : encN r.to = tos) (h3 : encB r.tx = txs) (h4 : encI r.nu = nus) :
    ACall P 23 [.agg [.t (.sl os), .t (.sl es)], .agg [.t (.sl ns), .t (.int .i64 r.t), .t (.int .i64 r.ttl), .t (.int .i64 r.addr), .t (.sl tos), .t (.sl txs), .t (.sl nus)]] []
    (fun a ob => a = .one (.t (.bool (hasV l r))) ∧ ob = []) := by
  refine acall_fn (md := md) [none] v23 hP.mixed hP.tab (fn_at hP fn23) 2 rfl (by decide +kernel) rfl ?_
  intro ar har
  cbv
  refine call_intro (sPlace hP hl hok hr h1 h2 h3 h4) ?_
  rintro a ob ⟨v, hv, _, rfl, rfl⟩
  cbv
  repeat' (first | (intro; cbv) | (with_reducible refine and_side ?_ ?_; rotate_left; try cbv) | (refine ChkP.mk (by decide +kernel) ?_; cbv) | (refine br_intro ?_ ?_ <;> intro <;> cbv) | (refine get_at har (by assumption) (by assumption) (by assumption) (by assumption) ?_; cbv) | (refine get_lt har (by assumption) (by assumption) (by assumption) ?_; intro x xx hx hxx; cbv) | (refine get_atN har (by assumption) (by assumption) (by assumption) (by assumption) ?_; cbv) | (refine get_ltN har (by assumption) (by assumption) (by assumption) ?_; intro x xx hx hxx; cbv) | (refine get_atI har (by assumption) (by assumption) (by decide) ?_; cbv) | (refine get_twoA har (by assumption) (by assumption) (by decide) ?_; intro x hx; cbv) | (refine get_twoB har (by assumption) (by assumption) (by decide) ?_; intro x hx; cbv) | (refine bytes_intro (by assumption) ?_; cbv) | (exact side_lt har (by assumption) (by assumption)) | (exact side_inb har (by assumption) (by assumption) (by assumption)) | (exact side_sh har (by decide)) | (exact side_app har (by assumption) (by assumption) (by omega)) | (exact side_app0 har (by assumption) (by omega)) | (exact side_new har (by assumption) (by omega)) | (exact side_one har (by assumption) (by omega)) | (exact side_oneN har (by assumption) (by omega)) | (exact side_flat har (by assumption)) | (exact side_sbig har (by omega)) | (refine side_sbig har ?_; simp; done) | (exact side_oneI har (by assumption) (by omega)) | (refine side_ix har ?_; simp; done) | (refine side_ix har ?_; simp; omega))
  refine ret_bb ?_
  subst har
  show decide (0 ≤ v) = _
  rw [Bool.eq_iff_iff, decide_eq_true_eq, hv]
set_option maxHeartbeats 40000000 in
set_option maxRecDepth 3000 in
theorem iIdxSame (hP : Prg P) {l : List Rrv} {r : Rrv} {es ns tos txs nus : List (List T)} (hl : encR l = es) (hok : ∀ (i : Nat) x, l[i]? = some x → rrOkR x = true) (hr : rrOkR r = true) (h1 : encN r.n = ns) (h2 : encN r.to = tos) (h3 : encB r.tx = txs) (h4 : encI r.nu = nus) :
    ACall P 124 [.one (.t (.sl es)), .one (.t (.fn (.func 83) [[.sl ns, .int .i64 r.t, .int .i64 r.ttl, .int .i64 r.addr, .sl tos, .sl txs, .sl nus]] []))] []
    (fun a ob => ∃ v : Int, (0 ≤ v ↔ hasV l r = true) ∧ a = .one (.t (.int .i64 v)) ∧ ob = []) := by
  have hlen := encR_len hl
  refine acall_fn (md := md) [none] v124 hP.mixed hP.tab (fn_at hP fn124) 2 rfl (by decide +kernel) rfl ?_
  intro ar har
  cbv
  repeat' (first | (intro; cbv))
  refine loop_start [] [] ?_
  cbv
  refine LoopR.mk Int (fun i => ([(8, .one (.t (.int .i64 i)))], [])) (fun i => 0 ≤ i ∧ (l.take i.toNat).any (fun x => decide (cmpRR x r = 0)) = false) (fun i => l.length - i.toNat) 0 ?e ?f ?g
  case e => kernel_rfl
  case f => exact ⟨Int.le_refl _, rfl⟩
  case g =>
    intro i hi
    have hi0 : 0 ≤ i := hi.1
    have hi1 : (l.take i.toNat).any (fun x => decide (cmpRR x r = 0)) = false := hi.2
    clear hi
    cbv
    repeat' (first | (refine br_intro ?_ ?_ <;> intro <;> cbv) | (refine get_ltR har (by assumption) (by assumption) (by assumption) ?_; intro x e1 e2 e3 e4 hx he1 he2 he3 he4; cbv))
    case refine_2 =>
      have hend := ge_len har (by assumption : ar.icmp .lss i (ar.len es) = false) hi0
      rw [List.take_of_length_le (by omega)] at hi1
      exact ⟨⟨-1, by rw [hasV, hi1]; simp, rfl, rfl⟩⟩
    have hxo := hok _ _ hx
    refine call_intro (iSame hP hr hxo h1 h2 h3 h4 he1 he2 he3 he4) ?_; rintro a ob ⟨rfl, rfl⟩
    generalize hsm : decide (cmpRR r x = 0) = sm
    cbv
    repeat' (first | (intro; cbv) | (refine br_intro ?_ ?_ <;> intro <;> cbv))
    case refine_1 =>
      have hz : cmpRR x r = 0 := cmpRR_comm.1 (of_decide_eq_true (hsm.trans (by assumption)))
      exact ⟨⟨i, by rw [hasV, any_hit hx (by simp [hz])]; simp [hi0], rfl, rfl⟩⟩
    case refine_2 =>
      have h0 : ¬ cmpRR x r = 0 := fun h => of_decide_eq_false (hsm.trans (by assumption)) (cmpRR_comm.1 h)
      have hlt := (List.getElem?_eq_some_iff.1 hx).1
      have hbg := big_le har (by assumption : ar.big es)
      have ea : ar.iop .add .i64 i 1 = i + 1 := add_std har (by omega) (by omega)
      exact ⟨i + 1, by rw [← ea]; kernel_rfl, ⟨by omega, by rw [show (i + 1).toNat = i.toNat + 1 by omega]; exact any_take_succ hx hi1 (by simp [h0])⟩, by omega⟩
set_option maxHeartbeats 40000000 in
set_option maxRecDepth 3000 in
theorem iConSame (hP : Prg P) {l : List Rrv} {r : Rrv} {es ns tos txs nus : List (List T)} (hl : encR l = es) (hok : ∀ (i : Nat) x, l[i]? = some x → rrOkR x = true) (hr : rrOkR r = true) (h1 : encN r.n = ns) (h2 : encN r.to = tos) (h3 : encB r.tx = txs) (h4 : encI r.nu = nus) :
    ACall P 82 [.one (.t (.sl es)), .one (.t (.fn (.func 83) [[.sl ns, .int .i64 r.t, .int .i64 r.ttl, .int .i64 r.addr, .sl tos, .sl txs, .sl nus]] []))] []
    (fun a ob => a = .one (.t (.bool (hasV l r))) ∧ ob = []) := by
  refine acall_fn (md := md) [none] v82 hP.mixed hP.tab (fn_at hP fn82) 2 rfl (by decide +kernel) rfl ?_
  intro ar har
  cbv
  refine call_intro (iIdxSame hP hl hok hr h1 h2 h3 h4) ?_
  rintro a ob ⟨v, hv, rfl, rfl⟩
  cbv
  repeat' (first | (intro; cbv) | (with_reducible refine and_side ?_ ?_; rotate_left; try cbv) | (refine ChkP.mk (by decide +kernel) ?_; cbv) | (refine br_intro ?_ ?_ <;> intro <;> cbv) | (refine get_at har (by assumption) (by assumption) (by assumption) (by assumption) ?_; cbv) | (refine get_lt har (by assumption) (by assumption) (by assumption) ?_; intro x xx hx hxx; cbv) | (refine get_atN har (by assumption) (by assumption) (by assumption) (by assumption) ?_; cbv) | (refine get_ltN har (by assumption) (by assumption) (by assumption) ?_; intro x xx hx hxx; cbv) | (refine get_atI har (by assumption) (by assumption) (by decide) ?_; cbv) | (refine get_twoA har (by assumption) (by assumption) (by decide) ?_; intro x hx; cbv) | (refine get_twoB har (by assumption) (by assumption) (by decide) ?_; intro x hx; cbv) | (refine bytes_intro (by assumption) ?_; cbv) | (exact side_lt har (by assumption) (by assumption)) | (exact side_inb har (by assumption) (by assumption) (by assumption)) | (exact side_sh har (by decide)) | (exact side_app har (by assumption) (by assumption) (by omega)) | (exact side_app0 har (by assumption) (by omega)) | (exact side_new har (by assumption) (by omega)) | (exact side_one har (by assumption) (by omega)) | (exact side_oneN har (by assumption) (by omega)) | (exact side_flat har (by assumption)) | (exact side_sbig har (by omega)) | (refine side_sbig har ?_; simp; done) | (exact side_oneI har (by assumption) (by omega)) | (refine side_ix har ?_; simp; done) | (refine side_ix har ?_; simp; omega))
  refine ret_bb ?_
  subst har
  show decide (0 ≤ v) = _
  rw [Bool.eq_iff_iff, decide_eq_true_eq, hv]
set_option maxRecDepth 20000 in
theorem fn35 : Tryz.prog.funcs[35]? = some Tryz.f35 := rfl
set_option maxHeartbeats 40000000 in
set_option maxRecDepth 3000 in
theorem iHas (hP : Prg P) {l : List Rrv} {r : Rrv} {os es ns tos txs nus : List (List T)} (hl : encR l = es) (hok : ∀ (i : Nat) x, l[i]? = some x → rrOkR x = true) (hr : rrOkR r = true) (h1 : encN r.n = ns) (h2 : encN r.to = tos) (h3 : encB r.tx = txs) (h4 : encI r.nu = nus) :
    ACall P 35 [.agg [.t (.sl os), .t (.sl es)], .agg [.t (.sl ns), .t (.int .i64 r.t), .t (.int .i64 r.ttl), .t (.int .i64 r.addr), .t (.sl tos), .t (.sl txs), .t (.sl nus)]] []
    (fun a ob => a = .one (.t (.bool (hasV l r))) ∧ ob = []) := by
  refine acall_fn (md := md) [none] v35 hP.mixed hP.tab (fn_at hP fn35) 2 rfl (by decide +kernel) rfl ?_
  intro ar har
  cbv
  refine call_intro (iConSame hP hl hok hr h1 h2 h3 h4) ?_
  rintro a ob ⟨rfl, rfl⟩
  generalize hhv : hasV l r = hv
  cbv
  repeat' (first | (intro; cbv) | (with_reducible refine and_side ?_ ?_; rotate_left; try cbv) | (refine ChkP.mk (by decide +kernel) ?_; cbv) | (refine br_intro ?_ ?_ <;> intro <;> cbv) | (refine get_at har (by assumption) (by assumption) (by assumption) (by assumption) ?_; cbv) | (refine get_lt har (by assumption) (by assumption) (by assumption) ?_; intro x xx hx hxx; cbv) | (refine get_atN har (by assumption) (by assumption) (by assumption) (by assumption) ?_; cbv) | (refine get_ltN har (by assumption) (by assumption) (by assumption) ?_; intro x xx hx hxx; cbv) | (refine get_atI har (by assumption) (by assumption) (by decide) ?_; cbv) | (refine get_twoA har (by assumption) (by assumption) (by decide) ?_; intro x hx; cbv) | (refine get_twoB har (by assumption) (by assumption) (by decide) ?_; intro x hx; cbv) | (refine bytes_intro (by assumption) ?_; cbv) | (exact side_lt har (by assumption) (by assumption)) | (exact side_inb har (by assumption) (by assumption) (by assumption)) | (exact side_sh har (by decide)) | (exact side_app har (by assumption) (by assumption) (by omega)) | (exact side_app0 har (by assumption) (by omega)) | (exact side_new har (by assumption) (by omega)) | (exact side_one har (by assumption) (by omega)) | (exact side_oneN har (by assumption) (by omega)) | (exact side_flat har (by assumption)) | (exact side_sbig har (by omega)) | (refine side_sbig har ?_; simp; done) | (exact side_oneI har (by assumption) (by omega)) | (refine side_ix har ?_; simp; done) | (refine side_ix har ?_; simp; omega))
  exact ⟨⟨rfl, rfl⟩⟩
end Go.TL.Tryz

/- TfRecS -/
namespace Go.TL.Tryz
open Go Go.TL Go.Proofs
set_option maxRecDepth 20000
variable {P : Program}
def leaD (l : Lea) : Rrv := ⟨l.ho :: homeN, 49, 60, 0, [], dhcidV l.cl (l.ho :: homeN), []⟩
def leaP (l : Lea) : Rrv := ⟨revOf l.ip, 12, 60, 0, l.ho :: homeN, [], []⟩
def mdD (n : Nat) : Md := bif eqB n 65 then ⟨[], false⟩ else md n
set_option maxRecDepth 20000 in
theorem fn25 : Tryz.prog.funcs[25]? = some Tryz.f25 := rfl
set_option maxHeartbeats 40000000 in
set_option maxRecDepth 3000 in
theorem sD (hP : Prg P) {l : Lea} {e1 e2 : List (List T)} (he1 : encB l.cl = e1) (he2 : encB l.ho = e2) (hcl : l.cl.length ≤ 16) (hnb : NmB (l.ho :: homeN)) : ACall P 25 [.agg [.t (.int .i64 l.ip), .t (.sl e1), .t (.sl e2), .t (.int .i64 l.til), .t (.bool l.won)]] []
    (fun r ob => r = .agg [.t (.sl (encN (l.ho :: homeN))), .t (.int .i64 49), .t (.int .i64 60), .t (.int .i64 0), .t (.sl []), .t (.sl (encB (dhcidV l.cl (l.ho :: homeN)))), .t (.sl [])] ∧ ob = []) := by
  generalize hnm : l.ho :: homeN = nm at hnb ⊢
  refine acall_fn (md := mdD) [none] v25 hP.mixed hP.tab (fn_at hP fn25) 1 rfl (by decide +kernel) rfl ?_
  intro ar har
  cbv
  refine call_intro (sName hP he2) ?_; rintro r ob ⟨rfl, rfl⟩
  rw [hnm]
  generalize hlna : encN nm = lnas
  cbv
  refine calld_intro (sDhcid hP he1 hlna hcl hnb) ?_
  generalize hdh : encB (dhcidV l.cl nm) = dhs
  cbv
  repeat' (first | (intro; cbv) | (refine ChkP.mk (by decide +kernel) ?_; cbv))
  exact ⟨⟨rfl, rfl⟩⟩
set_option maxRecDepth 20000 in
theorem fn26 : Tryz.prog.funcs[26]? = some Tryz.f26 := rfl
set_option maxHeartbeats 40000000 in
set_option maxRecDepth 3000 in
theorem sP (hP : Prg P) {l : Lea} {e1 e2 : List (List T)} (he1 : encB l.cl = e1) (he2 : encB l.ho = e2) : ACall P 26 [.agg [.t (.int .i64 l.ip), .t (.sl e1), .t (.sl e2), .t (.int .i64 l.til), .t (.bool l.won)]] []
    (fun r ob => r = .agg [.t (.sl (encN (revOf l.ip))), .t (.int .i64 12), .t (.int .i64 60), .t (.int .i64 0), .t (.sl (encN (l.ho :: homeN))), .t (.sl []), .t (.sl [])] ∧ ob = []) := by
  refine acall_fn (md := md) [none] v26 hP.mixed hP.tab (fn_at hP fn26) 1 rfl (by decide +kernel) rfl ?_
  intro ar har
  cbv
  repeat' (first | (intro; cbv) | (refine ChkP.mk (by decide +kernel) ?_; cbv) | (refine calld_intro (sReverse hP) ?_; generalize hrv : encN (revOf _) = rvs; cbv) | (refine calld_intro (sName hP (by assumption)) ?_; generalize hlna : encN (_ :: _) = lnas; cbv))
  exact ⟨⟨rfl, rfl⟩⟩
end Go.TL.Tryz

/- TfLeaO -/
namespace Go.TL.Tryz
open Go Go.TL Go.Proofs
theorem host_ok {l : List UInt8} (h : labelOk l = true) : nameOk (l :: homeN) = true := by
  have hh : homeN.all labelOk = true := by decide +kernel
  simp only [nameOk, List.all_cons, h, hh, Bool.and_true, Bool.true_and]
  show decide (homeN.length + 1 ≤ 6) = true
  decide
theorem dig_ok : ∀ n : Fin 256, labelOk (digB (n.val : Int)) = true := by decide +kernel
theorem oct_ok (ip : Int) (i : Nat) : labelOk (digB (octI ip i)) = true := by
  have h : 0 ≤ octI ip i ∧ octI ip i < 256 := by unfold octI; omega
  have := dig_ok ⟨(octI ip i).toNat, by omega⟩
  simpa [Int.toNat_of_nonneg h.1] using this
theorem rev_ok (ip : Int) : nameOk (revOf ip) = true := by
  have h1 : labelOk [105, 110, 45, 97, 100, 100, 114] = true := by decide +kernel
  have h2 : labelOk [97, 114, 112, 97] = true := by decide +kernel
  simp only [nameOk, revOf, List.all_cons, List.all_nil, oct_ok, h1, h2, Bool.and_true]
  rfl
theorem lea_facts {l : Lea} {now : Int} (h : leaOk l now = true) : (167772161 ≤ l.ip ∧ l.ip ≤ 167772414) ∧ l.cl.length ≤ 16 ∧ labelOk l.ho = true := by
  simp only [leaOk, ipOk, withinB, clientOk, Bool.and_eq_true, decide_eq_true_eq] at h
  exact ⟨h.1, h.2.1.2, h.2.2.1⟩
theorem leaA_ok {l : Lea} {now : Int} (h : leaOk l now = true) : rrOkR (leaA l) = true := by
  obtain ⟨⟨h1, h2⟩, h3, h4⟩ := lea_facts h
  have hw : isWordB l.ip = true := by simp only [isWordB, withinB, decide_eq_true_eq]; omega
  simp only [rrOkR, leaA, rrOk, dataOk, numsOk, host_ok h4, hw]
  rfl
theorem leaD_ok {l : Lea} {now : Int} (h : leaOk l now = true) : rrOkR (leaD l) = true := by
  obtain ⟨_, h3, h4⟩ := lea_facts h
  simp only [rrOkR, leaD, rrOk, dataOk, numsOk, host_ok h4, dhcid_len]
  rfl
theorem leaP_ok {l : Lea} {now : Int} (h : leaOk l now = true) : rrOkR (leaP l) = true := by
  obtain ⟨_, h3, h4⟩ := lea_facts h
  simp only [rrOkR, leaP, rrOk, dataOk, numsOk, rev_ok, host_ok h4]
  rfl
end Go.TL.Tryz

/- TfHouS -/
namespace Go.TL.Tryz
open Go Go.TL Go.Proofs
set_option maxRecDepth 20000
variable {P : Program}
/-- Has who won a name its records? -/
def leaHas (h : Hou) (l : Lea) : Bool := !l.won || (hasV h.z.rs (leaA l) && (hasV h.z.rs (leaD l) && hasV h.rv.rs (leaP l)))
def leaPrev (l : List Lea) (i : Nat) : Bool := match i with
  | 0 => true
  | j + 1 => match l[j]?, l[j + 1]? with
    | some p, some r => decide (p.ip < r.ip)
    | _, _ => true
def leaRec (h : Hou) (i : Nat) : Bool := match h.ls[i]? with
  | some l => leaOk l h.now && (leaPrev h.ls i && leaHas h l)
  | none => true
def leasOk (h : Hou) (n : Nat) : Bool := (List.range n).all (leaRec h)
/-- Which houses are right. -/
def houseOk (h : Hou) : Bool := decide (0 ≤ h.now ∧ h.now ≤ 1000000) && (zoneOk h.z && (zoneOk h.rv && (h.z.o == homeN && (h.rv.o == revN && (decide (h.ls.length ≤ 8) && leasOk h h.ls.length)))))
theorem leas_succ (h : Hou) (n : Nat) : leasOk h (n + 1) = (leasOk h n && leaRec h n) := by simp [leasOk, List.range_succ]
theorem leas_bad {h : Hou} {k : Nat} (hk : k < h.ls.length) (e : leaRec h k = false) : houseOk h = false := by
  have : leasOk h h.ls.length = false := by rw [leasOk, List.all_eq_false]; exact ⟨k, by simpa using hk, by rw [e]; simp⟩
  simp [houseOk, this]
theorem zone_rr {z : Zon} (h : zoneOk z = true) : ∀ (i : Nat) x, z.rs[i]? = some x → rrOkR x = true := by
  intro i x hx
  simp only [zoneOk, Bool.and_eq_true] at h
  exact recs_rr h.2.2.1 (List.getElem?_eq_some_iff.1 hx).1 hx
theorem zone_ol {z : Zon} (h : zoneOk z = true) : z.o.length ≤ 7 := by
  simp only [zoneOk, Bool.and_eq_true] at h
  exact (nmB_ok h.1).1
theorem revN_b : revN.length ≤ 10 := by decide
theorem get_lea {ar : Ar} (har : ar = std) {l : List Lea} {es : List (List T)} {i : Int} {K : List T → Prop} (hes : encL l = es) (h : 0 ≤ i ∧ i.toNat < l.length)
    (k : ∀ (x : Lea) (e1 e2 : List (List T)), l[i.toNat]? = some x → encB x.cl = e1 → encB x.ho = e2 → K [.int .i64 x.ip, .sl e1, .sl e2, .int .i64 x.til, .bool x.won]) : GetP ar es i K := by
  obtain ⟨h0, h1⟩ := h
  have hx := List.getElem?_eq_getElem h1
  subst har; subst hes
  refine ⟨⟨h0, by simp [encL]; omega⟩, ?_⟩
  have : std.get (encL l) i = cellsLea l[i.toNat] := by simp [std, encL, List.getD, hx]
  rw [this]
  exact k _ _ _ hx rfl rfl
theorem hou_f {h : Hou} {K : A → Obs → Prop} (hK : (fun (r : A) (ob : Obs) => r = A.one (V.t (.bool (houseOk h))) ∧ ob = []) = K) (e : houseOk h = false) : RetP K (A.one (V.t (.bool false))) [] := by
  subst hK; exact ⟨⟨by rw [e], rfl⟩⟩
set_option maxRecDepth 20000 in
theorem fn6 : Tryz.prog.funcs[6]? = some Tryz.f6 := rfl
set_option maxHeartbeats 40000000 in
set_option maxRecDepth 3000 in
theorem sHouseOk (hP : Prg P) {h : Hou} {d1 d2 d3 d4 d5 : List (List T)} (hd1 : encN h.z.o = d1) (hd2 : encR h.z.rs = d2) (hd3 : encN h.rv.o = d3) (hd4 : encR h.rv.rs = d4) (hd5 : encL h.ls = d5) (hb1 : BigN h.z.rs) (hb2 : BigN h.rv.rs) :
    ACall P 6 [.agg [.t (.int .i64 h.now), .t (.sl d1), .t (.sl d2), .t (.sl d3), .t (.sl d4), .t (.sl d5)]] [] (fun r ob => r = .one (.t (.bool (houseOk h))) ∧ ob = []) := by
  have hlen : d5.length = h.ls.length := by rw [← hd5]; simp [encL]
  have hhb := homeN_b.2
  have hrb := revN_b
  generalize hK : (fun (r : A) (ob : Obs) => r = A.one (V.t (.bool (houseOk h))) ∧ ob = []) = K
  refine acall_fn (md := md) [none] v6 hP.mixed hP.tab (fn_at hP fn6) 1 rfl (by decide +kernel) rfl ?_
  intro ar har
  cbv
  repeat' (first | (intro; cbv) | (with_reducible refine and_side ?_ ?_; rotate_left; try cbv) | (refine ChkP.mk (by decide +kernel) ?_; cbv) | (refine br_intro ?_ ?_ <;> intro <;> cbv) | (refine side_sh har ?_; decide) | (refine call_intro (sZoneOk hP (by assumption) (by assumption) (by assumption)) ?_; rintro r ob ⟨rfl, rfl⟩; generalize hzo : zoneOk _ = zo; cbv) | (refine calld_intro (sZoneOk hP (by assumption) (by assumption) (by assumption)) ?_; generalize hzo : zoneOk _ = zo; cbv))
  case refine_1 =>
    have h0 := lt_cmp har (by assumption : ar.icmp .lss h.now 0 = true)
    exact hou_f hK (by rw [houseOk, decide_eq_false (by omega)]; rfl)
  case refine_2.refine_1 =>
    have h0 := gt_cmp har (by assumption : ar.icmp .gtr h.now 1000000 = true)
    exact hou_f hK (by rw [houseOk, decide_eq_false (by omega)]; rfl)
  case refine_2.refine_2.refine_1 =>
    have h0 := bnot_t har (by assumption)
    exact hou_f hK (by rw [houseOk, hzo, h0]; simp)
  case refine_2.refine_2.refine_2.refine_1 =>
    have h0 := bnot_t har (by assumption : ar.bnot zo = true)
    exact hou_f hK (by rw [houseOk, hzo, h0]; simp)
  rename_i hn0 hn1 zo1 hz1 hz1b hz2b
  have n0 := ge_cmp har (by assumption : ar.icmp .lss h.now 0 = false)
  have n1 := le_cmp har (by assumption : ar.icmp .gtr h.now 1000000 = false)
  have z1 := hz1.trans (bnot_f har hz1b)
  have z2 := hzo.trans (bnot_f har hz2b)
  have o1 := zone_ol z1
  have o2 := zone_ol z2
  refine calld_intro (sHome hP) ?_
  generalize hhom : encN homeN = homs
  cbv
  repeat' (first | (intro; cbv) | (with_reducible refine and_side ?_ ?_; rotate_left; try cbv) | (refine ChkP.mk (by decide +kernel) ?_; cbv) | (refine br_intro ?_ ?_ <;> intro <;> cbv) | (refine side_sh har ?_; decide) | (refine call_intro (sl2cmp hP (by assumption) (by assumption) (by omega) (by omega)) ?_; rintro r ob ⟨rfl, rfl⟩; generalize hcn : cmpN _ _ = cn; cbv) | (refine calld_intro (sl2cmp hP (by assumption) (by assumption) (by omega) (by omega)) ?_; generalize hcn : cmpN _ _ = cn; cbv) | (refine call_intro (sRev hP) ?_; rintro r ob ⟨rfl, rfl⟩; generalize hrev : encN revN = revs; cbv) | (refine calld_intro (sRev hP) ?_; generalize hrev : encN revN = revs; cbv))
  case refine_1 =>
    have h0 := neq_t har (by assumption : ar.icmp .neq cn 0 = true)
    exact hou_f hK (by rw [houseOk, show (h.z.o == homeN) = false from beq_eq_false_iff_ne.2 fun e => h0 (by rw [← hcn, cmpN_zero.2 e])]; simp)
  case refine_2.refine_1 =>
    have h0 := neq_t har (by assumption : ar.icmp .neq cn 0 = true)
    exact hou_f hK (by rw [houseOk, show (h.rv.o == revN) = false from beq_eq_false_iff_ne.2 fun e => h0 (by rw [← hcn, cmpN_zero.2 e])]; simp)
  case refine_2.refine_2.refine_1 =>
    have h0 := gt_cmp har (by assumption : ar.icmp .gtr (ar.len d5) 8 = true)
    have h1 : ¬ h.ls.length ≤ 8 := by subst har; have h0 : (8 : Int) < (d5.length : Int) := h0; omega
    exact hou_f hK (by rw [houseOk, decide_eq_false h1]; simp)
  rename_i cn1 hcn1 hb1 _ hbg hle
  have q1 : h.z.o = homeN := cmpN_zero.1 (hcn1.trans (neq_f har hb1))
  have q2 : h.rv.o = revN := cmpN_zero.1 (hcn.trans (neq_f har (by assumption : ar.icmp .neq cn 0 = false)))
  have h8 : h.ls.length ≤ 8 := by
    have h0 := le_cmp har hle
    subst har; have h0 : (d5.length : Int) ≤ 8 := h0; omega
  have k1 := zone_rr z1
  have k2 := zone_rr z2
  refine loop_start [46] [] ?_
  cbv
  refine LoopR.mk Int (fun x => ([(3, .one (.t (.int .i64 x)))], [])) (fun x => 0 ≤ x ∧ x.toNat ≤ h.ls.length ∧ leasOk h x.toNat = true) (fun x => h.ls.length - x.toNat) 0 ?e ?f ?g
  case e => kernel_rfl
  case f => exact ⟨Int.le_refl _, Nat.zero_le _, rfl⟩
  case g =>
    intro i hi
    have hi0 : 0 ≤ i := hi.1
    have hil : i.toNat ≤ h.ls.length := hi.2.1
    have hlk : leasOk h i.toNat = true := hi.2.2
    clear hi
    cbv
    repeat' (first | (intro; cbv) | (with_reducible refine and_side ?_ ?_; rotate_left; try cbv) | (refine ChkP.mk (by decide +kernel) ?_; cbv) | (refine br_intro ?_ ?_ <;> intro <;> cbv) | (refine side_sh har ?_; decide) | (refine get_ltL har (by assumption) (by assumption) (by assumption) ?_; intro x e1 e2 hx he1 he2; cbv) | (refine call_intro (sLease hP (by assumption) (by assumption)) ?_; rintro r ob ⟨rfl, rfl⟩; generalize hlo : leaOk _ _ = lo; cbv) | (refine calld_intro (sLease hP (by assumption) (by assumption)) ?_; generalize hlo : leaOk _ _ = lo; cbv))
    case refine_2 =>
      have hend := ge_len har (by assumption : ar.icmp .lss i (ar.len d5) = false) hi0
      have e : h.ls.length = i.toNat := by omega
      subst hK
      refine ⟨⟨?_, rfl⟩⟩
      rw [houseOk, z1, z2, q1, q2, e, hlk, decide_eq_true (show 0 ≤ h.now ∧ h.now ≤ 1000000 from ⟨n0, n1⟩), decide_eq_true (show i.toNat ≤ 8 by omega)]
      simp
    case refine_1.refine_1 =>
      have h0 := bnot_t har (by assumption : ar.bnot lo = true)
      have hlt := (List.getElem?_eq_some_iff.1 hx).1
      exact hou_f hK (leas_bad hlt (by rw [leaRec, hx]; simp [hlo, h0]))
    case refine_1.refine_2.refine_2.refine_1 =>
      have h0 := bnot_f har (by assumption : ar.bnot lo = false)
      have hi00 := le_cmp har (by assumption : ar.icmp .gtr i 0 = false)
      have hpv : leaPrev h.ls i.toNat = true := by rw [show i.toNat = 0 by omega]; rfl
      have hlo1 : leaOk x h.now = true := hlo.trans h0
      obtain ⟨_, hcl16, hlab⟩ := lea_facts hlo1
      have hnb := host_b hlab
      have hbg5 := big_le har (by assumption : ar.big d5)
      have ea : ar.iop .add .i64 i 1 = i + 1 := add_std har (by omega) (by omega)
      have hlt5 := (List.getElem?_eq_some_iff.1 hx).1
      have hwon := (by assumption : x.won = true)
      refine calld_intro (sA hP he1 he2) ?_
      generalize hna : encN (x.ho :: homeN) = nas
      cbv
      repeat' (first | (intro; cbv) | (with_reducible refine and_side ?_ ?_; rotate_left; try cbv) | (refine ChkP.mk (by decide +kernel) ?_; cbv) | (refine br_intro ?_ ?_ <;> intro <;> cbv) | (refine side_sh har ?_; decide))
      refine calld_intro (sHas hP (r := leaA x) hd2 k1 (leaA_ok hlo1) hna rfl rfl rfl) ?_
      generalize hv1 : hasV h.z.rs (leaA x) = v1
      cbv
      repeat' (first | (intro; cbv) | (with_reducible refine and_side ?_ ?_; rotate_left; try cbv) | (refine ChkP.mk (by decide +kernel) ?_; cbv) | (refine br_intro ?_ ?_ <;> intro <;> cbv) | (refine side_sh har ?_; decide))
      case refine_1 =>
        have h1 := bnot_t har (by assumption : ar.bnot v1 = true)
        exact hou_f hK (leas_bad hlt5 (by rw [leaRec, hx]; simp [leaHas, hwon, hv1, h1]))
      have w1 := hv1.trans (bnot_f har (by assumption : ar.bnot v1 = false))
      refine calld_intro (sD hP he1 he2 hcl16 hnb) ?_
      generalize hdh : encB (dhcidV x.cl (x.ho :: homeN)) = dhs
      rw [hna]
      cbv
      repeat' (first | (intro; cbv) | (with_reducible refine and_side ?_ ?_; rotate_left; try cbv) | (refine ChkP.mk (by decide +kernel) ?_; cbv) | (refine br_intro ?_ ?_ <;> intro <;> cbv) | (refine side_sh har ?_; decide))
      refine calld_intro (sHas hP (r := leaD x) hd2 k1 (leaD_ok hlo1) hna rfl hdh rfl) ?_
      generalize hv2 : hasV h.z.rs (leaD x) = v2
      cbv
      repeat' (first | (intro; cbv) | (with_reducible refine and_side ?_ ?_; rotate_left; try cbv) | (refine ChkP.mk (by decide +kernel) ?_; cbv) | (refine br_intro ?_ ?_ <;> intro <;> cbv) | (refine side_sh har ?_; decide))
      case refine_1 =>
        have h1 := bnot_t har (by assumption : ar.bnot v2 = true)
        exact hou_f hK (leas_bad hlt5 (by rw [leaRec, hx]; simp [leaHas, hwon, hv2, h1]))
      have w2 := hv2.trans (bnot_f har (by assumption : ar.bnot v2 = false))
      refine calld_intro (sP hP he1 he2) ?_
      generalize hrvn : encN (revOf x.ip) = rvns
      rw [hna]
      cbv
      repeat' (first | (intro; cbv) | (with_reducible refine and_side ?_ ?_; rotate_left; try cbv) | (refine ChkP.mk (by decide +kernel) ?_; cbv) | (refine br_intro ?_ ?_ <;> intro <;> cbv) | (refine side_sh har ?_; decide))
      refine calld_intro (sHas hP (r := leaP x) hd4 k2 (leaP_ok hlo1) hrvn hna rfl rfl) ?_
      generalize hv3 : hasV h.rv.rs (leaP x) = v3
      cbv
      repeat' (first | (intro; cbv) | (with_reducible refine and_side ?_ ?_; rotate_left; try cbv) | (refine ChkP.mk (by decide +kernel) ?_; cbv) | (refine br_intro ?_ ?_ <;> intro <;> cbv) | (refine side_sh har ?_; decide))
      case refine_1 =>
        have h1 := bnot_t har (by assumption : ar.bnot v3 = true)
        exact hou_f hK (leas_bad hlt5 (by rw [leaRec, hx]; simp [leaHas, hwon, hv3, h1]))
      have w3 := hv3.trans (bnot_f har (by assumption : ar.bnot v3 = false))
      refine ⟨i + 1, by rw [← ea]; kernel_rfl, ⟨by omega, by omega, ?_⟩, by omega⟩
      rw [show (i + 1).toNat = i.toNat + 1 by omega, leas_succ, hlk, leaRec, hx]
      simp [hlo1, hpv, leaHas, w1, w2, w3]
    case refine_1.refine_2.refine_2.refine_2 =>
      have h0 := bnot_f har (by assumption : ar.bnot lo = false)
      have hi00 := le_cmp har (by assumption : ar.icmp .gtr i 0 = false)
      have hpv : leaPrev h.ls i.toNat = true := by rw [show i.toNat = 0 by omega]; rfl
      have hlo1 : leaOk x h.now = true := hlo.trans h0
      have hbg5 := big_le har (by assumption : ar.big d5)
      have ea : ar.iop .add .i64 i 1 = i + 1 := add_std har (by omega) (by omega)
      have hlt5 := (List.getElem?_eq_some_iff.1 hx).1
      have hwon := (by assumption : x.won = false)
      refine ⟨i + 1, by rw [← ea]; kernel_rfl, ⟨by omega, by omega, ?_⟩, by omega⟩
      rw [show (i + 1).toNat = i.toNat + 1 by omega, leas_succ, hlk, leaRec, hx]
      simp [hlo1, hpv, leaHas, hwon]
    case refine_1.refine_2.refine_1 =>
      have h0 := gt_cmp har (by assumption : ar.icmp .gtr i 0 = true)
      have es1 : ar.iop .sub .i64 i 1 = i - 1 := sub_std har (by omega) (by omega)
      have ej : (ar.iop .sub .i64 i 1).toNat = i.toNat - 1 := by rw [es1]; omega
      have hlt := (List.getElem?_eq_some_iff.1 hx).1
      refine get_lea har hd5 ⟨by show 0 ≤ ar.iop .sub .i64 i 1; rw [es1]; omega, by show (ar.iop .sub .i64 i 1).toNat < _; rw [ej]; omega⟩ fun y f1 f2 hy hf1 hf2 => ?_
      have hy : h.ls[(ar.iop .sub .i64 i 1).toNat]? = some y := hy
      rw [ej] at hy
      have hpe : leaPrev h.ls i.toNat = decide (y.ip < x.ip) := by
        rw [show i.toNat = (i.toNat - 1) + 1 by omega, leaPrev, hy, show i.toNat - 1 + 1 = i.toNat by omega, hx]
      cbv
      repeat' (first | (intro; cbv) | (with_reducible refine and_side ?_ ?_; rotate_left; try cbv) | (refine ChkP.mk (by decide +kernel) ?_; cbv) | (refine br_intro ?_ ?_ <;> intro <;> cbv) | (refine side_sh har ?_; decide))
      case refine_1 =>
        have h1 := geq_t har (by assumption : ar.icmp .geq y.ip x.ip = true)
        exact hou_f hK (leas_bad hlt (by rw [leaRec, hx]; simp only [hpe, decide_eq_false (show ¬ y.ip < x.ip by omega), Bool.false_and, Bool.and_false]))
      case refine_2.refine_2 =>
        have h0 := bnot_f har (by assumption : ar.bnot lo = false)
        have h1 := geq_f har (by assumption : ar.icmp .geq y.ip x.ip = false)
        have hpv : leaPrev h.ls i.toNat = true := by rw [hpe]; exact decide_eq_true (by omega)
        have hlo1 : leaOk x h.now = true := hlo.trans h0
        have hbg5 := big_le har (by assumption : ar.big d5)
        have ea : ar.iop .add .i64 i 1 = i + 1 := add_std har (by omega) (by omega)
        have hwon := (by assumption : x.won = false)
        refine ⟨i + 1, by rw [← ea]; kernel_rfl, ⟨by omega, by omega, ?_⟩, by omega⟩
        rw [show (i + 1).toNat = i.toNat + 1 by omega, leas_succ, hlk, leaRec, hx]
        simp [hlo1, hpv, leaHas, hwon]
      have h1 := geq_f har (by assumption : ar.icmp .geq y.ip x.ip = false)
      have hpv : leaPrev h.ls i.toNat = true := by rw [hpe]; exact decide_eq_true (by omega)
      have h0 := bnot_f har (by assumption : ar.bnot lo = false)
      have hlo1 : leaOk x h.now = true := hlo.trans h0
      obtain ⟨_, hcl16, hlab⟩ := lea_facts hlo1
      have hnb := host_b hlab
      have hbg5 := big_le har (by assumption : ar.big d5)
      have ea : ar.iop .add .i64 i 1 = i + 1 := add_std har (by omega) (by omega)
      have hlt5 := (List.getElem?_eq_some_iff.1 hx).1
      have hwon := (by assumption : x.won = true)
      refine calld_intro (sA hP he1 he2) ?_
      generalize hna : encN (x.ho :: homeN) = nas
      cbv
      repeat' (first | (intro; cbv) | (with_reducible refine and_side ?_ ?_; rotate_left; try cbv) | (refine ChkP.mk (by decide +kernel) ?_; cbv) | (refine br_intro ?_ ?_ <;> intro <;> cbv) | (refine side_sh har ?_; decide))
      refine calld_intro (sHas hP (r := leaA x) hd2 k1 (leaA_ok hlo1) hna rfl rfl rfl) ?_
      generalize hv1 : hasV h.z.rs (leaA x) = v1
      cbv
      repeat' (first | (intro; cbv) | (with_reducible refine and_side ?_ ?_; rotate_left; try cbv) | (refine ChkP.mk (by decide +kernel) ?_; cbv) | (refine br_intro ?_ ?_ <;> intro <;> cbv) | (refine side_sh har ?_; decide))
      case refine_1 =>
        have h1 := bnot_t har (by assumption : ar.bnot v1 = true)
        exact hou_f hK (leas_bad hlt5 (by rw [leaRec, hx]; simp [leaHas, hwon, hv1, h1]))
      have w1 := hv1.trans (bnot_f har (by assumption : ar.bnot v1 = false))
      refine calld_intro (sD hP he1 he2 hcl16 hnb) ?_
      generalize hdh : encB (dhcidV x.cl (x.ho :: homeN)) = dhs
      rw [hna]
      cbv
      repeat' (first | (intro; cbv) | (with_reducible refine and_side ?_ ?_; rotate_left; try cbv) | (refine ChkP.mk (by decide +kernel) ?_; cbv) | (refine br_intro ?_ ?_ <;> intro <;> cbv) | (refine side_sh har ?_; decide))
      refine calld_intro (sHas hP (r := leaD x) hd2 k1 (leaD_ok hlo1) hna rfl hdh rfl) ?_
      generalize hv2 : hasV h.z.rs (leaD x) = v2
      cbv
      repeat' (first | (intro; cbv) | (with_reducible refine and_side ?_ ?_; rotate_left; try cbv) | (refine ChkP.mk (by decide +kernel) ?_; cbv) | (refine br_intro ?_ ?_ <;> intro <;> cbv) | (refine side_sh har ?_; decide))
      case refine_1 =>
        have h1 := bnot_t har (by assumption : ar.bnot v2 = true)
        exact hou_f hK (leas_bad hlt5 (by rw [leaRec, hx]; simp [leaHas, hwon, hv2, h1]))
      have w2 := hv2.trans (bnot_f har (by assumption : ar.bnot v2 = false))
      refine calld_intro (sP hP he1 he2) ?_
      generalize hrvn : encN (revOf x.ip) = rvns
      rw [hna]
      cbv
      repeat' (first | (intro; cbv) | (with_reducible refine and_side ?_ ?_; rotate_left; try cbv) | (refine ChkP.mk (by decide +kernel) ?_; cbv) | (refine br_intro ?_ ?_ <;> intro <;> cbv) | (refine side_sh har ?_; decide))
      refine calld_intro (sHas hP (r := leaP x) hd4 k2 (leaP_ok hlo1) hrvn hna rfl rfl) ?_
      generalize hv3 : hasV h.rv.rs (leaP x) = v3
      cbv
      repeat' (first | (intro; cbv) | (with_reducible refine and_side ?_ ?_; rotate_left; try cbv) | (refine ChkP.mk (by decide +kernel) ?_; cbv) | (refine br_intro ?_ ?_ <;> intro <;> cbv) | (refine side_sh har ?_; decide))
      case refine_1 =>
        have h1 := bnot_t har (by assumption : ar.bnot v3 = true)
        exact hou_f hK (leas_bad hlt5 (by rw [leaRec, hx]; simp [leaHas, hwon, hv3, h1]))
      have w3 := hv3.trans (bnot_f har (by assumption : ar.bnot v3 = false))
      refine ⟨i + 1, by rw [← ea]; kernel_rfl, ⟨by omega, by omega, ?_⟩, by omega⟩
      rw [show (i + 1).toNat = i.toNat + 1 by omega, leas_succ, hlk, leaRec, hx]
      simp [hlo1, hpv, leaHas, w1, w2, w3]
end Go.TL.Tryz

/- TfRevB -/
namespace Go.TL.Tryz
open Go Go.TL Go.Proofs
set_option maxRecDepth 20000
variable {P : Program}
theorem getp_of {ar : Ar} {es : List (List T)} {i : Int} {e : List T} {K : List T → Prop} (hi : ar.inb i es) (he : ar.get es i = e) (k : K e) : GetP ar es i K := ⟨hi, by rw [he]; exact k⟩
set_option maxRecDepth 20000 in
theorem fn130 : Tryz.prog.funcs[130]? = some Tryz.f130 := rfl
set_option maxHeartbeats 40000000 in
set_option maxRecDepth 3000 in
theorem iRev4 (hP : Prg P) {a b c d : List UInt8} {es : List (List T)} (hes : es = [[.str a], [.str b], [.str c], [.str d]]) : ACall P 130 [.one (.row 0 7)] [(0, .row 1 es 7 [7] false)] (fun r ob => r = .tup [] ∧ ob = [(0, .row 1 [[.str d], [.str c], [.str b], [.str a]] 7 [7] false)]) := by
  generalize hK : (fun (r : A) (ob : Obs) => r = A.tup [] ∧ ob = [(0, Ob.row 1 [[.str d], [.str c], [.str b], [.str a]] 7 [7] false)]) = K
  refine acall_fn (md := md) [none] v130 hP.mixed hP.tab (fn_at hP fn130) 1 rfl (by decide +kernel) rfl ?_
  intro ar har
  cbv
  have e3 : ar.iop .sub .i64 (ar.len es) 1 = 3 := by subst har; subst hes; rfl
  repeat' (first | (intro; cbv))
  refine loop_start [] [] ?_
  cbv
  refine LoopR.mk (Nat × Int × Int × List (List T)) (fun x => ([(2, .one (.t (.int .i64 x.2.1))), (3, .one (.t (.int .i64 x.2.2.1)))], [(0, .row 1 x.2.2.2 7 [7] false)]))
    (fun x => (x.1 = 0 ∧ x.2.1 = 0 ∧ x.2.2.1 = 3 ∧ x.2.2.2 = [[.str a], [.str b], [.str c], [.str d]]) ∨ (x.1 = 1 ∧ x.2.1 = 1 ∧ x.2.2.1 = 2 ∧ x.2.2.2 = [[.str d], [.str b], [.str c], [.str a]]) ∨ (x.1 = 2 ∧ x.2.1 = 2 ∧ x.2.2.1 = 1 ∧ x.2.2.2 = [[.str d], [.str c], [.str b], [.str a]])) (fun x => 2 - x.1) (0, 0, ar.iop .sub .i64 (ar.len es) 1, es) ?e ?f ?g
  case e => kernel_rfl
  case f => exact .inl ⟨rfl, rfl, e3, hes⟩
  case g =>
    intro x hx
    obtain ⟨k, i, j, ls⟩ := x
    rcases hx with ⟨hk, hi, hj, hls⟩ | ⟨hk, hi, hj, hls⟩ | ⟨hk, hi, hj, hls⟩
    all_goals (dsimp only at hk hi hj hls)
    case inl =>
      have h1 : ar.inb i ls := by subst har; rw [hls, hi]; simp [std]
      have h2 : ar.inb j ls := by subst har; rw [hls, hj]; simp [std]
      have h3 : ar.inb j (ar.setc ls i 0 [.str d]) := by subst har; rw [hls, hi, hj]; simp [std]
      have g1 : ar.get ls i = [.str a] := by subst har; rw [hls, hi]; rfl
      have g2 : ar.get ls j = [.str d] := by subst har; rw [hls, hj]; rfl
      cbv
      repeat' (first | (with_reducible refine and_side ?_ ?_; rotate_left; try cbv) | (refine br_intro ?_ ?_ <;> intro <;> cbv))
      case refine_1.refine_1 => exact ⟨h2⟩
      case refine_2 => exact absurd (by assumption : ar.icmp .lss i j = false) (by subst har; rw [hi, hj]; decide)
      refine getp_of h2 g2 ?_
      cbv
      repeat' (first | (with_reducible refine and_side ?_ ?_; rotate_left; try cbv))
      case refine_1 => exact ⟨h1⟩
      refine getp_of h1 g1 ?_
      cbv
      repeat' (first | (intro; cbv) | (with_reducible refine and_side ?_ ?_; rotate_left; try cbv) | (refine ChkP.mk (by decide +kernel) ?_; cbv))
      all_goals first
        | exact ⟨h1⟩
        | exact ⟨h2⟩
        | exact ⟨h3⟩
        | skip
      exact ⟨(1, ar.iop .add .i64 i 1, ar.iop .sub .i64 j 1, ar.setc (ar.setc ls i 0 [.str d]) j 0 [.str a]), by kernel_rfl, .inr (.inl ⟨rfl, by subst har; rw [hi]; rfl, by subst har; rw [hj]; rfl, by subst har; rw [hls, hi, hj]; rfl⟩), by dsimp only; omega⟩
    case inr.inl =>
      have h1 : ar.inb i ls := by subst har; rw [hls, hi]; simp [std]
      have h2 : ar.inb j ls := by subst har; rw [hls, hj]; simp [std]
      have h3 : ar.inb j (ar.setc ls i 0 [.str c]) := by subst har; rw [hls, hi, hj]; simp [std]
      have g1 : ar.get ls i = [.str b] := by subst har; rw [hls, hi]; rfl
      have g2 : ar.get ls j = [.str c] := by subst har; rw [hls, hj]; rfl
      cbv
      repeat' (first | (with_reducible refine and_side ?_ ?_; rotate_left; try cbv) | (refine br_intro ?_ ?_ <;> intro <;> cbv))
      case refine_1.refine_1 => exact ⟨h2⟩
      case refine_2 => exact absurd (by assumption : ar.icmp .lss i j = false) (by subst har; rw [hi, hj]; decide)
      refine getp_of h2 g2 ?_
      cbv
      repeat' (first | (with_reducible refine and_side ?_ ?_; rotate_left; try cbv))
      case refine_1 => exact ⟨h1⟩
      refine getp_of h1 g1 ?_
      cbv
      repeat' (first | (intro; cbv) | (with_reducible refine and_side ?_ ?_; rotate_left; try cbv) | (refine ChkP.mk (by decide +kernel) ?_; cbv))
      all_goals first
        | exact ⟨h1⟩
        | exact ⟨h2⟩
        | exact ⟨h3⟩
        | skip
      exact ⟨(2, ar.iop .add .i64 i 1, ar.iop .sub .i64 j 1, ar.setc (ar.setc ls i 0 [.str c]) j 0 [.str b]), by kernel_rfl, .inr (.inr ⟨rfl, by subst har; rw [hi]; rfl, by subst har; rw [hj]; rfl, by subst har; rw [hls, hi, hj]; rfl⟩), by dsimp only; omega⟩
    case inr.inr =>
      cbv
      repeat' (first | (intro; cbv) | (with_reducible refine and_side ?_ ?_; rotate_left; try cbv) | (refine ChkP.mk (by decide +kernel) ?_; cbv) | (exact side_sh har (by decide)))
      refine br_intro (fun h => absurd h (by subst har; rw [hi, hj]; decide)) fun _ => ?_
      cbv
      subst hK
      exact ⟨⟨rfl, by rw [hls]⟩⟩
end Go.TL.Tryz

/- TfSamR -/
namespace Go.TL.Tryz
open Go Go.TL Go.Proofs
variable {P : Program}

def sameR (m : List (List UInt8)) (t ttl addr : Int) (to : List (List UInt8)) (tx : List UInt8) (nu : List Int) (n : List (List UInt8)) (t2 ttl2 addr2 : Int) (qo : List (List UInt8)) (vx : List UInt8) (nv : List Int) : Bool :=
  rrOk m t ttl addr to tx nu && (rrOk n t2 ttl2 addr2 qo vx nv && (cmpR m t addr to tx nu n t2 addr2 qo vx nv == 0))
theorem get_zero {ar : Ar} (har : ar = std) {e : List T} {i : Int} {K : List T → Prop} (hi : i = 0) (k : K e) : GetP ar [e] i K := by
  subst har; subst hi
  exact ⟨by simp [std], k⟩
end Go.TL.Tryz

/- TfWrd -/
namespace Go.TL.Tryz
open Go Go.TL Go.Proofs
variable {P : Program}

def encS (l : List (List UInt8)) : List (List T) := l.map fun s => [.str s]
theorem encS_len {l : List (List UInt8)} {es : List (List T)} (h : encS l = es) : es.length = l.length := by subst h; simp [encS]
theorem get_word {ar : Ar} (har : ar = std) {l : List (List UInt8)} {es : List (List T)} {i : Int} {K : List T → Prop} (hes : encS l = es) (h : ar.icmp .lss i (ar.len es) = true) (h0 : 0 ≤ i)
    (k : ∀ s : List UInt8, l[i.toNat]? = some s → K [.str s]) : GetP ar es i K := by
  have hl : i.toNat < l.length := by rw [← encS_len hes]; exact lt_len har h h0
  subst har; subst hes
  refine ⟨by simp [std, encS]; omega, ?_⟩
  have := k l[i.toNat] (List.getElem?_eq_getElem hl)
  simpa [std, encS, hl] using this
def joinW : List (List UInt8) → List UInt8
  | [] => []
  | x :: r => x ++ r.flatMap fun s => 32 :: s
theorem join_step {l : List (List UInt8)} {i : Nat} {s : List UInt8} (h : l[i]? = some s) : joinW (l.take (i + 1)) = if i = 0 then s else joinW (l.take i) ++ [32] ++ s := by
  cases l with
  | nil => simp at h
  | cons x r =>
    cases i with
    | zero => simp at h; subst h; simp [joinW]
    | succ j =>
      simp at h
      simp only [List.take_succ_cons, joinW, if_neg (Nat.succ_ne_zero j)]
      rw [List.take_add_one, h]
      simp
theorem join_first {l : List (List UInt8)} : joinW (l.take 0) = [] := by simp [joinW]
theorem side_cat {ar : Ar} (har : ar = std) {a b : List UInt8} (h1 : a.length ≤ 1000000) (h2 : b.length ≤ 1000000) : Side (ar.sbig a ∧ ar.sbig b) := by
  subst har; exact ⟨by simp [std]; omega, by simp [std]; omega⟩
end Go.TL.Tryz

/- TfShelf -/
namespace Go.Proofs
open Go.Shelf
def Tryz.laysM171_ren : Go.Shelf.Ren := ⟨fun | 171 => 158 | 243 => 172 | 246 => 176 | 283 => 177 | 284 => 178 | 285 => 179 | 286 => 180 | 129 => 182 | 317 => 181 | 318 => 183 | 319 => 184 | 320 => 185 | 337 => 186 | 338 => 187 | n => n, fun | 3 => 3 | 9 => 9 | 2 => 2 | 4 => 4 | 171 => 172 | 0 => 0 | 53 => 151 | 37 => 43 | 5 => 5 | 173 => 175 | 212 => 178 | 51 => 138 | 20 => 20 | 213 => 179 | 46 => 142 | 232 => 182 | 233 => 183 | n => n, fun | 17 => 1 | 18 => 2 | 19 => 3 | n => n⟩
theorem Tryz.laysM171 : Go.Proofs.LaysM.n171 Tryz.prog Tryz.laysM171_ren := {
  mixed := by kernel_rfl
  f129 := Tryz.func182.trans (congrArg some (by kernel_rfl))
  f171 := Tryz.func158.trans (congrArg some (by kernel_rfl))
  f243 := Tryz.func172.trans (congrArg some (by kernel_rfl))
  f246 := Tryz.func176.trans (congrArg some (by kernel_rfl))
  f283 := Tryz.func177.trans (congrArg some (by kernel_rfl))
  f284 := Tryz.func178.trans (congrArg some (by kernel_rfl))
  f285 := Tryz.func179.trans (congrArg some (by kernel_rfl))
  f286 := Tryz.func180.trans (congrArg some (by kernel_rfl))
  f317 := Tryz.func181.trans (congrArg some (by kernel_rfl))
  f318 := Tryz.func183.trans (congrArg some (by kernel_rfl))
  f319 := Tryz.func184.trans (congrArg some (by kernel_rfl))
  f320 := Tryz.func185.trans (congrArg some (by kernel_rfl))
  f337 := Tryz.func186.trans (congrArg some (by kernel_rfl))
  f338 := Tryz.func187.trans (congrArg some (by kernel_rfl))
  t0 := Tryz.underlying0
  a0 := Tryz.isAgg0
  z0 := Tryz.sizeOf0
  v0 := Tryz.zeroValue0
  t2 := Tryz.underlying2
  a2 := Tryz.isAgg2
  z2 := Tryz.sizeOf2
  v2 := Tryz.zeroValue2
  t3 := Tryz.underlying3
  a3 := Tryz.isAgg3
  z3 := Tryz.sizeOf3
  v3 := Tryz.zeroValue3
  t4 := Tryz.underlying4
  a4 := Tryz.isAgg4
  z4 := Tryz.sizeOf4
  v4 := Tryz.zeroValue4
  t5 := Tryz.underlying5
  a5 := Tryz.isAgg5
  z5 := Tryz.sizeOf5
  v5 := Tryz.zeroValue5
  t9 := Tryz.underlying9
  a9 := Tryz.isAgg9
  z9 := Tryz.sizeOf9
  v9 := Tryz.zeroValue9
  t20 := Tryz.underlying20
  a20 := Tryz.isAgg20
  z20 := Tryz.sizeOf20
  v20 := Tryz.zeroValue20
  t37 := Tryz.underlying43
  a37 := Tryz.isAgg43
  z37 := Tryz.sizeOf43
  v37 := Tryz.zeroValue43
  t46 := Tryz.underlying142
  a46 := Tryz.isAgg142
  z46 := Tryz.sizeOf142
  v46 := Tryz.zeroValue142
  t51 := Tryz.underlying138
  a51 := Tryz.isAgg138
  z51 := Tryz.sizeOf138
  v51 := Tryz.zeroValue138
  t53 := Tryz.underlying151
  a53 := Tryz.isAgg151
  z53 := Tryz.sizeOf151
  v53 := Tryz.zeroValue151
  t171 := Tryz.underlying172
  a171 := Tryz.isAgg172
  z171 := Tryz.sizeOf172
  v171 := Tryz.zeroValue172
  t173 := Tryz.underlying175
  a173 := Tryz.isAgg175
  z173 := Tryz.sizeOf175
  v173 := Tryz.zeroValue175
  t212 := Tryz.underlying178
  a212 := Tryz.isAgg178
  z212 := Tryz.sizeOf178
  v212 := Tryz.zeroValue178
  t213 := Tryz.underlying179
  a213 := Tryz.isAgg179
  z213 := Tryz.sizeOf179
  t232 := Tryz.underlying182
  a232 := Tryz.isAgg182
  z232 := Tryz.sizeOf182
  v232 := Tryz.zeroValue182
  t233 := Tryz.underlying183
  a233 := Tryz.isAgg183
  z233 := Tryz.sizeOf183
  v233 := Tryz.zeroValue183
  g17 := by kernel_rfl
  g18 := by kernel_rfl
  g19 := by kernel_rfl
  i0 := by kernel_rfl
  i2 := by kernel_rfl
  i3 := by kernel_rfl
  i4 := by kernel_rfl
  i5 := by kernel_rfl
  i9 := by kernel_rfl
  i20 := by kernel_rfl
  i37 := by kernel_rfl
  i46 := by kernel_rfl
  i51 := by kernel_rfl
  i53 := by kernel_rfl
  i171 := by kernel_rfl
  i173 := by kernel_rfl
  i212 := by kernel_rfl
  i232 := by kernel_rfl
  i233 := by kernel_rfl
  m17 := by kernel_rfl
  m18 := by kernel_rfl
  m19 := by kernel_rfl }
open Go.RowKit Go.Sort Go.Lib in
/-- strconv.Itoa: "Itoa is equivalent to FormatInt(int64(i), 10).": i's DECIMAL NUMERAL ('Lib.itoa': a '-' where i is negative, then the digits), FOR EVERY int. The world behind the call: the world before it, new blocks behind the heap (the library's 'var a [24]byte'), draws. (LAID: no walk: one application.) -/
theorem Tryz.strconv_Itoa (n : Int) (h0 : -9223372036854775808 ≤ n) (h1 : n ≤ 9223372036854775807) (w : World) (htab : Lib.TabIs Tryz.prog w "internal/strconv.uint64pow10" .u64 Lib.pow10Tab) :
    Calls Tryz.prog 158 #[.int .i64 n] w fun e w' => e = .returned (.string ⟨(Lib.itoa n).toArray⟩) ∧ ∃ k os, w' = grow (w.drewN k) os := Any.strconv_Itoa Tryz.laysM171 n h0 h1 w htab
end Go.Proofs
