/- Texts of a proof, joined by a program (merge.py): TfLofL TfLefE. -/
import Derived.Test.YtpnhfpjpmjdgmaaGreatDoorV12
set_option linter.all false
/- TfLofL -/
namespace Go.TL.Tryz
open Go Go.TL Go.Proofs
set_option maxRecDepth 20000
variable {P : Program}
theorem bigN_sm {z : Zon} (h : smZone z) : BigN z.rs := by
  intro i r hr
  have := (h.2.2 i r hr).1.1
  omega
theorem cls_ne {sz : Nat} (e : cls sz false = .d) {p : Prop} (h : cls sz false = .s) : p := by rw [e] at h; cases h
/-- What a law makes of a house, pinned. -/
theorem ptoHouse (hP : Prg P) {v : Hou} {e1 e2 e3 e4 e5 : List (List T)} (he1 : encN v.z.o = e1) (he2 : encR v.z.rs = e2) (he3 : encN v.rv.o = e3) (he4 : encR v.rv.rs = e4) (he5 : encL v.ls = e5) (hs : smHouse v) : ACall P 7 [.agg [.t (.int .i64 v.now), .t (.sl e1), .t (.sl e2), .t (.sl e3), .t (.sl e4), .t (.sl e5)]] []
    (fun r ob => r = .agg [.t (.int .i64 v.now), .row 32 0, .row 33 0, .row 34 0, .row 35 0, .row 36 0] ∧ ob = [(32, .row 2000001 e1 0 [0] false), (33, .row 2000007 e2 0 [0] false), (34, .row 2000001 e3 0 [0] false), (35, .row 2000007 e4 0 [0] false), (36, .row 2000005 e5 0 [0] false)]) := by
  refine ((otoHouse hP he1 he2 he3 he4 he5 hs).pin ?_).mono ?_
  · rintro r ob ⟨rfl, rfl⟩
    exact ⟨⟨cls_ne rfl, cls_ne rfl, cls_ne rfl, cls_ne rfl, cls_ne rfl, trivial⟩, rfl⟩
  · rintro r ob ⟨ob', ⟨rfl, rfl⟩, rfl⟩
    exact ⟨rfl, rfl⟩
set_option maxHeartbeats 40000000 in
set_option maxRecDepth 3000 in
theorem pLeaseOf (hP : Prg P) {h : Hou} {d1 d2 d3 d4 d5 : List (List T)} (hd1 : encN h.z.o = d1) (hd2 : encR h.z.rs = d2) (hd3 : encN h.rv.o = d3) (hd4 : encR h.rv.rs = d4) (hd5 : encL h.ls = d5) (hb1 : BigN h.z.rs) (hb2 : BigN h.rv.rs) {ip : Int} {w : Lea} {b : Bool} {u1 u2 : List (List T)} (hw : LeaR h ip w b u1 u2) :
    ACall P 11 [.agg [.t (.int .i64 h.now), .t (.sl d1), .t (.sl d2), .t (.sl d3), .t (.sl d4), .t (.sl d5)], .one (.t (.int .i64 ip))] []
    (fun r ob => r = .tup [.agg [.t (.int .i64 w.ip), .row 32 0, .row 33 0, .t (.int .i64 w.til), .t (.bool w.won)], .one (.t (.bool b))] ∧ ob = [(32, .row 2000001 u1 0 [0] false), (33, .row 2000001 u2 0 [0] false)]) := by
  have hf1 : std.flat u1 := (side_flat rfl hw.cl).1
  have hf2 : std.flat u2 := (side_flat rfl hw.ho).1
  have e : ∀ r ob, (∃ x b e1 e2, LeaR h ip x b e1 e2 ∧ r = A.tup [.agg [.t (.int .i64 x.ip), .row 32 0, .row 33 0, .t (.int .i64 x.til), .t (.bool x.won)], .one (.t (.bool b))] ∧ ob = [(32, Ob.row 1 e1 0 [0] false), (33, .row 1 e2 0 [0] false)]) →
      r = .tup [.agg [.t (.int .i64 w.ip), .row 32 0, .row 33 0, .t (.int .i64 w.til), .t (.bool w.won)], .one (.t (.bool b))] ∧ ob = [(32, .row 1 u1 0 [0] false), (33, .row 1 u2 0 [0] false)] := by
    rintro r ob ⟨x, b', e1, e2, hx, rfl, rfl⟩
    have h1 := hx.eq.symm.trans hw.eq
    injection h1 with h1 h2
    subst h1; subst h2
    rw [show e1 = u1 from hx.cl.symm.trans hw.cl, show e2 = u2 from hx.ho.symm.trans hw.ho]
    exact ⟨rfl, rfl⟩
  refine (((iLeaseOf hP hd1 hd2 hd3 hd4 hd5 hb1 hb2).mono e).pin ?_).mono ?_
  · rintro r ob ⟨rfl, rfl⟩
    exact ⟨⟨fun _ => hf1, fun _ => hf2, trivial⟩, rfl⟩
  · rintro r ob ⟨ob', ⟨rfl, rfl⟩, rfl⟩
    exact ⟨rfl, rfl⟩
theorem leaR_sm {h : Hou} {ip : Int} {w : Lea} {b : Bool} {u1 u2 : List (List T)} (hw : LeaR h ip w b u1 u2) (hs : smHouse h) : smLease w := by
  have e := hw.eq
  unfold leaseR at e
  split at e
  · rename_i x hx
    injection e with e _
    subst e
    cases hho : houseOk h with
    | false => rw [hho] at hx; cases hx
    | true =>
      rw [hho] at hx
      obtain ⟨i, hi⟩ := List.mem_iff_getElem?.1 (List.mem_of_find?_eq_some (show h.ls.find? _ = some x from hx))
      exact hs.2.2.2 i x hi
  · injection e with e _
    subst e
    exact ⟨Nat.zero_le _, Nat.zero_le _⟩
/-- x and g are lent, but for what sets marks. -/
def mdLL (n : Nat) : Md := bif eqB n 7 then ⟨[], false⟩ else bif eqB n 10 then ⟨[], false⟩ else bif eqB n 13 then ⟨[some [(1000000, 0)]], false⟩ else bif eqB n 14 then ⟨[some [(1000000, 0)]], false⟩ else ⟨[], true⟩
set_option maxRecDepth 20000 in
theorem fn4 : Tryz.prog.funcs[4]? = some Tryz.f4 := rfl
set_option maxHeartbeats 40000000 in
set_option maxRecDepth 3000 in
theorem lLeaseOf (hP : Prg P) {h : Hou} {d1 d2 d3 d4 d5 : List (List T)} (hd1 : encN h.z.o = d1) (hd2 : encR h.z.rs = d2) (hd3 : encN h.rv.o = d3) (hd4 : encR h.rv.rs = d4) (hd5 : encL h.ls = d5) {ip : Int} :
    ACall P 4 [.agg [.t (.int .i64 h.now), .t (.sl d1), .t (.sl d2), .t (.sl d3), .t (.sl d4), .t (.sl d5)], .one (.t (.int .i64 ip))] [] (fun r ob => r = .one (.t (.bool true)) ∧ ob = []) := by
  generalize hK : (fun (r : A) (ob : Obs) => r = A.one (V.t (.bool true)) ∧ ob = []) = K
  refine acall_fn (md := mdLL) [none] v4 hP.mixed hP.tab (fn_at hP fn4) 2 rfl (by decide +kernel) rfl ?_
  intro ar har
  cbv
  repeat' (first | (refine br_intro ?_ ?_ <;> intro <;> cbv) | (refine call_intro (szHouse hP (by assumption) (by assumption) (by assumption) (by assumption) (by assumption) (by omega) (by omega)) ?_; rintro r ob ⟨v, hv1, hv2, hv, rfl, rfl⟩; cbv))
  case refine_1 => subst hK; exact ⟨⟨rfl, rfl⟩⟩
  have hs := hv (ge_cmp har (by assumption))
  have hb1 := bigN_sm hs.1
  have hb2 := bigN_sm hs.2.1
  refine call_intro (toHouse hP hd1 hd2 hd3 hd4 hd5 hs) ?_; rintro r ob ⟨rfl, rfl⟩
  cbv
  repeat' (first | (refine call_intro (sLeaseOf hP (by assumption) (by assumption) (by assumption) (by assumption) (by assumption) (by assumption) (by assumption) (by assumption)) ?_; rintro r ob ⟨w, b, u1, u2, hw, rfl, rfl⟩; cbv))
  refine call_intro (ptoHouse hP hd1 hd2 hd3 hd4 hd5 hs) ?_; rintro r ob ⟨rfl, rfl⟩
  cbv
  repeat' (first | (intro; cbv) | (with_reducible refine and_side ?_ ?_; rotate_left; try cbv) | (refine ChkP.mk (by decide +kernel) ?_; cbv) | (refine br_intro ?_ ?_ <;> intro <;> cbv) | (refine side_sh har ?_; decide))
  refine call_intro (pLeaseOf hP hd1 hd2 hd3 hd4 hd5 hb1 hb2 hw) ?_; rintro r ob ⟨rfl, rfl⟩
  cbv
  have hw1 := hw.cl
  have hw2 := hw.ho
  have hsw := leaR_sm hw hs
  repeat' (first | (intro; cbv) | (refine ChkP.mk (by decide +kernel) ?_; cbv) | (refine br_intro ?_ ?_ <;> intro <;> cbv) | (refine call_intro (eqLease hP (by assumption) (by assumption)) ?_; rintro r ob ⟨rfl, rfl⟩; cbv) | (refine calld_intro (toHouse hP (by assumption) (by assumption) (by assumption) (by assumption) (by assumption) (by first | assumption | exact hs.2 _ _ (by assumption))) ?_; cbv) | (refine calld_intro (eqHouse hP (by assumption) (by assumption) (by assumption) (by assumption) (by assumption)) ?_; cbv))
  case refine_2.refine_1 => exfalso; subst har; simp_all [std]; done
  case refine_2.refine_2.refine_1 => exfalso; subst har; simp_all [std]; done
  case refine_2.refine_2.refine_2.refine_1 => exfalso; subst har; simp_all [std]; done
  refine call_intro (markHouse hP hd1 hd2 hd3 hd4 hd5 (k := 1) (by decide) (upHouse hs)) ?_
  rintro r ob ⟨kk, g1, g2, g3, g4, g5, hk0, -, -, -, -, -, -, rfl, rfl⟩
  cbv
  repeat' (first | (refine br_intro ?_ ?_ <;> intro <;> cbv) | (refine call_intro (eqLease hP (by assumption) (by assumption)) ?_; rintro r ob ⟨rfl, rfl⟩; cbv))
  case refine_2.refine_2.refine_2.refine_2.refine_1 => have h0 := lt_cmp har (by assumption : ar.icmp .lss kk 0 = true); omega
  case refine_2.refine_2.refine_2.refine_2.refine_2.refine_1 => exfalso; subst har; simp_all [std]; done
  case refine_2.refine_2.refine_2.refine_2.refine_2.refine_2.refine_1 => exfalso; subst har; simp_all [std]; done
  refine call_intro (markLease hP hw1 hw2 (k := 1) (by decide) (upLease hsw)) ?_
  rintro r ob ⟨mm, m1, m2, hm0, hmm, hm1, hm2, rfl, rfl⟩
  cbv
  repeat' (first | (intro; cbv) | (with_reducible refine and_side ?_ ?_; rotate_left; try cbv) | (refine ChkP.mk (by decide +kernel) ?_; cbv) | (refine br_intro ?_ ?_ <;> intro <;> cbv) | (refine side_sh har ?_; decide))
  refine call_intro (heldLease hP (v := w) (k := 1) hm1 hm2 (by decide) (upLease hsw)) ?_
  rintro r ob ⟨qq, hq0, hqq, rfl, rfl⟩
  have hqm : qq = mm := by omega
  subst hqm
  cbv
  repeat' (first | (refine br_intro ?_ ?_ <;> intro <;> cbv))
  · have h0 := lt_cmp har (by assumption : ar.icmp .lss qq 0 = true)
    omega
  · exact absurd rfl (neq_t har (by assumption : ar.icmp .neq qq qq = true))
  refine call_intro (toHouse hP hd1 hd2 hd3 hd4 hd5 hs) ?_; rintro r ob ⟨rfl, rfl⟩
  cbv
  repeat' (first | (intro; cbv) | (with_reducible refine and_side ?_ ?_; rotate_left; try cbv) | (refine ChkP.mk (by decide +kernel) ?_; cbv) | (refine br_intro ?_ ?_ <;> intro <;> cbv) | (refine side_sh har ?_; decide))
  refine call_intro (pLeaseOf hP hd1 hd2 hd3 hd4 hd5 hb1 hb2 hw) ?_; rintro r ob ⟨rfl, rfl⟩
  cbv
  repeat' (first | (refine br_intro ?_ ?_ <;> intro <;> cbv) | (refine call_intro (eqLease hP (by assumption) (by assumption)) ?_; rintro r ob ⟨rfl, rfl⟩; cbv))
  · exfalso; subst har; simp_all [std]; done
  · exfalso; subst har; simp_all [std]; done
  refine call_intro (heldLease hP (v := w) (k := 1) hm1 hm2 (by decide) (upLease hsw)) ?_
  rintro r ob ⟨qq2, hq02, hqq2, rfl, rfl⟩
  have hqm : qq2 = qq := by omega
  subst hqm
  cbv
  repeat' (first | (refine br_intro ?_ ?_ <;> intro <;> cbv))
  · have h0 := lt_cmp har (by assumption : ar.icmp .lss qq2 0 = true)
    omega
  · exact absurd rfl (neq_t har (by assumption : ar.icmp .neq qq2 qq2 = true))
  subst hK
  exact ⟨⟨rfl, rfl⟩⟩
end Go.TL.Tryz

/- TfLefE -/
namespace Go.Proofs.YtpnhfpjpmjdgmaaGreatDoor.fnExactLeaseOf
open Go Go.TL Go.TL.Tryz Go.Proofs Go.ChangeShapes Go.WideShapes Go.ChangeAt Go.RowKit

theorem own : ownKnob Tryz.prog.godebug = none := by kernel_rfl
theorem laidOut : laidOutB Tryz.prog = true := by kernel_rfl
theorem readable0 : Tryz.prog.readableRec 30 = true := by kernel_rfl
theorem rowLt0 : 30 < Tryz.prog.types.size := by decide +kernel
theorem readable1 : Tryz.prog.readableRec 3 = true := by kernel_rfl
theorem rowLt1 : 3 < Tryz.prog.types.size := by decide +kernel
theorem gTab : Tryz.prog.globalNamed "internal/strconv.uint64pow10" = some 1 := by kernel_rfl
theorem gTabType : (Tryz.prog.globals[1]?).map (·.type) = some 178 := by kernel_rfl
theorem cellsTab : Tryz.prog.cellsOf 178 = 20 := by kernel_rfl
theorem cellsElt : Tryz.prog.cellsOf 151 = 1 := by kernel_rfl
theorem tableData : Rows.laid_internal_strconv_uint64pow10 (H := Unit) = Lib.tabData .u64 pow10L := by kernel_rfl
theorem laidIs : laidMetH Tryz.prog Rows.fnExactLeaseOfRow.laid = laidMet Tryz.prog Rows.fnExactLeaseOfRow.laid := by kernel_rfl
/-- What the row's list gives: the table that texts of numbers read. -/
theorem table {W : World} (h : laidMetH Tryz.prog Rows.fnExactLeaseOfRow.laid W) : Lib.TabIs Tryz.prog W "internal/strconv.uint64pow10" .u64 pow10L := by
  rw [laidIs] at h
  have h3 := laidMet_tail (laidMet_tail h)
  rw [tableData] at h3
  exact Lib.tabIs_of_head gTab gTabType Tryz.underlying178 Tryz.underlying151 cellsElt cellsTab h3
theorem tabOk : TabOk Tryz.prog tf := tabOk_of (by decide +kernel)
theorem prg : Prg Tryz.prog := ⟨rfl, Go.Checked.mixed Tryz.checked, tabOk⟩
theorem params_ok : ∀ t ∈ Tryz.f4.params.toList, Tryz.prog.readableRec t = true ∧ t < Tryz.prog.types.size := by
  intro t ht
  rw [Tryz.params4] at ht
  have ht : t = 30 ∨ t = 3 := by simpa using ht
  rcases ht with rfl | rfl
  · exact ⟨readable0, rowLt0⟩
  · exact ⟨readable1, rowLt1⟩
set_option maxRecDepth 100000 in
theorem contract (H : Type) (enc : TypeId × Value → H) (W : World) (base : Nat) (args : Array Value) (ds gs : List (DataW H)) (before : List MemPlace)
    (hval : ∀ (j : Nat) t v, Tryz.f4.params[j]? = some t → args[j]? = some v → Value.okWide Tryz.prog W .any base t v)
    (hW : DataW.Whole enc Tryz.prog Tryz.f4.params.toList Rows.fnExactLeaseOfSpec.vars false W args.toList ds gs before) (hL : laidMetH Tryz.prog Rows.fnExactLeaseOfRow.laid W) :
    Calls Tryz.prog 4 args W fun e W' => ∃ v, e = .returned v ∧ Rows.fnExactLeaseOfSpec.post enc Tryz.prog Tryz.f4 false true false false W args v W' := by
  refine law_args Tryz.func4 rfl (by decide) rfl laidOut params_ok gTab rfl (fun ds h => ?_) (fun p hA => ?_) hW (table hL)
  · have h : ds.length = 2 := h
    match ds, h with
    | [d0, d1], _ => rfl
  replace hA : DataW.TrodAll enc Tryz.prog W 0 (fun _ => true) true [30, 3] args.toList ds p := hA
  obtain ⟨v0, vs0, d0, ds0, p0, q0, hargs0, rfl, rfl, h0, r0⟩ := trodAll_cons hA
  obtain ⟨v1, vs1, d1, ds1, p1, q1, hargs1, rfl, rfl, h1, r1⟩ := trodAll_cons r0
  obtain ⟨hnil, _, _⟩ := trodAll_nil r1
  have hall : args.toList = [v0, v1] := by rw [hargs0, hargs1, hnil]
  have hat : ∀ i v, [v0, v1][i]? = some v → args[i]? = some v := fun i v h => by rw [← hall, Array.getElem?_toList] at h; exact h
  obtain ⟨a0, ha0⟩ := arg_struct Tryz.underlying30 open_House h0 (by obtain ⟨cs, e, _⟩ := okWide_struct Tryz.underlying30 (hval 0 _ v0 rfl (hat 0 v0 rfl)); exact ⟨cs, e⟩)
  obtain ⟨a1, ha1⟩ := arg_one open_int h1 (by obtain ⟨_, rfl⟩ := okWide_int Tryz.underlying3 (hval 1 _ v1 rfl (hat 1 v1 rfl)); rfl)
  refine ⟨[.agg ((cellsHou a0).map .t), .one (.t (.int .i64 a1))], by rw [hall]; rfl, fun i v x hv hx => ?_, lLeaseOf prg rfl rfl rfl rfl rfl⟩
  rw [hall] at hv
  match i, hv, hx with
  | 0, hv, hx => obtain rfl := Option.some.inj hv; obtain rfl := Option.some.inj hx; exact ha0
  | 1, hv, hx => obtain rfl := Option.some.inj hv; obtain rfl := Option.some.inj hx; exact ha1
/-- The cells of a datum. -/
def cell1 : DataW Unit → List Value
  | .lit (.int k z) => [.int k z]
  | _ => []
def cell2 : DataW Unit → List Value
  | .lit (.int k z) => [.int k z]
  | .agg ps => ps.flatMap cell1
  | _ => []
def cell3 : DataW Unit → List Value
  | .agg ps => ps.flatMap cell2
  | _ => []
def lay (g : Nat) (d : DataW Unit) (h : Array Obj) : Array Obj := h.modify g fun
  | .cells _ t frozen => .cells (cell3 d).toArray t frozen
  | o => o
noncomputable def laidHeap (h : Array Obj) : Array Obj :=
  lay 2 Rows.laid_math_bits_deBruijn32tab (lay 3 Rows.laid_math_bits_deBruijn64tab (lay 1 Rows.laid_internal_strconv_uint64pow10 h))
/-- A world for the witness: the listed variables hold what the list says. -/
noncomputable def laidWorld (os : Os) : World := { World.holding Tryz.prog os ⟨#[], #[], []⟩ with heap := laidHeap (World.holding Tryz.prog os ⟨#[], #[], []⟩).heap }
set_option maxRecDepth 100000 in
theorem laid_met (os : Os) : laidMet Tryz.prog Rows.fnExactLeaseOfRow.laid ((laidWorld os).forCall (fun _ _ => 0) ⟨#[], #[(.agg #[.int .i64 0, .slice none 0 0, .slice none 0 0, .slice none 0 0, .slice none 0 0, .slice none 0 0]), (.int .i64 0)], []⟩).memory :=
  laidMet_of_run' 8 (by kernel_rfl) (by kernel_rfl)
set_option maxRecDepth 100000 in
theorem reads (os : Os) {H : Type} (enc : TypeId × Value → H) : ∃ places, DataW.whole enc Tryz.prog ((laidWorld os).forCall (fun _ _ => 0) ⟨#[], #[(.agg #[.int .i64 0, .slice none 0 0, .slice none 0 0, .slice none 0 0, .slice none 0 0, .slice none 0 0]), (.int .i64 0)], []⟩).memory Tryz.f4.params.toList Rows.fnExactLeaseOfSpec.vars false (#[(.agg #[.int .i64 0, .slice none 0 0, .slice none 0 0, .slice none 0 0, .slice none 0 0, .slice none 0 0]), (.int .i64 0)] : Array Value).toList 8 = some ([.agg [.lit (.int .i64 0), .agg [.agg [.nil], .nil], .agg [.agg [.nil], .nil], .nil], .lit (.int .i64 0)], [], places) :=
  ⟨[], by kernel_rfl⟩
set_option maxRecDepth 100000 in
theorem lifted (os : Os) (started : os.Started) (H : Type) (enc : TypeId × Value → H) (F : Stop.Interp) :
    ReturnsInHanded {} Tryz.checked os 4 .any ((OpenSpec.ofChange Rows.fnExactLeaseOfSpec).preRow enc Tryz.prog Tryz.f4 Rows.fnExactLeaseOfRow.domain false Rows.fnExactLeaseOfRow.laid) (((OpenSpec.ofChange Rows.fnExactLeaseOfSpec).at F).post enc Tryz.prog Tryz.f4 false true false false) := by
  obtain ⟨places, hx⟩ := reads os enc
  refine returnsInHanded_of_row (C := Tryz.checked) (s := OpenSpec.ofChange Rows.fnExactLeaseOfSpec) own started (by kernel_rfl) Tryz.func4
    (witness_row_at (enc := enc) (C := Tryz.checked) false (laidWorld os) #[(.agg #[.int .i64 0, .slice none 0 0, .slice none 0 0, .slice none 0 0, .slice none 0 0, .slice none 0 0]), (.int .i64 0)] rfl (by kernel_rfl) (by kernel_rfl) (by kernel_rfl)
      (OpenSpec.preRow_of_cond 8 hx (by kernel_rfl) (fun k hk => by cases hk) (by kernel_rfl) (laid_met os))) ?_
  intro W base args ds gs before hval hW _ _ _ hL _ _
  exact contract H enc W base args ds gs before hval hW hL
end Go.Proofs.YtpnhfpjpmjdgmaaGreatDoor.fnExactLeaseOf
