/- Texts of a proof, joined by a program (merge.py): TlX TlY TlZ TlAA TlAB TlAC TlAD TlAE. -/
import Derived.Test.YtpnhfpjpmjdgmaaGreatDoorV04
import Derived.LoopN
import Derived.Orders
set_option linter.all false
/- TlX -/
namespace Go.TL
open Go

variable {P : Program} {E : Env P} {ok : Nat → Prop} {hd : HF} {tm : Nat → Option A} {ob : OF} {w : World} {a : Act} {K : A → Obs → Prop} {o : Oper} {tab : TF} {tmps : Array Value}

theorem goto_call {f g0 : Nat} {ns : List Nat} {vs : List Value} {args : List A} {okC : Nat → Prop} {hdC : HF} {obB obC : OF} {Kb : A → Obs → Prop} (hG : Gl P w okC) (RC : ORel okC hdC obC w) (hs : ∀ n, n ∈ ns → obC n = obB n) (hnd : ns.Nodup) (ha : AL w okC hdC obC vs args)
    (h : CallP (ACall P) f (A.ren.go (numFrom 0 ns) (gAll g0) obB args) (renO (numFrom 0 ns) (gAll g0) obB (numFrom 0 ns)) Kb) :
    Goto P f vs.toArray w fun v w' => ∃ ok' hd' r ob', Kb r ob' ∧ Ret okC (hdR (numFrom 0 ns) hdC) (obR (numFrom 0 ns) (gAll g0) obC) w ok' hd' (look ob') w' ∧ AR w' ok' hd' (look ob') v r := by
  have hρ := ren_numFrom hnd 0
  have hin : ∀ o o', (o, o') ∈ numFrom 0 ns → obB o = obC o := fun o o' hm => (hs o (numFrom_mem hm).1).symm
  have hc : ∀ o o', look (numFrom 0 ns) o = some o' → obB o = obC o := fun o o' hm => hin o o' (look_mem hm)
  obtain ⟨h⟩ := h
  rw [goRen_congr hc, renO_congr hc _ hin] at h
  have := h w okC (hdR (numFrom 0 ns) hdC) vs hG (by rw [look_renO hρ]; exact RC.ren hρ (gAll g0)) (by rw [goRen_len]; exact ha.len) (fun i v x p q => by
    rw [goRen_get] at q
    rw [look_renO hρ]
    cases hx : args[i]? with
    | none => rw [hx] at q; cases q
    | some y => rw [hx] at q; injection q with q; subst q; exact (ha.rel i v y p hx).ren hρ (gAll g0))
  rw [look_renO hρ] at this
  exact this

theorem ret_sub {g0 : Nat} {ns : List Nat} {hdB hdC : HF} {obB obC : OF} (hnd : ns.Nodup) (hs : ∀ n, n ∈ ns → obC n = obB n ∧ hdC n = hdB n) {b : Nat}
    (h : ∃ n, obR (numFrom 0 ns) (gAll g0) obC n ≠ none ∧ b ∈ (hdR (numFrom 0 ns) hdC n).own) : ∃ n, n ∈ ns ∧ obB n ≠ none ∧ b ∈ (hdB n).own := by
  have hρ := ren_numFrom hnd 0
  obtain ⟨k, h1, h2⟩ := h
  cases hx : obR (numFrom 0 ns) (gAll g0) obC k with
  | none => exact absurd hx h1
  | some x =>
    obtain ⟨n, y, hm, hy, _⟩ := obR_some hρ hx
    rw [hdR_of hρ hm] at h2
    have hn := (numFrom_mem hm).1
    exact ⟨n, hn, by rw [← (hs n hn).1, hy]; simp, by rw [← (hs n hn).2]; exact h2⟩
theorem ret_block {g0 : Nat} {ns : List Nat} {hdB hdC : HF} {obB obC : OF} (hnd : ns.Nodup) (hs : ∀ n, n ∈ ns → obC n = obB n ∧ hdC n = hdB n) {b : Nat}
    (h : ∀ n, n ∈ ns → obB n ≠ none → b ∉ (hdB n).own) : ∀ n, obR (numFrom 0 ns) (gAll g0) obC n ≠ none → b ∉ (hdR (numFrom 0 ns) hdC n).own := by
  intro n hn hb
  obtain ⟨m, h1, h2, h3⟩ := ret_sub hnd hs ⟨n, hn, hb⟩
  exact h m h1 h2 h3

theorem op_sCall {md : MF} {d f : Nat} {vs : List Value} {as : List A} (hrun : (execOp a.eval o).run P w = (callFunc f vs.toArray).run P w) (R : Rel E ok hd tm ob a.tmps w) (ha : AL w ok hd ob vs as)
    (h : (sCall std md ob d f as).holds std (ACall P) K) : Goes P E tm ob a.tmps K o a w := by
  unfold sCall at h
  split at h
  rotate_left
  · exact h.elim
  rename_i p hp
  obtain ⟨hc, h⟩ := bif_inv h
  obtain ⟨_, hc⟩ := bif_and hc
  obtain ⟨hc, hc3⟩ := bif_and hc
  obtain ⟨hc1, hc2⟩ := bif_and hc
  have hvn : (p.vo.map (·.1)).Nodup := by rw [nodupB_iff, keys_map] at hc1; exact hc1
  have hvf : ∀ n, n ∈ p.vo.map (·.1) → ob n = none := by
    intro n hn; rw [← keys_map] at hn; exact freshB_mem hc2 n hn
  have hV : Virt p.vo := (pre_rel (FR := p.fr) R.toORel (Le.refl _ _) _ _ _ _ hp (fun _ h => h)).1
  -- the state in which the arguments are what they are handed in as
  have RF := R.freeze p.fr
  have hvf2 : ∀ n, n ∈ p.vo.map (·.1) → frzO ob p.fr n = none := by
    intro n hn
    unfold frzO
    split
    · rw [hvf n hn]; rfl
    · exact hvf n hn
  obtain ⟨hdC, RC, leC, hC1, hC2⟩ := RF.virt hV hc3 hvn hvf2
  obtain ⟨hal, har⟩ := (pre_rel R.toORel leC _ _ _ _ hp (fun _ h => h)).2 vs ha.rel hC2
  have hA : AL w (frzK ok hd ob p.fr) hdC (updO (frzO ob p.fr) p.vo) vs p.args := ⟨by rw [hal]; exact ha.len, har⟩
  unfold sCall.callW sCall.callN at h
  obtain ⟨hc, h⟩ := bif_inv h
  obtain ⟨hc, hcT⟩ := bif_and hc
  obtain ⟨hcD, hcN⟩ := bif_and hc
  have hnd := nodupB_iff.1 hcN
  cases hb : (md f).bor with
  | false =>
    rw [hb] at h hcD hcT hcN hnd
    simp only [cond_false] at h hcD hcT hcN hnd
    rw [updO_virt_frz hvf hvn] at h hcT hcN hnd
    intro next Q hn
    unfold Oper.wp
    rw [hrun]
    refine goto_call (obB := updO (frzO ob p.fr) p.vo) RC.gl RC.toORel (fun _ _ => rfl) hnd hA h o a next Q ?_
    rintro v w' ⟨ok', hd', r, ob', hk, ret, hr⟩
    unfold sCall.back sCall.backR at hk
    obtain ⟨hc, hk⟩ := bif_inv hk
    obtain ⟨_, hc⟩ := bif_and hc
    obtain ⟨hk1, hk2⟩ := bif_and hc
    rw [hb] at hk
    simp only [cond_false] at hk
    rw [updO_virt_frz hvf hvn] at hk hk2
    have B := backOk (T := nm d 31) (obC := updO (frzO ob p.fr) p.vo) (hdC := hdC) (hdB := hdC) (by unfold nm; omega) hk1 hnd hk2 hcT (fun _ _ => ⟨rfl, rfl⟩) ret.kp
    have R2 := RC.back B (ret.rel.ren B.ren _) ret.okUp (fun b hb => (ret.okSub b hb).imp_right fun h => h.imp_right fun h => ret_sub hnd (fun _ _ => ⟨rfl, rfl⟩) h) ret.os ret.tape ret.output ret.size
      (fun b hb hx => ret.block b hb (ret_block hnd (fun _ _ => ⟨rfl, rfl⟩) hx)) (fun k b hk hb => (ret.ownSub k b hk hb).imp_right fun h => ret_sub hnd (fun _ _ => ⟨rfl, rfl⟩) h)
    have hob : ∀ ρ T, Ren ρ → updO ob (p.vo ++ frz ob p.fr ++ oldTags (updO (frzO ob p.fr) p.vo) (renO ρ T (look ob') ρ)) = obN ρ T (updO (frzO ob p.fr) p.vo) (look ob') := by
      intro ρ T h
      rw [updO_append, updO_virt_frz hvf hvn, updO_back h]
    refine hn _ _ ok' _ v w' hk (by rw [hob _ _ B.ren]; exact R2) ?_
    rw [hob _ _ B.ren]
    exact (hr.ren B.ren _).mono (fun _ h => h) (fun _ _ => rfl) le_obN
  | true =>
    rw [hb] at h hcD hcT hcN hnd
    simp only [cond_true, List.append_nil] at h hcD hcT hcN hnd
    obtain ⟨hdB, RB, leB, hB1, hB2⟩ := R.virt hV hc3 hvn hvf
    have hs : ∀ n, n ∈ reach (updO ob p.vo) 2 (nub p.own []) → updO (frzO ob p.fr) p.vo n = updO ob p.vo n ∧ hdC n = hdB n := by
      intro n hn
      have hnf : n ∉ p.fr := fun q => disjB_mem hcD n q hn
      by_cases hm : n ∈ p.vo.map (·.1)
      · obtain ⟨⟨m, x⟩, hx, e⟩ := List.mem_map.1 hm
        simp only at e; subst e
        obtain ⟨c1, c2⟩ := hC2 m x hx
        obtain ⟨b1, b2⟩ := hB2 m x hx
        exact ⟨by rw [c2, b2], by rw [c1, b1]⟩
      · obtain ⟨c1, c2⟩ := hC1 n hm
        obtain ⟨b1, b2⟩ := hB1 n hm
        exact ⟨by rw [c2, b2]; simp [frzO, hnf], by rw [c1, b1]; simp [frzH, hnf]⟩
    intro next Q hn
    unfold Oper.wp
    rw [hrun]
    refine goto_call (obB := updO ob p.vo) RC.gl RC.toORel (fun n hn => (hs n hn).1) hnd hA h o a next Q ?_
    rintro v w' ⟨ok', hd', r, ob', hk, ret, hr⟩
    unfold sCall.back sCall.backR at hk
    obtain ⟨hc, hk⟩ := bif_inv hk
    obtain ⟨_, hc⟩ := bif_and hc
    obtain ⟨hk1, hk2⟩ := bif_and hc
    rw [hb] at hk
    simp only [cond_true] at hk
    obtain ⟨hfl, hk⟩ := flatO_inv hk
    obtain ⟨hfa, hk⟩ := bif_inv hk
    have B := backOk (T := nm d 31) (obC := updO (frzO ob p.fr) p.vo) (hdC := hdC) (hdB := hdB) (by unfold nm; omega) hk1 hnd hk2 hcT hs ret.kp
    have R1 := ret.rel.ren B.ren (gB (updO ob p.vo) (reach (updO ob p.vo) 2 (nub p.own [])) (nm d 31))
    have hlt : ∀ b, ok b → b < w'.heap.size := fun b hb => Nat.lt_of_lt_of_le (R.okLt b hb) ret.size
    have hown : ∀ k b, look ob' k ≠ none → b ∈ (hd' k).own → w.heap.size ≤ b ∨ ∃ n, n ∈ reach (updO ob p.vo) 2 (nub p.own []) ∧ updO ob p.vo n ≠ none ∧ b ∈ (hdB n).own :=
      fun k b hk hb => (ret.ownSub k b hk hb).imp_right fun h => ret_sub hnd hs h
    have R1' := R1.flat (okN := ok) (fun n x hx => by
      rw [← look_renO B.ren] at hx
      exact hfl n x (look_mem hx)) hlt (fun n b hnn hbb hok => by
      cases hx : obR (numTo 0 (reach (updO ob p.vo) 2 (nub p.own [])) ++ numFrom (nm d 0) (above (reach (updO ob p.vo) 2 (nub p.own [])).length (keys ob'))) (gB (updO ob p.vo) (reach (updO ob p.vo) 2 (nub p.own [])) (nm d 31)) (look ob') n with
      | none => exact hnn hx
      | some x =>
        obtain ⟨k, y, hm, hy, _⟩ := obR_some B.ren hx
        rw [hdR_of B.ren hm] at hbb
        rcases hown k b (by rw [hy]; simp) hbb with h | ⟨m, h1, h2, h3⟩
        · have := R.okLt b hok; omega
        · exact (RB.own m b h2 h3).1 hok)
    have R2 := RB.back B R1' (fun _ h => h) (fun b hb => .inl hb) ret.os ret.tape ret.output ret.size
      (fun b hb hx => ret.block b hb (ret_block hnd hs hx)) hown
    have hob : ∀ ρ T, Ren ρ → updO ob (p.vo ++ oldTags (updO ob p.vo) (renO ρ T (look ob') ρ)) = obN ρ T (updO ob p.vo) (look ob') := by
      intro ρ T h
      rw [updO_append, updO_back h]
    refine hn _ _ ok _ v w' hk (by rw [hob _ _ B.ren]; exact R2) ?_
    rw [hob _ _ B.ren]
    exact (((hr.ren B.ren _).flat hfa).mono (fun _ h => h) (fun _ _ => rfl) le_obN)

theorem flat1_rel {ok' : Nat → Prop} {hd' : HF} {ob' : OF} {w' : World} : ∀ {r : List A} {vs : List Value}, flat1 r = true → AL w ok hd ob vs r → ∀ (i : Nat) v x, vs[i]? = some v → r[i]? = some x → AR w' ok' hd' ob' v x
  | [], vs, _, _, i, v, x, _, h => by simp at h
  | y :: r, vs, hf, ha, i, v, x, p, q => by
    have hy : ∃ c, y = .one (.t c) ∧ flatT c = true ∧ flat1 r = true := by
      cases y with
      | one v => cases v with
        | t c => simp only [flat1, Bool.and_eq_true] at hf; exact ⟨c, rfl, hf.1, hf.2⟩
        | _ => cases hf
      | _ => cases hf
    obtain ⟨c, rfl, h1, h2⟩ := hy
    cases i with
    | zero =>
      simp at q; subst q
      have hr : Rep w ok v c := (ha.rel 0 v _ p rfl).one_inv
      exact .one _ _ (Rep.flat hr h1)
    | succ i =>
      cases vs with
      | nil => simp at p
      | cons u us =>
        have ha' : AL w ok hd ob us r := ⟨by have := ha.len; simpa using this, fun k v x p q => ha.rel (k + 1) v x (by simpa using p) (by simpa using q)⟩
        exact flat1_rel h2 ha' i v x (by simpa using p) (by simpa using q)
/-- What reads as an owned slice, as an own row that never grows. -/
theorem Dp.rowP {S : Nat → Prop} {v : Value} {l : List (List T)} {sz : Nat} {own : List Nat} (h : Dp w S v (.sl l)) (hw : ∀ x, x ∈ l → x.length = sz) (hS : ∀ k, S k → k ∈ own) : ∃ sub, RowP w ⟨v, own, sub⟩ sz l := by
  cases h with
  | snil => exact ⟨fun _ _ => undef, .inl ⟨rfl, none, 0, rfl, fun _ => rfl⟩⟩
  | szero _ x n => exact ⟨fun _ _ => undef, .inl ⟨rfl, some x, n, rfl, fun h => (by cases h)⟩⟩
  | sl _ b cap sz' _ c e fr vs subs hm hcap hsz hb0 hb hf hc hr hsub hdis =>
    cases l with
    | nil => exact ⟨fun _ _ => undef, .inl ⟨rfl, some ⟨b, 0, none⟩, cap, rfl, fun h => (by cases h)⟩⟩
    | cons x l =>
      have : sz' = sz := by rw [← hsz x (by simp), hw x (by simp)]
      subst this
      exact ⟨vs, .inr ⟨b, cap, c, e, fr, vs, subs, ⟨rfl, hS _ hb0, hb, hf, hcap, hm, hsz, hc, hr, fun i j k hk => ⟨hS _ (hsub i j k hk).1, (hsub i j k hk).2⟩, hdis⟩, fun _ _ _ _ _ _ => rfl⟩⟩
theorem RowP.dp {h : Hd} {sz : Nat} {l : List (List T)} (hR : RowP w h sz l) : Dp w (fun k => k ∈ h.own) h.v (.sl l) := by
  rcases hR with ⟨rfl, x, n, h1, h2⟩ | ⟨b, cap, c, e, fr, vs, subs, d, _⟩
  · rw [h1]
    cases x with
    | none => rw [h2 rfl]; exact .snil _
    | some x => exact .szero _ x n
  · exact d.toDp

open Classical in
theorem op_sCallSub {md : MF} {f : Nat} {vs : List Value} {as : List A} (hrun : (execOp a.eval o).run P w = (callFunc f vs.toArray).run P w) (R : Rel E ok hd tm ob a.tmps w) (ha : AL w ok hd ob vs as)
    (h : (sCallSub std md ob f as).holds std (ACall P) K) : Goes P E tm ob a.tmps K o a w := by
  unfold sCallSub at h
  split at h
  rotate_left
  · exact h.elim
  rename_i n g i j r
  split at h
  rotate_left
  · exact h.elim
  rename_i pl w2 ms sz es cur tags hmd hob
  obtain ⟨hc, h⟩ := bif_inv h
  simp only [Bool.and_eq_true] at hc
  obtain ⟨c1, c2, c3, c4, c5⟩ := hc
  have hcl := isP_cls c1
  have hcl2 := isP_cls c2
  have hw2 := le_of_leB c3
  have hg := eq_of_eqB c4
  cases h with
  | mk hin h =>
  obtain ⟨h0, h1⟩ := index_inv hin
  dsimp only at h
  split at h
  rotate_left
  · exact h.elim
  rename_i l hl
  obtain ⟨hwid, h⟩ := h
  have hwid : ∀ x, x ∈ l → x.length = wd w2 := hwid
  obtain ⟨h⟩ := h
  cases vs with
  | nil => have := ha.len; simp at this
  | cons v0 vr =>
  have hv0 := ha.rel 0 v0 _ rfl rfl
  obtain ⟨sz', es', cur', tags', fz', p1, p2, _, p3⟩ := hv0.one_inv
  rw [hob] at p1; injection p1 with p1; injection p1 with q1 q2 q3 q4 q5; subst q1; subst q2; subst q3; subst q4; subst q5
  have hv := p3 hg
  have hne : ob n ≠ none := by rw [hob]; simp
  obtain ⟨hcur, hz, hR⟩ := R.obs n _ hob
  rw [hcl] at hR
  rcases hR with ⟨he, _⟩ | ⟨b, cap, c, e, fr, hvs, subs, d, hs⟩
  · subst he; simp at h1; omega
  have hgt : es[i.toNat]? = some (std.get es i) := by simp [std, List.getD, show i.toNat < es.length by omega]
  have hjl := (List.getElem?_eq_some_iff.1 hl).1
  have hglen : (std.get es i).length = wd sz := d.wid _ (List.mem_of_getElem? hgt)
  have hd0 := d.dp i.toNat j _ _ hgt hl
  rw [hs i.toNat j _ l hgt hl, ← hv] at hd0
  let own0 := (hd n).own.filter fun k => decide (subs i.toNat j k)
  have hown0 : ∀ k, k ∈ own0 ↔ k ∈ (hd n).own ∧ subs i.toNat j k := fun k => by simp [own0]
  obtain ⟨sub0, hP0⟩ := hd0.rowP (own := own0) hwid (fun k hk => (hown0 k).2 ⟨(d.sub _ _ _ hk).1, hk⟩)
  let hdC : HF := fun _ => ⟨v0, own0, sub0⟩
  have RC : ORel ok hdC (look [(0, Ob.row w2 l 7 [7] false)]) w := by
    refine ⟨R.okLt, fun k q hk hq => ?_, fun k m q hkm hk hm hq => ?_, fun k x hk => ?_⟩
    · exact R.own n q hne ((hown0 q).1 hq).1
    · have h1 : k = 0 := by
        by_cases e : 0 = k
        · exact e.symm
        · simp [look, e] at hk
      have h2 : m = 0 := by
        by_cases e : 0 = m
        · exact e.symm
        · simp [look, e] at hm
      exact absurd (h1.trans h2.symm) hkm
    · have h1 : k = 0 := by
        by_cases e : 0 = k
        · exact e.symm
        · simp [look, e] at hk
      subst h1
      simp [look] at hk; subst hk
      refine ⟨by simp, hw2, ?_⟩
      rw [hcl2]
      exact hP0
  have har : AL w ok hd ob vr r := ⟨by have := ha.len; simpa using this, fun k v x p q => ha.rel (k + 1) v x (by simpa using p) (by simpa using q)⟩
  have hslice : ∃ x m k, v0 = .slice x m k := hd0.sl_inv
  intro next Q hn
  unfold Oper.wp
  rw [hrun]
  refine h w ok hdC (v0 :: vr) R.gl RC (by simp [har.len]) (fun k v x p q => ?_) o a next Q ?_
  · cases k with
    | zero =>
      simp at p q; subst p; subst q
      exact .one _ _ ⟨w2, l, 7, [7], false, rfl, by simp, hslice, fun _ => rfl⟩
    | succ k => exact flat1_rel c5 har k v x (by simpa using p) (by simpa using q)
  rintro v w' ⟨ok', hd', rv, ob', hk, ret, hr⟩
  dsimp only at hk
  split at hk
  rotate_left
  · exact hk.elim
  rename_i ct w3 l' tg'
  obtain ⟨hc, hk2⟩ := bif_inv hk
  clear hk
  simp only [Bool.and_eq_true] at hc
  have hw3 := eq_of_eqB hc.1
  subst hw3
  have hkp := ret.kp.row 0 w3 l 7 [7] false rfl
  obtain ⟨es2, cur2, tags2, fz2, e1, e2⟩ := hkp
  simp [look] at e1
  obtain ⟨rfl, rfl, rfl, rfl⟩ := e1
  obtain ⟨_, e3, _⟩ := e2 rfl
  have hO := ret.rel.obs 0 _ (show look [(0, Ob.row w3 l' 7 tg' false)] 0 = some _ from rfl)
  obtain ⟨_, _, hO⟩ := hO
  rw [hcl2] at hO
  have hdp' := RowP.dp hO
  rw [show (hd' 0).v = v0 from e3] at hdp'
  have hown' : ∀ k, k ∈ (hd' 0).own → (w.heap.size ≤ k ∨ k ∈ own0) ∧ k < w'.heap.size := by
    intro k hk
    refine ⟨?_, (ret.rel.own 0 k (by simp [look]) hk).2⟩
    rcases ret.ownSub 0 k (by simp [look]) hk with h | ⟨m, _, h⟩
    · exact .inl h
    · exact .inr h
  have hblk : ∀ k, k < w.heap.size → k ∉ own0 → w'.heap[k]? = w.heap[k]? := fun k h1 h2 => ret.block k h1 fun m _ hm => h2 hm
  have hlt : ∀ k, k ∈ (hd n).own → k < w.heap.size := fun k hk => (R.own n k hne hk).2
  have hbo : b ∉ own0 := fun hb => (d.sub _ _ _ ((hown0 b).1 hb).2).2 rfl
  have hFr : Fr (hd n).own w w' := ⟨ret.os, ret.tape, ret.output, ret.size, fun k h1 h2 => hblk k h1 fun h => h2 ((hown0 k).1 h).1⟩
  have hlen : (std.setc es i j [.sl l']).length = es.length := by simp [std]
  have get : ∀ i' (x : List T) j' t, (std.setc es i j [.sl l'])[i']? = some x → x[j']? = some t → (i' = i.toNat ∧ j' = j ∧ t = .sl l') ∨ (¬ (i' = i.toNat ∧ j' = j) ∧ ∃ x0, es[i']? = some x0 ∧ x0[j']? = some t) := by
    intro i' x j' t hx ht
    obtain ⟨x0, h2, h3, h4⟩ := setc_get hx
    by_cases r : i.toNat = i'
    · rw [if_pos r] at h4
      subst r
      rw [hgt] at h2; injection h2 with h2; subst h2
      subst h4
      rw [getElem?_setAt _ _ _ _ (by simp; omega)] at ht
      by_cases r2 : j ≤ j' ∧ j' < j + [T.sl l'].length
      · have : j' = j := by simp at r2; omega
        subst this
        rw [if_pos r2] at ht
        simp at ht
        exact .inl ⟨rfl, rfl, ht.symm⟩
      · rw [if_neg r2] at ht
        exact .inr ⟨fun r3 => r2 (by rw [r3.2]; simp), _, hgt, ht⟩
    · rw [if_neg r] at h4; subst h4
      exact .inr ⟨fun r3 => r r3.1.symm, _, h2, ht⟩
  have hvsij : hvs i.toNat j = v0 := by rw [hs i.toNat j _ l hgt hl]; exact hv.symm
  have hdeep : Deep w' ⟨(hd n).v, (hd n).own ++ (hd' 0).own, (hd n).sub⟩ (wd sz) (std.setc es i j [.sl l']) b cap c e fr hvs (fun i' j' k => if i' = i.toNat ∧ j' = j then k ∈ (hd' 0).own else subs i' j' k) := by
    refine ⟨by rw [hlen]; exact d.v, List.mem_append_left _ d.own, by rw [hblk b (hlt b d.own) hbo]; exact d.blk, d.free, by rw [hlen]; exact d.cap, by rw [hlen]; exact d.max, fun x hx => ?_, fun i' j' x t hx ht => ?_, fun i' j' x t hx ht => ?_, fun i' j' k hk => ?_, fun i1 j1 i2 j2 k hk1 hk2 => ?_⟩
    · obtain ⟨q, hq⟩ := List.getElem?_of_mem hx
      obtain ⟨x0, h2, h3, _⟩ := setc_get hq
      rw [h3]; exact d.wid x0 (List.mem_of_getElem? h2)
    · rcases get i' x j' t hx ht with ⟨rfl, rfl, rfl⟩ | ⟨_, x0, h2, h3⟩
      · exact d.cell _ _ _ _ hgt hl
      · exact d.cell _ _ _ _ h2 h3
    · rcases get i' x j' t hx ht with ⟨rfl, rfl, rfl⟩ | ⟨h1, x0, h2, h3⟩
      · rw [hvsij]
        refine hdp'.mono (fun k hk => ?_) (fun _ _ => rfl)
        show if _ then _ else _
        rw [if_pos ⟨rfl, rfl⟩]; exact hk
      · refine (d.dp _ _ _ _ h2 h3).mono (fun k hk => ?_) fun k hk => hblk k (hlt k (d.sub _ _ _ hk).1) fun hk0 => h1 (d.dis _ _ _ _ k hk ((hown0 k).1 hk0).2)
        show if _ then _ else _
        rw [if_neg h1]; exact hk
    · by_cases q : i' = i.toNat ∧ j' = j
      · rw [if_pos q] at hk
        refine ⟨List.mem_append_right _ hk, fun e => ?_⟩
        subst e
        rcases (hown' k hk).1 with h | h
        · have := hlt k d.own; omega
        · exact hbo h
      · rw [if_neg q] at hk
        exact ⟨List.mem_append_left _ (d.sub _ _ _ hk).1, (d.sub _ _ _ hk).2⟩
    · have far : ∀ i' j' k, ¬ (i' = i.toNat ∧ j' = j) → subs i' j' k → k ∈ (hd' 0).own → False := by
        intro i' j' k hq h1 h2
        rcases (hown' k h2).1 with h | h
        · have := hlt k (d.sub _ _ _ h1).1; omega
        · exact hq (d.dis _ _ _ _ k h1 ((hown0 k).1 h).2)
      by_cases q : i1 = i.toNat ∧ j1 = j <;> by_cases q2 : i2 = i.toNat ∧ j2 = j
      · exact ⟨q.1.trans q2.1.symm, q.2.trans q2.2.symm⟩
      · rw [if_pos q] at hk1; rw [if_neg q2] at hk2
        exact (far i2 j2 k q2 hk2 hk1).elim
      · rw [if_neg q] at hk1; rw [if_pos q2] at hk2
        exact (far i1 j1 k q hk1 hk2).elim
      · rw [if_neg q] at hk1; rw [if_neg q2] at hk2
        exact d.dis _ _ _ _ k hk1 hk2
  have hT := R.turn (x' := .row sz (std.setc es i j [.sl l']) cur tags false) (h' := ⟨(hd n).v, (hd n).own ++ (hd' 0).own, (hd n).sub⟩) hob hFr (fun k hk => by
      rcases List.mem_append.1 hk with h | h
      · exact ⟨.inl h, Nat.lt_of_lt_of_le (hlt k h) ret.size⟩
      · refine ⟨?_, (hown' k h).2⟩
        rcases (hown' k h).1 with h | h
        · exact .inr h
        · exact .inl ((hown0 k).1 h).1) (le_row hob rfl rfl) (by
      refine ⟨hcur, hz, ?_⟩
      rw [hcl]
      refine .inr ⟨b, cap, c, e, fr, hvs, _, hdeep, fun i' j' x l2 hx ht => ?_⟩
      rcases get i' x j' _ hx ht with ⟨rfl, rfl, _⟩ | ⟨_, x0, h2, h3⟩
      · exact hs _ _ _ l hgt hl
      · exact hs _ _ _ _ h2 h3)
  refine hn _ _ ok _ v w' hk2 (by rw [updO_one]; exact hT) ?_
  have hrr : Rep w' ok' v ct := hr.one_inv
  exact .one _ _ (Rep.flat hrr hc.2)

end Go.TL

/- TlY -/
namespace Go.TL
open Go

variable {P : Program} {E : Env P} {ok : Nat → Prop} {hd : HF} {tm : Nat → Option A} {ob : OF} {w : World} {a : Act} {K : A → Obs → Prop} {o : Oper} {tab : TF} {tmps : Array Value}

theorem args_rel (R : Rel E ok hd tm ob a.tmps w) : ∀ (xs : List Operand) (l : List A), argsOf (ev tm) xs = some l → AL w ok hd ob (xs.map a.eval) l
  | [], l, h => by simp [argsOf] at h; subst h; exact ⟨rfl, by simp⟩
  | x :: xs, l, h => by
    unfold argsOf at h
    split at h
    · rename_i v r hv hr
      injection h with h; subst h
      have ih := args_rel R xs r hr
      refine ⟨by simp [ih.len], fun i u y p q => ?_⟩
      cases i with
      | zero => simp at p q; subst p; subst q; exact ev_rel R hv
      | succ i => exact ih.rel i u y (by simpa using p) (by simpa using q)
    · cases h
theorem tV_get : ∀ (l : List T) (i : Nat), (tV l)[i]? = l[i]?.map V.t
  | [], i => by simp [tV]
  | t :: l, i => by cases i with
    | zero => simp [tV]
    | succ i => simp [tV, tV_get l i]
theorem tV_len : ∀ (l : List T), (tV l).length = l.length
  | [] => rfl
  | t :: l => by simp [tV, tV_len l]
theorem firstA_get : ∀ (l : List (List T)) (i : Nat), (firstA l)[i]? = l[i]?.map fun c => .agg (tV c)
  | [], i => by simp [firstA]
  | t :: l, i => by cases i with
    | zero => simp [firstA]
    | succ i => simp [firstA, firstA_get l i]
theorem firstA_len : ∀ (l : List (List T)), (firstA l).length = l.length
  | [] => rfl
  | t :: l => by simp [firstA, firstA_len l]
theorem first_rel {fvs : List (List Value)} {first : List (List T)} (h2 : fvs.length = first.length) (h3 : ∀ (i : Nat) (x : List Value) (y : List T), fvs[i]? = some x → first[i]? = some y → x.length = y.length)
    (h5 : ∀ (i j : Nat) (x : List Value) (y : List T) (v : Value) (t : T), fvs[i]? = some x → first[i]? = some y → x[j]? = some v → y[j]? = some t → Rep w ok v t) :
    AL w ok hd ob (fvs.map fun c => .agg c.toArray) (firstA first) where
  len := by rw [firstA_len]; simpa using h2
  rel i v x p q := by
    rw [firstA_get] at q
    rw [List.getElem?_map] at p
    cases hx : fvs[i]? with
    | none => rw [hx] at p; cases p
    | some fv =>
      cases hy : first[i]? with
      | none => rw [hy] at q; cases q
      | some y =>
        rw [hx] at p; rw [hy] at q
        injection p with p; injection q with q; subst p; subst q
        refine .agg fv (tV y) (by rw [tV_len]; exact h3 i fv y hx hy) fun j c x p q => ?_
        rw [tV_get] at q
        cases ht : y[j]? with
        | none => rw [ht] at q; cases q
        | some t => rw [ht] at q; injection q with q; subst q; exact h5 i j fv y c t hx hy p ht
theorem capT_rel : ∀ (cvs : List Value) (caps : List T), cvs.length = caps.length → (∀ (j : Nat) (v : Value) (t : T), cvs[j]? = some v → caps[j]? = some t → Rep w ok v t) → AL w ok hd ob cvs (capT caps)
  | [], [], _, _ => ⟨rfl, by simp⟩
  | v :: cvs, c :: caps, hl, h => by
    have ih := capT_rel cvs caps (by simpa using hl) fun j v t p q => h (j + 1) v t (by simpa using p) (by simpa using q)
    refine ⟨by simp [capT, ih.len], fun i u y p q => ?_⟩
    cases i with
    | zero => simp [capT] at p q; subst p; subst q; exact .one _ _ (h 0 v c rfl rfl)
    | succ i => exact ih.rel i u y (by simpa using p) (by simpa [capT] using q)
  | [], _ :: _, hl, _ => by simp at hl
  | _ :: _, [], hl, _ => by simp at hl
theorem capA_rel : ∀ (cvs : List Value) (caps : List Cap), cvs.length = caps.length → (∀ (j : Nat) (v : Value) (t : Cap), cvs[j]? = some v → caps[j]? = some t → CapR w ok hd ob v t) → AL w ok hd ob cvs (capA caps)
  | [], [], _, _ => ⟨rfl, by simp⟩
  | v :: cvs, c :: caps, hl, h => by
    have ih := capA_rel cvs caps (by simpa using hl) fun j v t p q => h (j + 1) v t (by simpa using p) (by simpa using q)
    have h0 := h 0 v c rfl rfl
    cases c with
    | t c =>
      refine ⟨by simp [capA, ih.len], fun i u y p q => ?_⟩
      cases i with
      | zero => simp [capA] at p q; subst p; subst q; exact .one _ _ h0
      | succ i => exact ih.rel i u y (by simpa using p) (by simpa [capA] using q)
    | ptr o off =>
      refine ⟨by simp [capA, ih.len], fun i u y p q => ?_⟩
      cases i with
      | zero => simp [capA] at p q; subst p; subst q; exact .one _ _ h0
      | succ i => exact ih.rel i u y (by simpa using p) (by simpa [capA] using q)
  | [], _ :: _, hl, _ => by simp at hl
  | _ :: _, [], hl, _ => by simp at hl

theorem run_callValue {c : Call} {f : Operand} {g : Nat} {fvs : List (List Value)} {cvs : List Value} (ho : o.op = .call c) (hc : c.callee = .value f) (hf : a.eval f = .func (.func g) (fvs.map fun c => .agg c.toArray).toArray cvs.toArray) :
    (execOp a.eval o).run P w = (callFunc g ((fvs.map fun c => Value.agg c.toArray) ++ (c.args.toList.map a.eval ++ cvs)).toArray).run P w := by
  simp only [execOp, ho, resolve, hc, hf, Deferred.ofValue, Sem.run_bind, Sem.run_pure, Result.andThen_ok, invoke]
  congr 2
  apply Array.ext'
  simp

theorem op_callValue {md : MF} {d : Nat} {c : Call} {f : Operand} (ho : o.op = .call c) (hc : c.callee = .value f) (R : Rel E ok hd tm ob a.tmps w)
    (h : (match ev tm f with
      | some (.one (.t (.fn (.func g) first caps))) => match argsOf (ev tm) c.args.toList with
        | some l => (match hasSub l with
          | false => sCall std md ob d g (firstA first ++ (l ++ capT caps))
          | true => (match first, caps with
            | [], [] => sCallSub std md ob g l
            | _, _ => .bad))
        | none => .bad
      | some (.one (.fn (.func g) first caps)) => match argsOf (ev tm) c.args.toList with
        | some l => sCall std md ob d g (firstA first ++ (l ++ capA caps))
        | none => .bad
      | _ => SR.bad).holds std (ACall P) K) : Goes P E tm ob a.tmps K o a w := by
  split at h
  · rename_i g first caps hf
    split at h
    · rename_i l hl
      have hv := (ev_rel R hf).one_inv
      generalize hfv : a.eval f = fv at hv
      cases hv with
      | fn _ _ _ fvs cvs q1 q2 q3 q4 q5 =>
        split at h
        · exact op_sCall (run_callValue ho hc hfv) R ((first_rel q1 q2 q4).append ((args_rel R _ l hl).append (capT_rel cvs caps q3 q5))) h
        · split at h
          · have hf0 : fvs = [] := List.length_eq_zero_iff.1 q1
            have hc0 : cvs = [] := List.length_eq_zero_iff.1 q3
            subst hf0; subst hc0
            have := run_callValue (P := P) (w := w) ho hc hfv
            simp only [List.map_nil, List.nil_append, List.append_nil] at this
            exact op_sCallSub this R (args_rel R _ l hl) h
          · exact h.elim
    · exact h.elim
  · rename_i g first caps hf
    split at h
    · rename_i l hl
      obtain ⟨fvs, cvs, q0, q1, q2, q3, q4, q5⟩ := (ev_rel R hf).one_inv
      exact op_sCall (run_callValue ho hc q0) R ((first_rel q1 q2 q4).append ((args_rel R _ l hl).append (capA_rel cvs caps q3 q5))) h
    · exact h.elim
  · exact h.elim

theorem step_sound {md : MF} {d : Nat} {op : Op} {ty : Nat} (hop : o.op = op) (hT : TabOk P tab) (R : Rel E ok hd tm ob a.tmps w) (h : (stepE std tab md d op ty (ev tm) ob).holds std (ACall P) K) : Goes P E tm ob a.tmps K o a w := by
  unfold stepE at h
  split at h
  · exact op_move hop R h
  · exact op_assign hop R h
  · exact op_pick hop R h
  · split at h
    · exact op_alloc hop hT R h
    · exact op_allocArr hop hT R h
  · exact op_box hop R h
  · exact op_build hop hT R h
  · split at h
    · exact op_buildSlice hop hT R h
    · exact op_buildSliceB hop hT R h
  · exact op_load hop hT R h
  · exact op_storeD hop hT R h
  · exact op_nilCheck hop R h
  · exact op_bin hop R hT h
  · exact op_un hop R h
  · exact op_convert hop hT R h
  · exact op_makeFunc hop R h
  · split at h
    · exact op_makeSlice hop hT R h
    · exact op_makeD hop hT R h
  · split at h
    · exact op_slice hop hT R h
    · exact op_slicePart hop hT R h
  · exact op_fieldAddr hop hT R h
  · exact op_field hop hT R h
  · exact op_indexAddrD hop hT R h
  · exact op_index hop hT R h
  · exact op_extract hop R h
  · rename_i c
    split at h
    · rename_i hc
      split at h
      · rename_i x t hx ht; exact op_len hop hc hx ht hT R h
      · exact h.elim
    · rename_i hc
      split at h
      · rename_i x y t u hx ht
        split at h
        · exact op_append hop hc hx ht hT R (by unfold nm; omega) h
        · exact op_appendD hop hc hx ht hT R (by unfold nm; omega) h
      · exact h.elim
    · rename_i hc
      split at h
      · rename_i x y hx
        split at h
        · rename_i m n h1 h2; exact op_min hop hc hx R h1 h2 h
        · exact h.elim
      · exact h.elim
    · rename_i hc
      split at h
      · rename_i x y hx
        split at h
        · rename_i m n h1 h2; exact op_max hop hc hx R h1 h2 h
        · exact h.elim
      · exact h.elim
    · rename_i f hc
      exact op_callValue hop hc R h
    · exact h.elim
  · exact h.elim

end Go.TL

/- TlZ -/
namespace Go.TL
open Go

variable {P : Program} {E : Env P} {ok : Nat → Prop} {hd : HF} {tm : Nat → Option A} {ob : OF} {w : World} {a : Act} {o : Oper} {tab : TF} {md : MF} {tmps : Array Value}

/-- A frame and a world are as a state says. -/
structure SRel {P : Program} (E : Env P) (st : St) (a : Act) (w : World) : Prop where
  rel : ∃ ok hd, Rel E ok hd (look st.tm) (look st.ob) a.tmps w
  defers : a.defers = []

theorem look_put {α : Type} (l : List (Nat × α)) (d : Nat) (x : α) (t : Nat) : look (put l d x) t = if t = d then some x else look l t := by
  induction l with
  | nil => by_cases e : t = d <;> simp [put, look, e, Ne.symm]
  | cons p l ih =>
    obtain ⟨i, v⟩ := p
    by_cases e : i = d
    · subst e
      by_cases e2 : t = i
      · simp [put, look, e2]
      · simp [put, look, e2, Ne.symm e2]
    · by_cases e2 : t = d
      · subst e2; simp [put, look, e, ih]
      · by_cases e3 : i = t
        · subst e3; simp [put, look, e]
        · simp [put, look, e, ih, e2, e3]
theorem look_puts : ∀ (wr l : Obs), look (puts l wr) = updO (look l) wr
  | [], l => rfl
  | (i, x) :: r, l => by
    rw [puts, look_puts r]
    have : look (put l i x) = updO (look l) [(i, x)] := by
      rw [updO_one]; funext t; rw [look_put]; rfl
    rw [this, ← updO_append]
    rfl

theorem Rel.put {d : Nat} {v : Value} {x : A} (R : Rel E ok hd tm ob tmps w) (hx : AR w ok hd ob v x) (hd' : d < E.nt) : Rel E ok hd (fun t => if t = d then some x else tm t) ob (tmps.setIfInBounds d v) w :=
  { R with
    nt := by simp [R.nt]
    tms := fun t y hy => by
      by_cases e : t = d
      · subst e
        simp at hy; subst hy
        simp [Array.getD, R.nt, hd', hx]
      · simp [e] at hy
        have := R.tms t y hy
        simp only [Array.getD_eq_getD_getElem?] at this ⊢
        rw [Array.getElem?_setIfInBounds_ne (Ne.symm e)]
        exact this }
theorem Rel.tmsub {tm' : Nat → Option A} (R : Rel E ok hd tm ob tmps w) (h : ∀ t x, tm' t = some x → tm t = some x) : Rel E ok hd tm' ob tmps w :=
  { R with tms := fun t x hx => R.tms t x (h t x hx) }

/-- The frame behind an operation. -/
theorem srel_put {st : St} {dst : Option Nat} {v : Value} {x : A} {wr : Obs} (hdf : a.defers = []) (hd' : ∀ d, dst = some d → d < E.nt) (R : Rel E ok hd (look st.tm) (updO (look st.ob) wr) a.tmps w) (hx : AR w ok hd (updO (look st.ob) wr) v x) :
    SRel E ⟨setT st.tm dst x, puts st.ob wr⟩ (a.put dst v) w := by
  cases dst with
  | none => exact ⟨⟨ok, hd, by simpa only [look_puts, setT, Act.put] using R⟩, hdf⟩
  | some d =>
    refine ⟨⟨ok, hd, ?_⟩, hdf⟩
    have := R.put hx (hd' d rfl)
    simp only [look_puts, setT, Act.put]
    rw [show look (put st.tm d x) = fun t => if t = d then some x else look st.tm t from funext fun t => look_put _ _ _ _]
    exact this

/-- Each operation's place is one of the frame; a guard asks an operation that has one. -/
def dstsOk (nt : Nat) (ops : List Oper) : Bool := ops.all fun o => (match o.dst with
  | some d => ltB d nt
  | none => true) && match o.guard with
    | some (g, _) => (match ops[g]? with | some o' => o'.dst.isSome | none => false)
    | none => true
theorem dstsOk_mem {nt : Nat} {ops : List Oper} (h : dstsOk nt ops = true) {o : Oper} (ho : o ∈ ops) : ∀ d, o.dst = some d → d < nt := by
  intro d hd
  have := List.all_eq_true.1 h o ho
  rw [hd] at this
  simp only [Bool.and_eq_true] at this
  exact lt_of_ltB this.1
theorem dstsOk_guard {nt : Nat} {ops : List Oper} (h : dstsOk nt ops = true) {o : Oper} (ho : o ∈ ops) {g : Nat} {want : Bool} (hg : o.guard = some (g, want)) : ∃ o' t, ops[g]? = some o' ∧ o'.dst = some t ∧ guardT ops o.guard = some (t, want) := by
  have := List.all_eq_true.1 h o ho
  rw [hg] at this
  simp only [Bool.and_eq_true] at this
  obtain ⟨_, this⟩ := this
  split at this
  · rename_i o' ho'
    obtain ⟨t, ht⟩ := Option.isSome_iff_exists.1 this
    exact ⟨o', t, ho', ht, by simp [hg, guardT, ho', ht]⟩
  · cases this

/-- What a guard reads. -/
theorem guard_read {ops : Array Oper} {st : St} {g t : Nat} {o' : Oper} {b : Bool} (R : SRel E st a w) (ho : ops.toList[g]? = some o') (ht : o'.dst = some t) (hb : look st.tm t = some (.one (.t (.bool b)))) (hnt : dstsOk E.nt ops.toList = true) :
    yielded ops a.tmps g = some b := by
  obtain ⟨ok, hd, R⟩ := R.rel
  have hv := (R.tms t _ hb).one_inv.bool_inv
  have hog : ops[g]? = ops.toList[g]? := by simp
  have hlt := dstsOk_mem hnt (List.mem_of_getElem? ho) t ht
  have hi : a.tmps[t]? = some (.bool b) := by
    rw [← R.nt] at hlt
    rw [Array.getD_eq_getD_getElem?, Array.getElem?_eq_getElem hlt] at hv
    rw [Array.getElem?_eq_getElem hlt]
    simpa using hv
  simp [yielded, hog, ho, ht, hi]

theorem guard_un {ops : Array Oper} {g t : Nat} {o' : Oper} {v : Value} (ho : ops.toList[g]? = some o') (ht : o'.dst = some t) (hv : AR w ok hd ob v (.tup [])) (hi : a.tmps.getD t undef = v) : yielded ops a.tmps g = none := by
  have hog : ops[g]? = ops.toList[g]? := by simp
  cases hv with
  | tup xs as hl h =>
    have : xs = [] := List.length_eq_zero_iff.1 hl
    subst this
    simp only [yielded, hog, ho, ht, Option.bind_some]
    cases hx : a.tmps[t]? with
    | none => rfl
    | some x =>
      rw [Array.getD_eq_getD_getElem?, hx] at hi
      simp only [Option.getD_some] at hi
      subst hi; rfl

theorem look_put_same {st : St} {t : Nat} {x : A} (h : look st.tm t = some x) : look (put st.tm t x) = look st.tm := by
  funext u
  rw [look_put]
  by_cases e : u = t
  · subst e; simp [h]
  · simp [e]

theorem opsP_sound {ops : Array Oper} {K : St → Prop} {Q : Exit → Act → World → Prop} (hT : TabOk P tab) (hnt : dstsOk E.nt ops.toList = true) (hQ : ∀ st a w, K st → SRel E st a w → Q .normal a w) :
    ∀ (l : List Oper) (k : Nat), ops.toList.drop k = l → ∀ (st : St) (a : Act) (w : World), SRel E st a w → opsP std (ACall P) tab md (kops ops.toList l) st K → wpOps P ops Q (List.range' k l.length) a w := by
  intro l
  induction l with
  | nil => intro k _ st a w R h; exact hQ st a w h R
  | cons o l ih =>
    intro k hk st a w R h
    have hlt : k < ops.toList.length := by
      by_cases q : k < ops.toList.length
      · exact q
      · rw [List.drop_eq_nil_of_le (by omega)] at hk; cases hk
    have hk2 := hk
    rw [List.drop_eq_getElem_cons hlt] at hk2
    injection hk2 with ho1 hk2
    have ho : ops[k]? = some o := by
      rw [← ho1]; simp
    have hmem : o ∈ ops.toList := by rw [← ho1]; exact List.getElem_mem _
    have hds := dstsOk_mem hnt hmem
    have step : ∀ (st : St), SRel E st a w → (stepE std tab md (dstOf o.dst) o.op o.type (ev (look st.tm)) (look st.ob)).holds std (ACall P) (fun x wr => opsP std (ACall P) tab md (kops ops.toList l) ⟨setT st.tm o.dst x, puts st.ob wr⟩ K) →
        o.wp P a w (wpOps P ops Q (List.range' (k + 1) l.length)) Q := by
      intro st R h
      obtain ⟨⟨ok, hd, R1⟩, hdf⟩ := R
      refine step_sound rfl hT R1 h _ _ ?_
      intro av wr ok' hd' v w' hK R2 hv
      exact ih (k + 1) hk2 _ _ _ (srel_put hdf hds R2 hv) hK
    simp only [List.length_cons, List.range'_succ, wpOps, ho]
    simp only [kops, kop] at h
    cases hg : o.guard with
    | none =>
      rw [hg] at h
      simp only [guardT, opsP] at h
      rw [if_pos (by simp [Region.wanted, hg])]
      exact .inl (step st R h)
    | some p =>
      obtain ⟨g, want⟩ := p
      obtain ⟨o', t, g1, g2, g3⟩ := dstsOk_guard hnt hmem hg
      rw [g3] at h
      simp only [opsP] at h
      have skip : ∀ (st : St), SRel E st a w → opsP std (ACall P) tab md (kops ops.toList l) ⟨setT st.tm o.dst (.tup []), st.ob⟩ K → wpOps P ops Q (List.range' (k + 1) l.length) (a.put o.dst undef) w := by
        intro st R h
        obtain ⟨⟨ok, hd, R1⟩, hdf⟩ := R
        exact ih (k + 1) hk2 _ _ _ (srel_put (wr := []) (x := .tup []) (v := undef) hdf hds R1 (.tup [] [] rfl (fun _ _ _ h => by simp at h))) h
      split at h
      rotate_left
      · rename_i hb
        have hy : yielded ops a.tmps g = none := by
          obtain ⟨⟨ok, hd, R1⟩, _⟩ := R
          exact guard_un g1 g2 (R1.tms t _ hb) rfl
        have hw : Region.wanted o (yielded ops a.tmps) = false := by simp [Region.wanted, hg, hy]
        rw [hw]
        exact skip st R h
      · exact h.elim
      rename_i b hb
      have hy := guard_read R g1 g2 hb hnt
      have hw : Region.wanted o (yielded ops a.tmps) = (b == want) := by simp [Region.wanted, hg, hy]
      have R' : SRel E ⟨put st.tm t (.one (.t (.bool b))), st.ob⟩ a w := by
        refine ⟨?_, R.defers⟩
        simp only [look_put_same hb]
        exact R.rel
      rw [hw]
      cases b <;> cases want <;> simp only [] at h
      · exact .inl (step _ R' h)
      · exact skip _ R' h
      · exact skip _ R' h
      · exact .inl (step _ R' h)

end Go.TL

/- TlAA -/
namespace Go.TL
open Go

variable {S : Nat → Prop} {lk lk' : OF} {tab : TF} {md : MF} {ρ ρ' : Operand → Option A}

/-- All that is named lies within. -/
def AS (S : Nat → Prop) (a : A) : Prop := ∀ m, m ∈ a.refs → S m
def OS (S : Nat → Prop) (a : Option A) : Prop := ∀ x, a = some x → AS S x
structure Ag (S : Nat → Prop) (lk lk' : OF) : Prop where
  eq : ∀ n, S n → lk n = lk' n
  cl : ∀ n cs fz, S n → lk n = some (.box cs fz) → ∀ m, m ∈ vrefs cs → S m

theorem Cap.tree_ag (h : Ag S lk lk') {c : Cap} (hs : ∀ m, m ∈ crefs [c] → S m) : c.tree lk = c.tree lk' := by
  cases c with
  | t c => rfl
  | ptr o off => simp only [Cap.tree, h.eq o (hs o (by simp [crefs]))]
theorem capsTree_ag (h : Ag S lk lk') : ∀ {l : List Cap}, (∀ m, m ∈ crefs l → S m) → capsTree lk l = capsTree lk' l
  | [], _ => rfl
  | .t c :: r, hs => by
    have := capsTree_ag h (l := r) hs
    simp only [capsTree, this, Cap.tree]
  | .ptr o off :: r, hs => by
    have h1 := capsTree_ag h (l := r) fun m hm => hs m (by simp [crefs, hm])
    have h2 : Cap.tree lk (.ptr o off) = Cap.tree lk' (.ptr o off) := Cap.tree_ag h fun m hm => hs m (by simp only [crefs, List.mem_cons] at hm ⊢; exact hm.elim .inl (fun h => by cases h))
    simp only [capsTree, h1, h2]
theorem V.tree_ag (h : Ag S lk lk') {v : V} (hs : ∀ m, m ∈ v.refs → S m) : v.tree lk = v.tree lk' := by
  cases v with
  | row o g => simp only [V.tree, h.eq o (hs o (by simp [V.refs]))]
  | ptr o off => exact Cap.tree_ag h (c := .ptr o off) fun m hm => hs m hm
  | fn f first caps =>
    have := capsTree_ag h (l := caps) hs
    simp only [V.tree, this]
  | _ => rfl
theorem trees_ag (h : Ag S lk lk') : ∀ {l : List V}, (∀ m, m ∈ vrefs l → S m) → trees lk l = trees lk' l
  | [], _ => rfl
  | v :: l, hs => by
    have h1 := V.tree_ag h (v := v) fun m hm => hs m (by simp [vrefs, hm])
    have h2 := trees_ag h (l := l) fun m hm => hs m (by simp [vrefs, hm])
    simp only [trees, h1, h2]
mutual
theorem A.tree_ag (h : Ag S lk lk') : ∀ {a : A}, AS S a → a.tree lk = a.tree lk'
  | .one v, hs => by simp only [A.tree, V.tree_ag h (v := v) hs]
  | .agg vs, hs => by simp only [A.tree, trees_ag h (l := vs) hs]
  | .tup l, hs => by simp only [A.tree, goTree_ag h (l := l) hs]
theorem goTree_ag (h : Ag S lk lk') : ∀ {l : List A}, (∀ m, m ∈ A.refs.go l → S m) → A.tree.go lk l = A.tree.go lk' l
  | [], _ => rfl
  | x :: l, hs => by
    have h1 := A.tree_ag h (a := x) fun m hm => hs m (by simp [A.refs.go, hm])
    have h2 := goTree_ag h (l := l) fun m hm => hs m (by simp [A.refs.go, hm])
    simp only [A.tree.go, h1, h2]
end
theorem frz_ag (h : Ag S lk lk') : ∀ {l : List Nat}, (∀ m, m ∈ l → S m) → frz lk l = frz lk' l
  | [], _ => rfl
  | n :: r, hs => by simp only [frz, h.eq n (hs n (by simp)), frz_ag h (l := r) fun m hm => hs m (by simp [hm])]
theorem freshB_ag (h : Ag S lk lk') : ∀ {l : List Nat}, (∀ m, m ∈ l → S m) → freshB lk l = freshB lk' l
  | [], _ => rfl
  | n :: r, hs => by simp only [freshB, h.eq n (hs n (by simp)), freshB_ag h (l := r) fun m hm => hs m (by simp [hm])]
theorem newTag_ag (h : Ag S lk lk') {g : Nat} : ∀ {l : List Nat}, (∀ m, m ∈ l → S m) → newTag lk g l = newTag lk' g l
  | [], _ => rfl
  | n :: r, hs => by simp only [newTag, h.eq n (hs n (by simp)), newTag_ag h (l := r) fun m hm => hs m (by simp [hm])]
theorem oldTags_ag (h : Ag S lk lk') : ∀ {l : Obs}, (∀ m, m ∈ l.map (·.1) → S m) → oldTags lk l = oldTags lk' l
  | [], _ => rfl
  | (n, .box cs fz) :: r, hs => by simp only [oldTags, oldTags_ag h (l := r) fun m hm => hs m (by simp only [List.map_cons, List.mem_cons]; exact .inr hm)]
  | (n, .row sz es cur tags fz) :: r, hs => by
    simp only [oldTags, oldTags_ag h (l := r) fun m hm => hs m (by simp only [List.map_cons, List.mem_cons]; exact .inr hm), h.eq n (hs n (by simp))]
theorem mem_nub {n : Nat} : ∀ {l acc : List Nat}, n ∈ nub l acc → n ∈ l ∨ n ∈ acc
  | [], acc, h => .inr h
  | m :: r, acc, h => by
    simp only [nub] at h
    cases hb : memB m acc with
    | true =>
      rw [hb] at h
      rcases mem_nub h with h | h
      · exact .inl (.tail _ h)
      · exact .inr h
    | false =>
      rw [hb] at h
      rcases mem_nub h with h | h
      · exact .inl (.tail _ h)
      · rcases List.mem_append.1 h with h | h
        · exact .inr h
        · simp at h; subst h; exact .inl (.head _)
theorem oref_ag (h : Ag S lk lk') : ∀ {l : List Nat}, (∀ m, m ∈ l → S m) → oref lk l = oref lk' l ∧ ∀ m, m ∈ oref lk l → S m
  | [], _ => ⟨rfl, fun m hm => by cases hm⟩
  | n :: r, hs => by
    obtain ⟨h1, h2⟩ := oref_ag h (l := r) fun m hm => hs m (by simp [hm])
    have hn := hs n (by simp)
    simp only [oref, ← h.eq n hn, ← h1]
    refine ⟨trivial, fun m hm => ?_⟩
    split at hm
    · rename_i cs fz hb
      rcases List.mem_append.1 hm with hm | hm
      · exact h.cl n cs fz hn hb m hm
      · exact h2 m hm
    · exact h2 m hm
theorem reach_ag (h : Ag S lk lk') : ∀ (k : Nat) {l : List Nat}, (∀ m, m ∈ l → S m) → reach lk k l = reach lk' k l ∧ ∀ m, m ∈ reach lk k l → S m
  | 0, l, hs => ⟨rfl, hs⟩
  | k + 1, l, hs => by
    obtain ⟨h1, h2⟩ := oref_ag h hs
    simp only [reach, ← h1]
    exact reach_ag h k fun m hm => (mem_nub hm).elim (h2 m) (hs m)

theorem mem_vrefs {m : Nat} : ∀ {l : List V}, m ∈ vrefs l → ∃ v, v ∈ l ∧ m ∈ v.refs
  | [], h => by cases h
  | v :: l, h => by
    rcases List.mem_append.1 h with h | h
    · exact ⟨v, .head _, h⟩
    · obtain ⟨u, h1, h2⟩ := mem_vrefs h; exact ⟨u, .tail _ h1, h2⟩
theorem vrefs_mem {m : Nat} {v : V} : ∀ {l : List V}, v ∈ l → m ∈ v.refs → m ∈ vrefs l
  | [], h, _ => by cases h
  | u :: l, h, hm => by
    rcases List.mem_cons.1 h with e | h
    · subst e; exact List.mem_append_left _ hm
    · exact List.mem_append_right _ (vrefs_mem h hm)
theorem mem_setAt {α : Type} {x : α} : ∀ {l : List α} {n : Nat} {r : List α}, x ∈ setAt l n r → x ∈ l ∨ x ∈ r
  | l, n, [], h => by cases l <;> exact .inl h
  | [], n, y :: r, h => by cases n <;> cases h
  | a :: l, 0, y :: r, h => by
    simp only [setAt] at h
    rcases List.mem_cons.1 h with e | h
    · exact .inr (e ▸ .head _)
    · rcases mem_setAt h with h | h
      · exact .inl (.tail _ h)
      · exact .inr (.tail _ h)
  | a :: l, n + 1, y :: r, h => by
    simp only [setAt] at h
    rcases List.mem_cons.1 h with e | h
    · exact .inl (e ▸ .head _)
    · rcases mem_setAt h with h | h
      · exact .inl (.tail _ h)
      · exact .inr h
theorem virtL_refs : ∀ (vl : List (Nat × Nat)) (n : Nat) (cs cs' : List V) (vo : Obs), virtL n vl cs = (cs', vo) → ∀ m, m ∈ vrefs cs' → m ∈ vrefs cs ∨ m ∈ keys vo
  | [], n, cs, cs', vo, h, m, hm => by
    simp only [virtL] at h; injection h with h1 h2; subst h1; exact .inl hm
  | (j, sz) :: r, n, cs, cs', vo, h, m, hm => by
    simp only [virtL] at h
    split at h
    · generalize hq : virtL (n + 1) r (setAt cs j [V.row n 0]) = q at h
      obtain ⟨cs2, o2⟩ := q
      simp only at h
      injection h with h1 h2; subst h1; subst h2
      rcases virtL_refs r (n + 1) _ cs2 o2 hq m hm with h | h
      · obtain ⟨v, hv, hv2⟩ := mem_vrefs h
        rcases mem_setAt hv with h | h
        · exact .inl (vrefs_mem h hv2)
        · simp at h; subst h; simp [V.refs] at hv2; subst hv2; exact .inr (.head _)
      · exact .inr (.tail _ h)
    · exact virtL_refs r (n + 1) cs cs' vo h m hm
theorem virtA_refs {vl : List (Nat × Nat)} {n : Nat} {x x' : A} {vo : Obs} (h : virtA n vl x = (x', vo)) : ∀ m, m ∈ x'.refs → m ∈ x.refs ∨ m ∈ keys vo := by
  intro m hm
  cases x with
  | one c =>
    simp only [virtA] at h
    split at h
    · rename_i v' o hq
      injection h with h1 h2; subst h1; subst h2
      rcases virtL_refs vl n [c] [v'] o hq m (by simpa [vrefs, A.refs] using hm) with h | h
      · exact .inl (by simpa [vrefs, A.refs] using h)
      · exact .inr h
    · injection h with h1 h2; subst h1; exact .inl hm
  | agg vs =>
    simp only [virtA] at h
    generalize hq : virtL n vl vs = q at h
    obtain ⟨cs2, o2⟩ := q
    simp only at h
    injection h with h1 h2; subst h1; subst h2
    exact virtL_refs vl n vs cs2 o2 hq m hm
  | tup l =>
    simp only [virtA] at h
    injection h with h1 h2; subst h1; exact .inl hm
theorem keys_append : ∀ (a b : Obs), keys (a ++ b) = keys a ++ keys b
  | [], _ => rfl
  | (n, x) :: r, b => by simp [keys, keys_append r b]

theorem preArgs_ag (h : Ag S lk lk') : ∀ {as : List A} (ms : List (Option (List (Nat × Nat)))) (n : Nat), (∀ a, a ∈ as → AS S a) → preArgs lk n ms as = preArgs lk' n ms as ∧
    ∀ p, preArgs lk n ms as = some p → (∀ m, m ∈ p.fr → S m) ∧ (∀ m, m ∈ p.own → S m ∨ m ∈ keys p.vo) ∧ Virt p.vo
  | [], ms, n, _ => by
    refine ⟨by unfold preArgs; rfl, fun p hp => ?_⟩
    have : p = ⟨[], [], [], []⟩ := by unfold preArgs at hp; injection hp with hp; exact hp.symm
    subst this
    exact ⟨fun m hm => (by cases hm), fun m hm => (by cases hm), fun n x hm => (by cases hm)⟩
  | a :: as, ms, n, hs => by
    have ha := A.tree_ag h (hs a (.head _))
    have tree : ∀ ms, preArgs lk n ms as = preArgs lk' n ms as ∧ (∀ p, preArgs lk n ms as = some p → (∀ m, m ∈ p.fr → S m) ∧ (∀ m, m ∈ p.own → S m ∨ m ∈ keys p.vo) ∧ Virt p.vo) := fun ms => preArgs_ag h ms n fun x hx => hs x (.tail _ hx)
    match ms with
    | [] =>
      obtain ⟨i1, i2⟩ := tree []
      refine ⟨by unfold preArgs; rw [ha, i1], fun p hp => ?_⟩
      unfold preArgs at hp
      split at hp
      · rename_i t q ht hq
        injection hp with hp; subst hp
        obtain ⟨j1, j2, j3⟩ := i2 q hq
        exact ⟨fun m hm => (List.mem_append.1 hm).elim (hs a (.head _) m) (j1 m), j2, j3⟩
      · cases hp
    | none :: ms =>
      obtain ⟨i1, i2⟩ := tree ms
      refine ⟨by unfold preArgs; rw [ha, i1], fun p hp => ?_⟩
      unfold preArgs at hp
      split at hp
      · rename_i t q ht hq
        injection hp with hp; subst hp
        obtain ⟨j1, j2, j3⟩ := i2 q hq
        exact ⟨fun m hm => (List.mem_append.1 hm).elim (hs a (.head _) m) (j1 m), j2, j3⟩
      · cases hp
    | some vl :: ms =>
      obtain ⟨i1, i2⟩ := preArgs_ag h ms (n + 2) fun x hx => hs x (.tail _ hx)
      refine ⟨by unfold preArgs; rw [i1], fun p hp => ?_⟩
      unfold preArgs at hp
      generalize hq : virtA n vl a = q at hp
      obtain ⟨x', vo⟩ := q
      split at hp
      · rename_i x2 vo2 q2 e1 hq3
        injection e1 with e1 e2
        subst e1; subst e2
        injection hp with hp; subst hp
        obtain ⟨j1, j2, j3⟩ := i2 q2 hq3
        refine ⟨j1, fun m hm => ?_, fun m x hm => ?_⟩
        · simp only [keys_append, List.mem_append] at hm ⊢
          rcases hm with hm | hm
          · rcases virtA_refs hq m hm with h | h
            · exact .inl (hs a (.head _) m h)
            · exact .inr (.inl h)
          · rcases j2 m hm with h | h
            · exact .inl h
            · exact .inr (.inr h)
        · rcases List.mem_append.1 hm with hm | hm
          · exact (virtA_rel (w := default) (ok := fun _ => True) (hd1 := fun _ => nilHd) (ob1 := fun _ => none) hq).1 m x hm
          · exact j3 m x hm
      · cases hp
theorem slotB_mem {d : Nat} : ∀ {l : List Nat}, slotB d l = true → ∀ n, n ∈ l → n / 32 = d + 1
  | [], _, n, h => by cases h
  | m :: r, hb, n, h => by
    simp only [slotB, Bool.and_eq_true] at hb
    rcases List.mem_cons.1 h with e | h
    · subst e; exact eq_of_eqB hb.1
    · exact slotB_mem hb.2 n h
theorem updO_ag (h : Ag S lk lk') {wr : Obs} (hw : ∀ n cs fz, (n, Ob.box cs fz) ∈ wr → ∀ m, m ∈ vrefs cs → S m) : Ag S (updO lk wr) (updO lk' wr) where
  eq n hn := by simp only [updO, h.eq n hn]
  cl n cs fz hn hx m hm := by
    simp only [updO] at hx
    split at hx
    · rename_i o ho
      injection hx with hx; subst hx
      exact hw n cs fz (List.mem_reverse.1 (look_mem ho)) m hm
    · exact h.cl n cs fz hn hx m hm
theorem frz_mem {n : Nat} {x : Ob} : ∀ {l : List Nat}, (n, x) ∈ frz lk l → n ∈ l ∧ ∃ y, lk n = some y ∧ x = frOb y
  | [], h => by cases h
  | m :: r, h => by
    simp only [frz] at h
    split at h
    · rename_i o ho
      rcases List.mem_cons.1 h with e | h
      · injection e with e1 e2; subst e1; exact ⟨.head _, o, ho, e2⟩
      · obtain ⟨h1, h2⟩ := frz_mem h; exact ⟨.tail _ h1, h2⟩
    · obtain ⟨h1, h2⟩ := frz_mem h; exact ⟨.tail _ h1, h2⟩
theorem renO_names {ρ0 : List (Nat × Nat)} {g : Nat → Nat → Nat} {n : Nat} {ob : OF} : ∀ {l : List (Nat × Nat)}, n ∈ (renO ρ0 g ob l).map (·.1) → n ∈ l.map (·.2)
  | [], h => by cases h
  | (o, o') :: r, h => by
    simp only [renO] at h
    split at h
    · simp only [List.map_cons, List.mem_cons] at h ⊢
      rcases h with h | h
      · exact .inl h
      · exact .inr (renO_names h)
    · simp only [List.map_cons, List.mem_cons]; exact .inr (renO_names h)

theorem sCall_ag (h : Ag S lk lk') {d f : Nat} (hd : ∀ n, n / 32 = d + 1 → S n) {as : List A} (hs : ∀ a, a ∈ as → AS S a) : sCall std md lk d f as = sCall std md lk' d f as := by
  obtain ⟨i1, i2⟩ := preArgs_ag h (md f).own (nm d 16) hs
  unfold sCall
  rw [← i1]
  cases hp : preArgs lk (nm d 16) (md f).own as with
  | none => rfl
  | some p =>
    obtain ⟨j1, j2, j3⟩ := i2 p hp
    simp only
    cases hb : slotB d (keys p.vo) with
    | false => simp
    | true =>
      have hsl := slotB_mem hb
      rw [freshB_ag h (l := keys p.vo) fun m hm => hd m (hsl m hm)]
      congr 1
      unfold sCall.callW
      have hwr : (p.vo ++ bif (md f).bor then [] else frz lk p.fr) = p.vo ++ bif (md f).bor then [] else frz lk' p.fr := by rw [frz_ag h j1]
      rw [← hwr]
      generalize hw : (p.vo ++ bif (md f).bor then [] else frz lk p.fr) = wr
      have h2 : Ag S (updO lk wr) (updO lk' wr) := by
        refine updO_ag h fun n cs fz hm m hm2 => ?_
        rw [← hw] at hm
        rcases List.mem_append.1 hm with hm | hm
        · obtain ⟨sz, e⟩ := j3 n _ hm; cases e
        · cases hbo : (md f).bor with
          | true => rw [hbo] at hm; cases hm
          | false =>
            rw [hbo] at hm
            obtain ⟨q1, y, q2, q3⟩ := frz_mem hm
            cases y with
            | row => cases q3
            | box cs' fz' => injection q3 with q3 _; subst q3; exact h.cl n _ _ (j1 n q1) q2 m hm2
      obtain ⟨k1, k2⟩ := reach_ag h2 2 (l := nub p.own []) fun m hm => (mem_nub hm).elim (fun hm => (j2 m hm).elim id fun hm => hd m (hsl m hm)) fun hm => by cases hm
      rw [← k1]
      generalize reach (updO lk wr) 2 (nub p.own []) = ns at k2
      unfold sCall.callN
      have hr : ∀ o o', look (numFrom 0 ns) o = some o' → updO lk wr o = updO lk' wr o := fun o o' ho => h2.eq o (k2 o (numFrom_mem (look_mem ho)).1)
      rw [newTag_ag h2 k2, goRen_congr hr, renO_congr hr _ fun o o' hm => h2.eq o (k2 o (numFrom_mem hm).1)]
      congr 2
      funext r ob
      unfold sCall.back sCall.backR
      have hg : gB (updO lk wr) ns (nm d 31) = gB (updO lk' wr) ns (nm d 31) := by
        funext k c
        unfold gB
        cases hk : ns[k]? with
        | none => rfl
        | some n => simp only [h2.eq n (k2 n (List.mem_of_getElem? hk))]
      rw [← hg]
      cases hb2 : slotB d (snds (numFrom (nm d 0) (above ns.length (keys ob)))) with
      | false => simp
      | true =>
        have hsl2 := slotB_mem hb2
        rw [freshB_ag h2 (l := snds (numFrom (nm d 0) (above ns.length (keys ob)))) fun m hm => hd m (hsl2 m hm)]
        rw [oldTags_ag h2 (l := renO (numTo 0 ns ++ numFrom (nm d 0) (above ns.length (keys ob))) (gB (updO lk wr) ns (nm d 31)) (look ob) (numTo 0 ns ++ numFrom (nm d 0) (above ns.length (keys ob)))) fun m hm => by
          have := renO_names hm
          rw [List.map_append, List.mem_append] at this
          rcases this with q | q
          · rw [numTo_swap, List.map_map] at q
            have q2 : m ∈ (numFrom 0 ns).map (·.1) := q
            rw [fst_numFrom] at q2
            exact k2 m q2
          · rw [← snds_map] at q
            exact hd m (hsl2 m q)]

end Go.TL

/- TlAB -/
namespace Go.TL
open Go

variable {S : Nat → Prop} {lk lk' : OF} {tab : TF} {md : MF} {ρ ρ' : Operand → Option A} {ar : Ar}

theorem new_ag (h : Ag S lk lk') {n : Nat} (hn : S n) {x : Ob} {a : A} : SR.new lk n x a = SR.new lk' n x a := by unfold SR.new; rw [h.eq n hn]
theorem OS.refs {v : V} (h : OS S (some (.one v))) : ∀ m, m ∈ v.refs → S m := fun m hm => h _ rfl m hm
theorem sLoad_ag (h : Ag S lk lk') {t : Nat} {a : Option A} (ha : OS S a) : sLoad tab t lk a = sLoad tab t lk' a := by
  match a, ha with
  | some (.one (.ptr o off)), ha => simp only [sLoad, h.eq o (ha.refs o (by simp [V.refs]))]
  | some (.one (.elt o g i j)), ha => simp only [sLoad, h.eq o (ha.refs o (by simp [V.refs]))]
  | some (.one (.t c)), _ => cases c <;> rfl
  | some (.one .nil), _ => rfl
  | some (.one .any), _ => rfl
  | some (.one (.row _ _)), _ => rfl
  | some (.one (.fn _ _ _)), _ => rfl
  | some (.one (.bsl _ _ _)), _ => rfl
  | some (.one (.part _ _ _ _)), _ => rfl
  | some (.one (.sub _ _ _ _)), _ => rfl
  | some (.one (.selt o g i j k)), ha => simp only [sLoad, h.eq o (ha.refs o (by simp [V.refs]))]
  | some (.agg _), _ => rfl
  | some (.tup _), _ => rfl
  | none, _ => rfl
theorem sStore_ag (h : Ag S lk lk') {t : Nat} {a b : Option A} (ha : OS S a) : sStore ar tab t lk a b = sStore ar tab t lk' a b := by
  match a, ha with
  | some (.one (.ptr o off)), ha => cases b with
    | none => rfl
    | some y => simp only [sStore, h.eq o (ha.refs o (by simp [V.refs]))]
  | some (.one (.elt o g i j)), ha => cases b with
    | none => rfl
    | some y => simp only [sStore, h.eq o (ha.refs o (by simp [V.refs]))]
  | some (.one (.t c)), _ => rfl
  | some (.one .nil), _ => rfl
  | some (.one .any), _ => rfl
  | some (.one (.row _ _)), _ => rfl
  | some (.one (.fn _ _ _)), _ => rfl
  | some (.one (.bsl _ _ _)), _ => rfl
  | some (.one (.part _ _ _ _)), _ => rfl
  | some (.one (.sub _ _ _ _)), _ => rfl
  | some (.one (.selt o g i j k)), ha =>
    rcases b with _ | (v | vs | l) <;> try rfl
    cases v <;> try rfl
    rename_i c
    cases c <;> try rfl
    simp only [sStore, h.eq o (ha.refs o (by simp [V.refs]))]
  | some (.agg _), _ => rfl
  | some (.tup _), _ => rfl
  | none, _ => rfl
theorem sFieldAddr_ag (h : Ag S lk lk') {t f : Nat} {a : Option A} (ha : OS S a) : sFieldAddr tab t f lk a = sFieldAddr tab t f lk' a := by
  match a, ha with
  | some (.one (.elt o g i j)), ha => simp only [sFieldAddr, h.eq o (ha.refs o (by simp [V.refs]))]
  | some (.one (.ptr o off)), _ => rfl
  | some (.one (.t c)), _ => cases c <;> rfl
  | some (.one .nil), _ => rfl
  | some (.one .any), _ => rfl
  | some (.one (.row _ _)), _ => rfl
  | some (.one (.fn _ _ _)), _ => rfl
  | some (.one (.bsl _ _ _)), _ => rfl
  | some (.one (.part _ _ _ _)), _ => rfl
  | some (.one (.sub _ _ _ _)), _ => rfl
  | some (.one (.selt _ _ _ _ _)), _ => rfl
  | some (.agg _), _ => rfl
  | some (.tup _), _ => rfl
  | none, _ => rfl
theorem sIndexAddr_ag (h : Ag S lk lk') {t : Nat} {a b : Option A} (ha : OS S a) : sIndexAddr ar tab t lk a b = sIndexAddr ar tab t lk' a b := by
  match a, ha with
  | some (.one (.row o g)), ha =>
    rcases b with _ | (v | vs | l) <;> try rfl
    cases v <;> try rfl
    rename_i c
    cases c <;> try rfl
    simp only [sIndexAddr, h.eq o (ha.refs o (by simp [V.refs]))]
  | some (.one (.elt o g i j)), ha => rfl
  | some (.one (.ptr o off)), _ =>
    rcases b with _ | (v | vs | l) <;> try rfl
    cases v <;> try rfl
    rename_i c
    cases c <;> rfl
  | some (.one (.t c)), _ =>
    rcases b with _ | (v | vs | l) <;> cases c <;> try rfl
    all_goals (cases v <;> try rfl)
    all_goals (rename_i c; cases c <;> rfl)
  | some (.one .nil), _ => rfl
  | some (.one .any), _ => rfl
  | some (.one (.fn _ _ _)), _ => rfl
  | some (.one (.bsl _ _ _)), _ => rfl
  | some (.one (.part _ _ _ _)), _ => rfl
  | some (.one (.sub _ _ _ _)), _ => rfl
  | some (.one (.selt _ _ _ _ _)), _ => rfl
  | some (.agg _), _ => rfl
  | some (.tup _), _ => rfl
  | none, _ => rfl
theorem sIndexAddr2_ag (h : Ag S lk lk') {t : Nat} {a b : Option A} (ha : OS S a) : sIndexAddr2 ar tab t lk a b = sIndexAddr2 ar tab t lk' a b := by
  have e := sIndexAddr_ag (ar := ar) (tab := tab) h (t := t) (a := a) (b := b) ha
  unfold sIndexAddr2
  split
  · rfl
  · exact e
theorem sIndexAddr3_ag (h : Ag S lk lk') {t : Nat} {a b : Option A} (ha : OS S a) : sIndexAddr3 ar tab t lk a b = sIndexAddr3 ar tab t lk' a b := by
  have e := sIndexAddr2_ag (ar := ar) (tab := tab) h (t := t) (a := a) (b := b) ha
  match a, ha with
  | some (.one (.elt o g i j)), ha =>
    rcases b with _ | (v | vs | l) <;> try exact e
    cases v <;> try exact e
    rename_i c
    cases c <;> try exact e
    simp only [sIndexAddr3, h.eq o (ha.refs o (by simp [V.refs]))]
  | some (.one (.row _ _)), _ => exact e
  | some (.one (.ptr _ _)), _ => exact e
  | some (.one (.t _)), _ => exact e
  | some (.one .nil), _ => exact e
  | some (.one .any), _ => exact e
  | some (.one (.fn _ _ _)), _ => exact e
  | some (.one (.bsl _ _ _)), _ => exact e
  | some (.one (.part _ _ _ _)), _ => exact e
  | some (.one (.sub _ _ _ _)), _ => exact e
  | some (.one (.selt _ _ _ _ _)), _ => exact e
  | some (.agg _), _ => exact e
  | some (.tup _), _ => exact e
  | none, _ => exact e
theorem bnd_cg {x : Option Operand} {d : Int} (h : ∀ y, x = some y → ρ y = ρ' y) : bnd ρ x d = bnd ρ' x d := by
  cases x with
  | none => rfl
  | some y => simp only [bnd, h y rfl]
theorem sSliceT_cg {t : Nat} {lo hi mx : Option Operand} {wr : Obs} {es : List (List T)} (h1 : ∀ y, lo = some y → ρ y = ρ' y) (h2 : ∀ y, hi = some y → ρ y = ρ' y) (h3 : ∀ y, mx = some y → ρ y = ρ' y) :
    sSliceT ar tab t ρ lo hi mx wr es = sSliceT ar tab t ρ' lo hi mx wr es := by
  unfold sSliceT
  rw [bnd_cg h1, bnd_cg (x := hi) h2]
  cases sliceOf tab t with
  | none => rfl
  | some e =>
    simp only
    cases tab e with
    | none => rfl
    | some te =>
      simp only
      cases bnd ρ' lo 0 <;> cases bnd ρ' hi (ar.len es) <;> cases mx <;> try rfl
      rename_i m
      have h3' : ∀ y, some m = some y → ρ y = ρ' y := h3
      simp only [bnd_cg (x := some m) h3']
theorem sSlice_ag (h : Ag S lk lk') {t : Nat} {lo hi mx : Option Operand} {a : Option A} (ha : OS S a) (h1 : ∀ y, lo = some y → ρ y = ρ' y) (h2 : ∀ y, hi = some y → ρ y = ρ' y) (h3 : ∀ y, mx = some y → ρ y = ρ' y) :
    sSlice ar tab t lk ρ lo hi mx a = sSlice ar tab t lk' ρ' lo hi mx a := by
  match a, ha with
  | none, _ => rfl
  | some (.agg _), _ => rfl
  | some (.tup _), _ => rfl
  | some (.one v), ha =>
    have ht := V.tree_ag h (v := v) ha.refs
    have hf := frz_ag h (l := v.refs) ha.refs
    by_cases hs : ∃ s, v = .t (.str s)
    · obtain ⟨s, rfl⟩ := hs
      simp only [sSlice, bnd_cg h1, bnd_cg (x := hi) h2]
    · have e : ∀ (lk : OF) (ρ : Operand → Option A), sSlice ar tab t lk ρ lo hi mx (some (.one v)) = (match v.tree lk with | some (.sl es) => sSliceT ar tab t ρ lo hi mx (frz lk v.refs) es | _ => .bad) := by
        intro lk ρ
        cases v with
        | t c => cases c <;> first | rfl | exact absurd ⟨_, rfl⟩ hs
        | _ => rfl
      rw [e, e, ← ht, ← hf]
      split
      · exact sSliceT_cg h1 h2 h3
      · rfl
theorem sPart_ag (h : Ag S lk lk') {t : Nat} {lo hi mx : Option Operand} {a : Option A} (ha : OS S a) (h1 : ∀ y, lo = some y → ρ y = ρ' y) (h2 : ∀ y, hi = some y → ρ y = ρ' y) :
    sPart ar tab t lk ρ lo hi mx a = sPart ar tab t lk' ρ' lo hi mx a := by
  match a, ha with
  | some (.one (.row o g)), ha => simp only [sPart, h.eq o (ha.refs o (by simp [V.refs])), bnd_cg h1, bnd_cg (x := hi) h2]
  | some (.one (.elt o g i j)), _ => rfl
  | some (.one (.ptr o off)), _ => rfl
  | some (.one (.t c)), _ => rfl
  | some (.one .nil), _ => rfl
  | some (.one .any), _ => rfl
  | some (.one (.fn _ _ _)), _ => rfl
  | some (.one (.bsl _ _ _)), _ => rfl
  | some (.one (.part _ _ _ _)), _ => rfl
  | some (.one (.sub _ _ _ _)), _ => rfl
  | some (.one (.selt _ _ _ _ _)), _ => rfl
  | some (.agg _), _ => rfl
  | some (.tup _), _ => rfl
  | none, _ => rfl
theorem sMark_ag (h : Ag S lk lk') {e dst src : Nat} {v : V} (hv : ∀ n, n ∈ v.refs → S n) : sMark ar tab e dst src lk v = sMark ar tab e dst src lk' v := by
  cases v with
  | row o g => simp only [sMark, h.eq o (hv o (by simp [V.refs]))]
  | _ => rfl
theorem sConv_ag (h : Ag S lk lk') {n dst src : Nat} (hn : S n) {a : Option A} (ha : OS S a) : sConv ar tab n dst src lk a = sConv ar tab n dst src lk' a := by
  match a, ha with
  | none, _ => unfold sConv; split <;> simp_all
  | some (.agg _), _ => unfold sConv; split <;> simp_all
  | some (.tup _), _ => unfold sConv; split <;> simp_all
  | some (.one v), ha =>
    have ht := V.tree_ag h (v := v) ha.refs
    unfold sConv
    cases tab src with
    | none => rfl
    | some ti => cases tab dst with
      | none => rfl
      | some ti' => simp only [← ht, new_ag h hn, sMark_ag h (v := v) ha.refs]
theorem sLen_ag (h : Ag S lk lk') {t : Nat} {a : Option A} (ha : OS S a) : sLen ar tab t lk a = sLen ar tab t lk' a := by
  match a, ha with
  | some (.one (.row o g)), ha => simp only [sLen, h.eq o (ha.refs o (by simp [V.refs]))]
  | some (.one (.elt o g i j)), ha => rfl
  | some (.one (.ptr o off)), _ => rfl
  | some (.one (.t c)), _ => cases c <;> rfl
  | some (.one .nil), _ => rfl
  | some (.one .any), _ => rfl
  | some (.one (.fn _ _ _)), _ => rfl
  | some (.one (.bsl _ _ _)), _ => rfl
  | some (.one (.part _ _ _ _)), _ => rfl
  | some (.one (.sub _ _ _ _)), _ => rfl
  | some (.one (.selt _ _ _ _ _)), _ => rfl
  | some (.agg _), _ => rfl
  | some (.tup _), _ => rfl
  | none, _ => rfl
theorem srcOf_ag (h : Ag S lk lk') {a : Option A} (ha : OS S a) : srcOf ar lk a = srcOf ar lk' a := by
  match a, ha with
  | none, _ => rfl
  | some (.agg _), _ => rfl
  | some (.tup _), _ => rfl
  | some (.one v), ha =>
    have ht := V.tree_ag h (v := v) ha.refs
    cases v with
    | t c => cases c <;> rfl
    | part o g i j => simp only [srcOf, h.eq o (ha.refs o (by simp [V.refs]))]
    | row o g => simp only [srcOf, h.eq o (ha.refs o (by simp [V.refs]))]
    | _ => simp only [srcOf, ← ht]
theorem sAppend_ag (h : Ag S lk lk') {t u n : Nat} (hn : S n) {a b : Option A} (ha : OS S a) (hb : OS S b) : sAppend ar tab t u n lk a b = sAppend ar tab t u n lk' a b := by
  unfold sAppend
  rw [← srcOf_ag h hb]
  match a, ha with
  | some (.one (.row o g)), ha => simp only [h.eq o (ha.refs o (by simp [V.refs]))]
  | some (.one (.part o g i j)), ha => simp only [h.eq o (ha.refs o (by simp [V.refs]))]
  | some (.one (.sub _ _ _ _)), _ => rfl
  | some (.one (.selt _ _ _ _ _)), _ => rfl
  | some (.one .nil), _ => simp only [new_ag h hn]
  | some (.one (.elt o g i j)), ha => rfl
  | some (.one (.ptr o off)), _ => rfl
  | some (.one (.t c)), _ => rfl
  | some (.one .any), _ => rfl
  | some (.one (.fn _ _ _)), _ => rfl
  | some (.one (.bsl _ _ _)), _ => rfl
  | some (.agg _), _ => rfl
  | some (.tup _), _ => rfl
  | none, _ => rfl
theorem sMake_ag (h : Ag S lk lk') {t n : Nat} (hn : S n) {a b : Option A} : sMake ar tab t n lk a b = sMake ar tab t n lk' a b := by
  unfold sMake
  simp only [new_ag h hn]
theorem cells_refs {a : A} {vs : List V} (h : a.cells = some vs) (ha : AS S a) : ∀ m, m ∈ vrefs vs → S m := fun m hm => ha m (by rw [vrefs_cells h] at hm; exact hm)
theorem elemsOf_ag (h : Ag S lk lk') {sz : Nat} : ∀ {ps : List (Nat × Option A)} {k : Nat}, (∀ p, p ∈ ps → OS S p.2) → elemsOf lk sz k ps = elemsOf lk' sz k ps
  | [], k, _ => rfl
  | (i, none) :: r, k, _ => rfl
  | (i, some a) :: r, k, hs => by
    have h1 := elemsOf_ag h (sz := sz) (ps := r) (k := k + 1) fun p hp => hs p (.tail _ hp)
    simp only [elemsOf, h1]
    cases hc : a.cells with
    | none => rfl
    | some vs =>
      have := trees_ag h (l := vs) (cells_refs hc (hs (i, some a) (.head _) a rfl))
      simp only [this]
theorem refsOf_S : ∀ {ps : List (Nat × Option A)}, (∀ p, p ∈ ps → OS S p.2) → ∀ m, m ∈ refsOf ps → S m
  | [], _, m, h => by cases h
  | (i, none) :: r, hs, m, h => refsOf_S (ps := r) (fun p hp => hs p (.tail _ hp)) m h
  | (i, some a) :: r, hs, m, h => by
    rcases List.mem_append.1 h with h | h
    · exact hs (i, some a) (.head _) a rfl m h
    · exact refsOf_S (ps := r) (fun p hp => hs p (.tail _ hp)) m h
theorem sBuildSlice_ag (h : Ag S lk lk') {t n len : Nat} (hn : S n) {ps : List (Nat × Option A)} (hs : ∀ p, p ∈ ps → OS S p.2) : sBuildSlice tab t n len lk ps = sBuildSlice tab t n len lk' ps := by
  unfold sBuildSlice
  simp only [elemsOf_ag h hs, h.eq n hn, frz_ag h (refsOf_S hs), sBuildBox, new_ag h hn]

theorem argsOf_cg : ∀ {xs : List Operand}, (∀ x, x ∈ xs → ρ x = ρ' x) → argsOf ρ xs = argsOf ρ' xs
  | [], _ => rfl
  | x :: r, h => by simp only [argsOf, h x (.head _), argsOf_cg (xs := r) fun y hy => h y (.tail _ hy)]
theorem argsOf_S : ∀ {xs : List Operand} {l : List A}, (∀ x, x ∈ xs → OS S (ρ x)) → argsOf ρ xs = some l → ∀ a, a ∈ l → AS S a
  | [], l, _, h, a, ha => by simp [argsOf] at h; subst h; cases ha
  | x :: r, l, hs, h, a, ha => by
    unfold argsOf at h
    split at h
    · rename_i v q hv hq
      injection h with h; subst h
      rcases List.mem_cons.1 ha with e | ha
      · subst e; exact hs x (.head _) _ hv
      · exact argsOf_S (xs := r) (fun y hy => hs y (.tail _ hy)) hq a ha
    · cases h
theorem capsOf_cg : ∀ {xs : List Operand}, (∀ x, x ∈ xs → ρ x = ρ' x) → capsOf ρ xs = capsOf ρ' xs
  | [], _ => rfl
  | x :: r, h => by simp only [capsOf, h x (.head _), capsOf_cg (xs := r) fun y hy => h y (.tail _ hy)]
theorem firstsOf_cg : ∀ {xs : List Operand}, (∀ x, x ∈ xs → ρ x = ρ' x) → firstsOf ρ xs = firstsOf ρ' xs
  | [], _ => rfl
  | x :: r, h => by simp only [firstsOf, h x (.head _), firstsOf_cg (xs := r) fun y hy => h y (.tail _ hy)]
theorem firstA_S : ∀ {l : List (List T)} {a : A}, a ∈ firstA l → AS S a
  | [], a, h => by cases h
  | c :: r, a, h => by
    rcases List.mem_cons.1 h with e | h
    · subst e
      intro m hm
      obtain ⟨v, hv, hv2⟩ := mem_vrefs (show m ∈ vrefs (tV c) from hm)
      obtain ⟨i, hi⟩ := List.getElem?_of_mem hv
      rw [tV_get] at hi
      cases ht : c[i]? with
      | none => rw [ht] at hi; cases hi
      | some t => rw [ht] at hi; injection hi with hi; subst hi; cases hv2
    · exact firstA_S h
theorem capT_S : ∀ {l : List T} {a : A}, a ∈ capT l → AS S a
  | [], a, h => by cases h
  | c :: r, a, h => by
    rcases List.mem_cons.1 h with e | h
    · subst e; intro m hm; cases hm
    · exact capT_S h
theorem capA_S : ∀ {l : List Cap} {a : A}, (∀ m, m ∈ crefs l → S m) → a ∈ capA l → AS S a
  | [], a, _, h => by cases h
  | .t c :: r, a, hs, h => by
    rcases List.mem_cons.1 h with e | h
    · subst e; intro m hm; cases hm
    · exact capA_S (l := r) hs h
  | .ptr o off :: r, a, hs, h => by
    rcases List.mem_cons.1 h with e | h
    · subst e
      intro m hm
      simp only [A.refs, V.refs, List.mem_singleton] at hm
      subst hm; exact hs m (.head _)
    · exact capA_S (l := r) (fun m hm => hs m (.tail _ hm)) h

theorem stepE_no {ρ ρ' : Operand → Option A} {lk lk' : OF} {d ty : Nat} {op : Op} (hn : noLk op = true) (hρ : ∀ x, x ∈ op.operands.toList → ρ x = ρ' x) :
    stepE std tab md d op ty ρ lk = stepE std tab md d op ty ρ' lk' := by
  cases op <;> try (cases hn; done)
  case move x => simp only [stepE, hρ x (by simp [Op.operands])]
  case assign x => simp only [stepE, hρ x (by simp [Op.operands])]
  case pick c x y => simp only [stepE, hρ c (by simp [Op.operands]), hρ x (by simp [Op.operands]), hρ y (by simp [Op.operands])]
  case build t parts =>
    have : (parts.toList.map fun p => (p.1, ρ p.2)) = parts.toList.map fun p => (p.1, ρ' p.2) := List.map_congr_left fun p hp => by rw [hρ p.2 (by simp [Op.operands]; exact ⟨p.1, by simpa using hp⟩)]
    simp only [stepE, this]
  case extract x i => simp only [stepE, hρ x (by simp [Op.operands])]
  case field t x f => simp only [stepE, hρ x (by simp [Op.operands])]
  case binOp o t x y k => simp only [stepE, hρ x (by simp [Op.operands]), hρ y (by simp [Op.operands])]
  case unOp o t x => simp only [stepE, hρ x (by simp [Op.operands])]
theorem absC_ag : ∀ {vs : List V}, (∀ m, m ∈ vrefs vs → lk m = lk' m) → absC lk vs = absC lk' vs
  | [], _ => rfl
  | v :: r, hs => by
    have h1 := absC_ag (vs := r) fun m hm => hs m (List.mem_append_right _ hm)
    simp only [absC, h1]
    cases v with
    | row o g => simp only [hs o (List.mem_append_left _ (by simp [V.refs]))]
    | _ => rfl
theorem absC_refs : ∀ {vs : List V} {a : Abs}, absC lk vs = some a → ∀ m, m ∈ a.cs → m ∈ vrefs vs
  | [], a, h, m, hm => by simp only [absC] at h; injection h with h; subst h; cases hm
  | v :: r, a, h, m, hm => by
    unfold absC at h
    split at h
    · cases h
    rename_i b hb
    have ih := absC_refs hb
    split at h
    · rename_i c
      cases hf : flatT c with
      | false => rw [hf] at h; cases h
      | true => rw [hf] at h; injection h with h; subst h; exact List.mem_append_right _ (ih m hm)
    · injection h with h; subst h; exact List.mem_append_right _ (ih m hm)
    · rename_i o g
      split at h
      · rename_i sz es cur tags hob
        cases hg : eqB g cur with
        | false => rw [hg] at h; cases h
        | true =>
          rw [hg] at h
          simp only [cond_true] at h
          have key : a.cs = o :: b.cs := by
            split at h
            · injection h with h; subst h; rfl
            · injection h with h; subst h; rfl
          rw [key] at hm
          rcases List.mem_cons.1 hm with q | q
          · subst q; exact List.mem_append_left _ (by simp [V.refs])
          · exact List.mem_append_right _ (ih m q)
      · cases h
    · cases h
theorem newTag_cg {g : Nat} : ∀ {l : List Nat}, (∀ m, m ∈ l → lk m = lk' m) → newTag lk g l = newTag lk' g l
  | [], _ => rfl
  | n :: r, h => by simp only [newTag, h n (by simp), newTag_cg (l := r) fun m hm => h m (by simp [hm])]
theorem sStoreD_ag (h : Ag S lk lk') {t n : Nat} {a b : Option A} (ha : OS S a) (hb : OS S b) : sStoreD ar tab t n lk a b = sStoreD ar tab t n lk' a b := by
  have e := sStore_ag (ar := ar) (tab := tab) h (t := t) (a := a) (b := b) ha
  match a, ha with
  | some (.one (.elt o g i j)), ha =>
    cases b with
    | none => exact e
    | some y =>
      have e2 : sStore ar tab t lk (some (.one (.elt o g i j))) (some y) = sStore ar tab t lk' (some (.one (.elt o g i j))) (some y) := e
      simp only [sStoreD, e2, h.eq o (ha.refs o (by simp [V.refs]))]
      cases tab t with
      | none => rfl
      | some ti =>
      cases lk' o with
      | none => rfl
      | some z =>
      cases z with
      | box => rfl
      | row sz es cur tags fz =>
      cases fz with
      | true => rfl
      | false =>
      cases hv : y.cells with
      | none => rfl
      | some vs =>
        have hr : ∀ m, m ∈ vrefs vs → lk m = lk' m := fun m hm => h.eq m (cells_refs hv (hb y rfl) m hm)
        simp only
        rw [← absC_ag hr]
        cases hA : absC lk vs with
        | none => rfl
        | some q =>
          have hq : ∀ m, m ∈ q.cs → lk m = lk' m := fun m hm => hr m (absC_refs hA m hm)
          simp only [tomb_congr hq, newTag_cg hq]
  | some (.one (.t c)), _ => exact e
  | some (.one .nil), _ => exact e
  | some (.one .any), _ => exact e
  | some (.one (.row _ _)), _ => exact e
  | some (.one (.ptr _ _)), _ => exact e
  | some (.one (.fn _ _ _)), _ => exact e
  | some (.one (.bsl _ _ _)), _ => exact e
  | some (.one (.part _ _ _ _)), _ => exact e
  | some (.one (.sub _ _ _ _)), _ => exact e
  | some (.one (.selt _ _ _ _ _)), _ => exact e
  | some (.agg _), _ => exact e
  | some (.tup _), _ => exact e
  | none, _ => exact e
theorem sIndexAddrD_ag (h : Ag S lk lk') {t : Nat} {a b : Option A} (ha : OS S a) : sIndexAddrD ar tab t lk a b = sIndexAddrD ar tab t lk' a b := by
  have e := sIndexAddr3_ag (ar := ar) (tab := tab) h (t := t) (a := a) (b := b) ha
  match a, ha with
  | some (.one (.row o g)), ha =>
    rcases b with _ | (v | vs | l) <;> try exact e
    cases v <;> try exact e
    rename_i c
    cases c <;> try exact e
    simp only [sIndexAddrD, h.eq o (ha.refs o (by simp [V.refs])), e]
  | some (.one (.sub o g i j)), ha =>
    rcases b with _ | (v | vs | l) <;> try exact e
    cases v <;> try exact e
    rename_i c
    cases c <;> try exact e
    simp only [sIndexAddrD, h.eq o (ha.refs o (by simp [V.refs]))]
  | some (.one (.elt _ _ _ _)), _ => exact e
  | some (.one (.ptr _ _)), _ => exact e
  | some (.one (.t _)), _ => exact e
  | some (.one .nil), _ => exact e
  | some (.one .any), _ => exact e
  | some (.one (.fn _ _ _)), _ => exact e
  | some (.one (.bsl _ _ _)), _ => exact e
  | some (.one (.part _ _ _ _)), _ => exact e
  | some (.one (.selt _ _ _ _ _)), _ => exact e
  | some (.agg _), _ => exact e
  | some (.tup _), _ => exact e
  | none, _ => exact e
theorem sMakeD_ag (h : Ag S lk lk') {t n : Nat} (hn : S n) {a b : Option A} : sMakeD ar tab t n lk a b = sMakeD ar tab t n lk' a b := by
  unfold sMakeD
  simp only [new_ag h hn]
theorem sAppendD_ag (h : Ag S lk lk') {t u n : Nat} (hn : S n) {a b : Option A} (ha : OS S a) (hb : OS S b) : sAppendD ar tab t u n lk a b = sAppendD ar tab t u n lk' a b := by
  match b, hb with
  | some (.one (.bsl o k sz)), hb =>
    have ho := hb.refs o (by simp [V.refs])
    have ho' := h.eq o ho
    have hn' := h.eq n hn
    simp only [sAppendD]
    cases sliceOf tab t with
    | none => rfl
    | some e =>
      simp only
      rw [← ho', ← hn']
      cases tab e with
      | none => rfl
      | some te =>
        cases hob : lk o with
        | none => rfl
        | some x => cases x with
          | row => rfl
          | box cs fz =>
            simp only
            have hr : ∀ m, m ∈ vrefs cs → lk m = lk' m := fun m hm => h.eq m (h.cl o cs fz ho hob m hm)
            rw [← absC_ag hr]
            cases hA : absC lk cs with
            | none => rfl
            | some q =>
              have hq : ∀ m, m ∈ q.cs → lk m = lk' m := fun m hm => hr m (absC_refs hA m hm)
              simp only [tomb_congr hq, newTag_cg hq]
              match a, ha with
              | some (.one (.row o2 g)), ha => simp only [h.eq o2 (ha.refs o2 (by simp [V.refs]))]
              | some (.one .nil), _ => rfl
              | some (.one (.elt _ _ _ _)), _ => rfl
              | some (.one (.ptr _ _)), _ => rfl
              | some (.one (.t _)), _ => rfl
              | some (.one .any), _ => rfl
              | some (.one (.fn _ _ _)), _ => rfl
              | some (.one (.bsl _ _ _)), _ => rfl
              | some (.one (.part _ _ _ _)), _ => rfl
              | some (.one (.sub _ _ _ _)), _ => rfl
              | some (.one (.selt _ _ _ _ _)), _ => rfl
              | some (.agg _), _ => rfl
              | some (.tup _), _ => rfl
              | none, _ => rfl
  | some (.one (.row _ _)), _ => simp only [sAppendD]; cases sliceOf tab t <;> rfl
  | some (.one .nil), _ => simp only [sAppendD]; cases sliceOf tab t <;> rfl
  | some (.one (.elt _ _ _ _)), _ => simp only [sAppendD]; cases sliceOf tab t <;> rfl
  | some (.one (.ptr _ _)), _ => simp only [sAppendD]; cases sliceOf tab t <;> rfl
  | some (.one (.t _)), _ => simp only [sAppendD]; cases sliceOf tab t <;> rfl
  | some (.one .any), _ => simp only [sAppendD]; cases sliceOf tab t <;> rfl
  | some (.one (.fn _ _ _)), _ => simp only [sAppendD]; cases sliceOf tab t <;> rfl
  | some (.one (.part _ _ _ _)), _ => simp only [sAppendD]; cases sliceOf tab t <;> rfl
  | some (.one (.sub _ _ _ _)), _ => simp only [sAppendD]; cases sliceOf tab t <;> rfl
  | some (.one (.selt _ _ _ _ _)), _ => simp only [sAppendD]; cases sliceOf tab t <;> rfl
  | some (.agg _), _ => simp only [sAppendD]; cases sliceOf tab t <;> rfl
  | some (.tup _), _ => simp only [sAppendD]; cases sliceOf tab t <;> rfl
  | none, _ => simp only [sAppendD]; cases sliceOf tab t <;> rfl
theorem sCallSub_ag (h : Ag S lk lk') {f : Nat} {l : List A} (hl : ∀ a, a ∈ l → AS S a) : sCallSub ar md lk f l = sCallSub ar md lk' f l := by
  cases l with
  | nil => rfl
  | cons a r =>
    have ha : AS S a := hl a (by simp)
    cases a with
    | one v => cases v with
      | sub o g i j => simp only [sCallSub, h.eq o (ha o (by simp [A.refs, V.refs]))]
      | _ => rfl
    | _ => rfl
theorem stepE_ag (h : Ag S lk lk') {d ty : Nat} {op : Op} (hd : ∀ n, n / 32 = d + 1 → S n) (hρ : ∀ x, x ∈ op.operands.toList → ρ x = ρ' x) (hs : ∀ x, x ∈ op.operands.toList → OS S (ρ x)) :
    stepE std tab md d op ty ρ lk = stepE std tab md d op ty ρ' lk' := by
  have hn : S (nm d 0) := hd _ (by simp [nm])
  cases op <;> try rfl
  case move x => simp only [stepE, hρ x (by simp [Op.operands])]
  case assign x => simp only [stepE, hρ x (by simp [Op.operands])]
  case pick c x y => simp only [stepE, hρ c (by simp [Op.operands]), hρ x (by simp [Op.operands]), hρ y (by simp [Op.operands])]
  case alloc t => simp only [stepE, sAllocArr, new_ag h hn]
  case box t x => simp only [stepE, hρ x (by simp [Op.operands]), new_ag h hn]
  case build t parts =>
    have : (parts.toList.map fun p => (p.1, ρ p.2)) = parts.toList.map fun p => (p.1, ρ' p.2) := List.map_congr_left fun p hp => by rw [hρ p.2 (by simp [Op.operands]; exact ⟨p.1, by simpa using hp⟩)]
    simp only [stepE, this]
  case buildSlice t len parts =>
    have e : (parts.toList.map fun p => (p.1, ρ p.2)) = parts.toList.map fun p => (p.1, ρ' p.2) := List.map_congr_left fun p hp => by rw [hρ p.2 (by simp [Op.operands]; exact ⟨p.1, by simpa using hp⟩)]
    simp only [stepE, ← e]
    split
    · refine sBuildSlice_ag h hn fun p hp => ?_
      obtain ⟨q, hq, rfl⟩ := List.mem_map.1 hp
      exact hs q.2 (by simp [Op.operands]; exact ⟨q.1, by simpa using hq⟩)
    · simp only [sBuildSliceB, sBuildBox, new_ag h hn]
  case load t x => simp only [stepE, ← hρ x (by simp [Op.operands])]; exact sLoad_ag h (hs x (by simp [Op.operands]))
  case store t x y => simp only [stepE, ← hρ x (by simp [Op.operands]), ← hρ y (by simp [Op.operands])]; exact sStoreD_ag h (hs x (by simp [Op.operands])) (hs y (by simp [Op.operands]))
  case nilCheck x =>
    have hx := hs x (by simp [Op.operands])
    simp only [stepE, ← hρ x (by simp [Op.operands])]
    revert hx
    cases ρ x with
    | none => intro _; rfl
    | some a =>
      intro ha
      cases a with
      | one v => cases v with
        | elt o g i j => simp only [h.eq o (ha.refs o (by simp [V.refs]))]
        | t c => cases c <;> rfl
        | _ => rfl
      | _ => rfl
  case binOp op t x y yt => simp only [stepE, hρ x (by simp [Op.operands]), hρ y (by simp [Op.operands])]
  case unOp op t x => simp only [stepE, hρ x (by simp [Op.operands])]
  case convert s t x => simp only [stepE, ← hρ x (by simp [Op.operands])]; exact sConv_ag h hn (hs x (by simp [Op.operands]))
  case makeFunc fn first caps =>
    simp only [stepE]
    rw [firstsOf_cg (ρ' := ρ') fun x hx => hρ x (by simp [Op.operands]; exact .inl (by simpa using hx)), capsOf_cg (ρ' := ρ') fun x hx => hρ x (by simp [Op.operands]; exact .inr (by simpa using hx))]
  case makeSlice t x y => simp only [stepE, hρ x (by simp [Op.operands]), hρ y (by simp [Op.operands])]; split <;> first | exact sMake_ag h hn | exact sMakeD_ag h hn
  case slice t x lo hi mx =>
    simp only [stepE, ← hρ x (by simp [Op.operands])]
    split
    · refine sSlice_ag h (hs x (by simp [Op.operands])) (fun y hy => hρ y ?_) (fun y hy => hρ y ?_) (fun y hy => hρ y ?_)
      · subst hy; simp [Op.operands]
      · subst hy; simp [Op.operands]
      · subst hy; simp [Op.operands]
    · refine sPart_ag h (hs x (by simp [Op.operands])) (fun y hy => hρ y ?_) (fun y hy => hρ y ?_)
      · subst hy; simp [Op.operands]
      · subst hy; simp [Op.operands]
  case fieldAddr t x f => simp only [stepE, ← hρ x (by simp [Op.operands])]; exact sFieldAddr_ag h (hs x (by simp [Op.operands]))
  case field t x f => simp only [stepE, hρ x (by simp [Op.operands])]
  case indexAddr t x y => simp only [stepE, ← hρ x (by simp [Op.operands]), ← hρ y (by simp [Op.operands])]; exact sIndexAddrD_ag h (hs x (by simp [Op.operands]))
  case index t x y => simp only [stepE, hρ x (by simp [Op.operands]), hρ y (by simp [Op.operands])]
  case extract x i => simp only [stepE, hρ x (by simp [Op.operands])]
  case call c =>
    have hargs : ∀ x, x ∈ c.args.toList → ρ x = ρ' x := fun x hx => hρ x (by simp [Op.operands, Call.operands]; exact .inr (by simpa using hx))
    have hargsS : ∀ x, x ∈ c.args.toList → OS S (ρ x) := fun x hx => hs x (by simp [Op.operands, Call.operands]; exact .inr (by simpa using hx))
    simp only [stepE]
    cases hc : c.callee with
    | invoke r nm => rfl
    | builtin b =>
      cases b <;> try rfl
      case append =>
        simp only
        split
        · rename_i x y t u hx ht
          rw [← hargs x (by rw [hx]; simp), ← hargs y (by rw [hx]; simp)]
          split
          · exact sAppend_ag h hn (hargsS x (by rw [hx]; simp)) (hargsS y (by rw [hx]; simp))
          · exact sAppendD_ag h hn (hargsS x (by rw [hx]; simp)) (hargsS y (by rw [hx]; simp))
        · rfl
      case len =>
        simp only
        split
        · rename_i x t hx ht
          rw [← hargs x (by rw [hx]; simp)]
          exact sLen_ag h (hargsS x (by rw [hx]; simp))
        · rfl
      case max =>
        simp only
        split
        · rename_i x y hx
          rw [← hargs x (by rw [hx]; simp), ← hargs y (by rw [hx]; simp)]
        · rfl
      case min =>
        simp only
        split
        · rename_i x y hx
          rw [← hargs x (by rw [hx]; simp), ← hargs y (by rw [hx]; simp)]
        · rfl
    | value f =>
      simp only
      have hf := hs f (by simp [Op.operands, Call.operands, hc])
      rw [← hρ f (by simp [Op.operands, Call.operands, hc]), ← argsOf_cg hargs]
      split
      · rename_i g first caps hx
        split
        · rename_i l hl
          split
          · refine sCall_ag h hd fun a ha => ?_
            rcases List.mem_append.1 ha with ha | ha
            · exact firstA_S ha
            · rcases List.mem_append.1 ha with ha | ha
              · exact argsOf_S hargsS hl a ha
              · exact capT_S ha
          · split
            · exact sCallSub_ag h fun a ha => argsOf_S hargsS hl a ha
            · rfl
        · rfl
      · rename_i g first caps hx
        split
        · rename_i l hl
          refine sCall_ag h hd fun a ha => ?_
          rcases List.mem_append.1 ha with ha | ha
          · exact firstA_S ha
          · rcases List.mem_append.1 ha with ha | ha
            · exact argsOf_S hargsS hl a ha
            · refine capA_S (fun m hm => ?_) ha
              exact hf _ hx m hm
        · rfl
      · rfl

end Go.TL

/- TlAC -/
namespace Go.TL
open Go

variable {P : Program} {E : Env P} {ok : Nat → Prop} {hd : HF} {tm : Nat → Option A} {ob : OF} {w : World} {a : Act} {o : Oper} {tab : TF} {md : MF} {tmps : Array Value}

structure Rec where
  dst : Option Nat
  x : A
  wr : Obs
  G : Prop
def setO (tm : Nat → Option A) (dst : Option Nat) (x : A) : Nat → Option A := match dst with
  | some d => fun t => if t = d then some x else tm t
  | none => tm
def tmF (D : Nat → Bool) : Nat → List Rec → (Nat → Option A) → (Nat → Option A)
  | _, [], tm => tm
  | k, r :: rs, tm => tmF D (k + 1) rs (if D k then setO tm r.dst r.x else tm)
def obF (D : Nat → Bool) : Nat → List Rec → OF → OF
  | _, [], ob => ob
  | k, r :: rs, ob => obF D (k + 1) rs (if D k then updO ob r.wr else ob)

theorem setO_ne {tm : Nat → Option A} {dst : Option Nat} {x : A} {t : Nat} (h : dst ≠ some t) : setO tm dst x t = tm t := by
  cases dst with
  | none => rfl
  | some d =>
    have : t ≠ d := fun e => h (by rw [e])
    simp [setO, this]
theorem setO_eq {tm : Nat → Option A} {x : A} {t : Nat} : setO tm (some t) x t = some x := by simp [setO]
theorem tmF_agree {D D' : Nat → Bool} {t : Nat} : ∀ (rs : List Rec) (k : Nat) (tm tm' : Nat → Option A), (∀ (j : Nat) r, rs[j]? = some r → D (k + j) ≠ D' (k + j) → r.dst ≠ some t) → tm t = tm' t → tmF D k rs tm t = tmF D' k rs tm' t
  | [], _, _, _, _, h => h
  | r :: rs, k, tm, tm', h, h0 => by
    refine tmF_agree rs (k + 1) _ _ (fun j r' hj hne => h (j + 1) r' (by simpa using hj) (by rwa [show k + (j + 1) = k + 1 + j by omega])) ?_
    by_cases e : D k = D' k
    · rw [← e]
      cases D k with
      | false => exact h0
      | true =>
        simp only [if_true]
        cases hd : r.dst with
        | none => exact h0
        | some d => by_cases q : t = d <;> simp [setO, q, h0]
    · have := h 0 r rfl e
      have e1 : ∀ (b : Bool) (tm : Nat → Option A), (if b then setO tm r.dst r.x else tm) t = tm t := by
        intro b tm; cases b with
        | false => rfl
        | true => exact setO_ne this
      rw [e1, e1]; exact h0
theorem tmF_at {D : Nat → Bool} {t : Nat} : ∀ (rs : List Rec) (k i : Nat) (r : Rec) (tm : Nat → Option A), rs[i]? = some r → D (k + i) = true → r.dst = some t → (∀ (j : Nat) r', i < j → rs[j]? = some r' → D (k + j) = true → r'.dst ≠ some t) → tmF D k rs tm t = some r.x
  | [], _, i, _, _, h, _, _, _ => by simp at h
  | r0 :: rs, k, i, r, tm, h, hD, hd, hl => by
    cases i with
    | succ i => exact tmF_at rs (k + 1) i r _ (by simpa using h) (by rw [← hD]; congr 1; omega) hd fun j r' hj hr hDj => hl (j + 1) r' (by omega) (by simpa using hr) (by rw [← hDj]; congr 1; omega)
    | zero =>
      simp at h; subst h
      have hD' : D k = true := by simpa using hD
      simp only [tmF, hD', if_true]
      rw [tmF_agree (D' := fun _ => false) rs (k + 1) _ (setO tm r0.dst r0.x) (fun j r' hj hne => hl (j + 1) r' (by omega) (by simpa using hj) (by
        cases hq : D (k + 1 + j) with
        | false => exact absurd hq hne
        | true => rw [← hq]; congr 1; omega)) rfl]
      have none : ∀ (rs : List Rec) (k : Nat) (tm : Nat → Option A), tmF (fun _ => false) k rs tm = tm := by
        intro rs; induction rs with
        | nil => intro k tm; rfl
        | cons r rs ih => intro k tm; exact ih (k + 1) tm
      rw [none, hd, setO_eq]
theorem obF_agree {D D' : Nat → Bool} {n : Nat} : ∀ (rs : List Rec) (k : Nat) (ob ob' : OF), (∀ (j : Nat) r, rs[j]? = some r → D (k + j) ≠ D' (k + j) → n ∉ keys r.wr) → ob n = ob' n → obF D k rs ob n = obF D' k rs ob' n
  | [], _, _, _, _, h => h
  | r :: rs, k, ob, ob', h, h0 => by
    refine obF_agree rs (k + 1) _ _ (fun j r' hj hne => h (j + 1) r' (by simpa using hj) (by rwa [show k + (j + 1) = k + 1 + j by omega])) ?_
    by_cases e : D k = D' k
    · rw [← e]
      cases D k with
      | false => exact h0
      | true => simp [updO, h0]
    · have := h 0 r rfl e
      have e1 : ∀ (b : Bool) (ob : OF), (if b then updO ob r.wr else ob) n = ob n := by
        intro b ob; cases b with
        | false => rfl
        | true =>
          simp only [if_true, updO]
          cases hl : look r.wr.reverse n with
          | none => rfl
          | some y => exact absurd (by rw [keys_map]; exact List.mem_map.2 ⟨(n, y), List.mem_reverse.1 (look_mem hl), rfl⟩) this
      rw [e1, e1]; exact h0
theorem obF_at {D : Nat → Bool} {n : Nat} {y : Ob} : ∀ (rs : List Rec) (k i : Nat) (r : Rec) (ob : OF), rs[i]? = some r → D (k + i) = true → look r.wr.reverse n = some y → (∀ (j : Nat) r', i < j → rs[j]? = some r' → D (k + j) = true → n ∉ keys r'.wr) → obF D k rs ob n = some y
  | [], _, i, _, _, h, _, _, _ => by simp at h
  | r0 :: rs, k, i, r, ob, h, hD, hd, hl => by
    cases i with
    | succ i => exact obF_at rs (k + 1) i r _ (by simpa using h) (by rw [← hD]; congr 1; omega) hd fun j r' hj hr hDj => hl (j + 1) r' (by omega) (by simpa using hr) (by rw [← hDj]; congr 1; omega)
    | zero =>
      simp at h; subst h
      have hD' : D k = true := by simpa using hD
      simp only [obF, hD', if_true]
      rw [obF_agree (D' := fun _ => false) rs (k + 1) _ (updO ob r0.wr) (fun j r' hj hne => hl (j + 1) r' (by omega) (by simpa using hj) (by
        cases hq : D (k + 1 + j) with
        | false => exact absurd hq hne
        | true => rw [← hq]; congr 1; omega)) rfl]
      have none : ∀ (rs : List Rec) (k : Nat) (ob : OF), obF (fun _ => false) k rs ob = ob := by
        intro rs; induction rs with
        | nil => intro k ob; rfl
        | cons r rs ih => intro k ob; exact ih (k + 1) ob
      rw [none]
      simp [updO, hd]
theorem tmF_none {D : Nat → Bool} : ∀ (rs : List Rec) (k : Nat) (tm : Nat → Option A), (∀ j, k ≤ j → D j = false) → tmF D k rs tm = tm
  | [], _, _, _ => rfl
  | r :: rs, k, tm, h => by simp only [tmF, h k (Nat.le_refl _), Bool.false_eq_true, if_false]; exact tmF_none rs (k + 1) tm fun j hj => h j (by omega)
theorem obF_none {D : Nat → Bool} : ∀ (rs : List Rec) (k : Nat) (ob : OF), (∀ j, k ≤ j → D j = false) → obF D k rs ob = ob
  | [], _, _, _ => rfl
  | r :: rs, k, ob, h => by simp only [obF, h k (Nat.le_refl _), Bool.false_eq_true, if_false]; exact obF_none rs (k + 1) ob fun j hj => h j (by omega)

/-- One operation's turn in the text's order. -/
structure StepR (P : Program) (tab : TF) (md : MF) (all : List Oper) (o : Oper) (st : St) (r : Rec) (e : Entry) (i : Nat) : Prop where
  i : e.i = i
  dst : e.dst = o.dst
  rdst : r.dst = o.dst
  wr : e.wr = keys r.wr
  go : (∃ b : Bool, (∀ g want, o.guard = some (g, want) → b = true ∧ ∃ t, guardT all o.guard = some (t, want) ∧ look st.tm t = some (.one (.t (.bool want))) ∧ t ∈ e.rt) ∧ (∀ t, t ∈ tmpsOf o.op.operands.toList → t ∈ e.rt) ∧
        e.rd = rdOf (look st.tm) (look st.ob) o.op ∧ e.cl = (closedB (look st.ob) e.rd && slotCl (dstOf o.dst) e.rd st.ob) ∧
        (stepE std tab md (dstOf o.dst) o.op o.type (ev (look st.tm)) (look st.ob)).holds std (ACall P) fun x wr => x = r.x ∧ wr = r.wr ∧ r.G) ∨
    (∃ g want t, o.guard = some (g, want) ∧ guardT all o.guard = some (t, want) ∧ (look st.tm t = some (.one (.t (.bool (!want)))) ∨ look st.tm t = some (.tup [])) ∧ t ∈ e.rt ∧ r.x = .tup [] ∧ r.wr = [] ∧ r.G)

inductive Run (P : Program) (tab : TF) (md : MF) (all : List Oper) : Nat → List Oper → St → List Rec → List Entry → St → Prop
  | nil (i : Nat) (st : St) : Run P tab md all i [] st [] [] st
  | cons (i : Nat) (o : Oper) (l : List Oper) (st : St) (r : Rec) (e : Entry) (st' : St) (rs : List Rec) (es : List Entry) (fin : St) (h : StepR P tab md all o st r e i) (ht : look st'.tm = setO (look st.tm) o.dst r.x)
      (ho : look st'.ob = updO (look st.ob) r.wr) (k : Run P tab md all (i + 1) l st' rs es fin) : Run P tab md all i (o :: l) st (r :: rs) (e :: es) fin

theorem Run.at {all l : List Oper} {k : Nat} {st fin : St} {rs : List Rec} {es : List Entry} (h : Run P tab md all k l st rs es fin) : ∀ (i : Nat) o, l[i]? = some o → ∃ r e st', rs[i]? = some r ∧ es[i]? = some e ∧ StepR P tab md all o st' r e (k + i) ∧
    look st'.tm = tmF (fun j => decide (j < k + i)) k rs (look st.tm) ∧ look st'.ob = obF (fun j => decide (j < k + i)) k rs (look st.ob) := by
  induction h with
  | nil => intro i o h; simp at h
  | cons k o l st r e st' rs es fin h ht ho _ ih =>
    intro i o' hi
    cases i with
    | zero =>
      simp at hi; subst hi
      exact ⟨r, e, st, rfl, rfl, by simpa using h, (tmF_none _ _ _ fun j hj => by simp; omega).symm, (obF_none _ _ _ fun j hj => by simp; omega).symm⟩
    | succ i =>
      obtain ⟨r', e', st2, h1, h2, h3, h4, h5⟩ := ih i o' (by simpa using hi)
      have e1 : k + 1 + i = k + (i + 1) := by omega
      rw [e1] at h3 h4 h5
      refine ⟨r', e', st2, by simpa using h1, by simpa using h2, h3, ?_, ?_⟩
      · rw [h4, ht]; simp only [tmF]; rw [if_pos (by simp), h.rdst]
      · rw [h5, ho]; simp only [obF]; rw [if_pos (by simp)]
theorem Run.fin {all l : List Oper} {k : Nat} {st fin : St} {rs : List Rec} {es : List Entry} (h : Run P tab md all k l st rs es fin) : look fin.tm = tmF (fun _ => true) k rs (look st.tm) ∧ look fin.ob = obF (fun _ => true) k rs (look st.ob) := by
  induction h with
  | nil => exact ⟨rfl, rfl⟩
  | cons k o l st r e st' rs es fin h ht ho _ ih =>
    refine ⟨?_, ?_⟩
    · rw [ih.1, ht]; simp only [tmF, if_true]; rw [h.rdst]
    · rw [ih.2, ho]; simp only [obF, if_true]
theorem Run.len {all l : List Oper} {k : Nat} {st fin : St} {rs : List Rec} {es : List Entry} (h : Run P tab md all k l st rs es fin) : rs.length = l.length ∧ es.length = l.length := by
  induction h with
  | nil => exact ⟨rfl, rfl⟩
  | cons _ _ _ _ _ _ _ _ _ _ _ _ _ _ ih => exact ⟨by simp [ih.1], by simp [ih.2]⟩

theorem SR.holds_mono {K K' : A → Obs → Prop} (hk : ∀ x wr, K x wr → K' x wr) : ∀ (s : SR), s.holds std (ACall P) K → s.holds std (ACall P) K'
  | .ret a wr, h => hk a wr h
  | .req c k, h => ⟨h.1, SR.holds_mono hk k h.2⟩
  | .fact c k, h => fun hc => SR.holds_mono hk k (h hc)
  | .amb c k, h => fun b hb => SR.holds_mono hk (k b) (h b hb)
  | .br b t f, h => by
    cases b with
    | true => exact SR.holds_mono hk t h
    | false => exact SR.holds_mono hk f h
  | .get es i k, h => by obtain ⟨h1, h2⟩ := h; exact ⟨h1, SR.holds_mono hk _ h2⟩
  | .bytes es k, h => by obtain ⟨l, e, h⟩ := h; exact ⟨l, e, SR.holds_mono hk _ h⟩
  | .callG f args ob k, h => by obtain ⟨h1⟩ := h; exact ⟨h1.mono fun r ob' h => SR.holds_mono hk _ h⟩
  | .bad, h => h.elim
theorem SR.det_out {K : A → Obs → Prop → Prop} : ∀ (s : SR) (F : Prop), s.det std (ACall P) F K → ∃ x wr G, (s.holds std (ACall P) fun a w => a = x ∧ w = wr ∧ G) ∧ ∃ F', (F → G → F') ∧ K x wr F'
  | .ret a wr, F, h => ⟨a, wr, True, ⟨rfl, rfl, trivial⟩, F, fun h _ => h, h⟩
  | .req c k, F, h => by
    obtain ⟨x, wr, G, h1, h2⟩ := SR.det_out k F h.2
    exact ⟨x, wr, G, ⟨h.1, h1⟩, h2⟩
  | .fact c k, F, h => by
    obtain ⟨x, wr, G, h1, F', h2, h3⟩ := SR.det_out k (F ∧ c) h
    exact ⟨x, wr, c ∧ G, fun hc => SR.holds_mono (fun a w ⟨q1, q2, q3⟩ => ⟨q1, q2, hc, q3⟩) k h1, F', fun hF hG => h2 ⟨hF, hG.1⟩ hG.2, h3⟩
  | .amb c k, F, h => h.elim
  | .br b t f, F, h => by
    cases b with
    | true => exact SR.det_out t F h
    | false => exact SR.det_out f F h
  | .get es i k, F, h => by
    obtain ⟨h0, h⟩ := h
    obtain ⟨x, wr, G, h1, h2⟩ := SR.det_out _ F h
    exact ⟨x, wr, G, ⟨h0, h1⟩, h2⟩
  | .bytes es k, F, h => by
    obtain ⟨l, e, h⟩ := h
    obtain ⟨x, wr, G, h1, h2⟩ := SR.det_out _ F h
    exact ⟨x, wr, G, ⟨l, e, h1⟩, h2⟩
  | .callG f args ob k, F, h => by
    obtain ⟨r, ob', hc, h⟩ := h
    obtain ⟨x, wr, G, h1, h2⟩ := SR.det_out _ F h
    exact ⟨x, wr, G, ⟨hc.mono fun r' ob'' ⟨e1, e2⟩ => by subst e1; subst e2; exact h1⟩, h2⟩
  | .bad, F, h => h.elim

end Go.TL

/- TlAD -/
namespace Go.TL
open Go

variable {P : Program} {E : Env P} {ok : Nat → Prop} {hd : HF} {tm : Nat → Option A} {ob : OF} {w : World} {a : Act} {o : Oper} {tab : TF} {md : MF} {tmps : Array Value}

theorem look_setT (l : Tms) (d : Option Nat) (x : A) : look (setT l d x) = setO (look l) d x := by
  cases d with
  | none => rfl
  | some d => funext t; simp only [setT, setO, look_put]
theorem guardT_some (all : List Oper) (g : Nat) (want : Bool) : ∃ t, guardT all (some (g, want)) = some (t, want) := by
  simp only [guardT]
  split
  · split
    · exact ⟨_, rfl⟩
    · exact ⟨_, rfl⟩
  · exact ⟨_, rfl⟩

theorem entry_stepR {all : List Oper} {st : St} {x : A} {wr : Obs} {G : Prop} {i : Nat} {gt : List Nat} (hg : ∀ g want, o.guard = some (g, want) → ∃ t, guardT all o.guard = some (t, want) ∧ look st.tm t = some (.one (.t (.bool want))) ∧ t ∈ gt)
    (h : (stepE std tab md (dstOf o.dst) o.op o.type (ev (look st.tm)) (look st.ob)).holds std (ACall P) fun a w => a = x ∧ w = wr ∧ G) : StepR P tab md all o st ⟨o.dst, x, wr, G⟩ (entry i o.dst gt o.op st wr) i where
  i := rfl
  dst := rfl
  rdst := rfl
  wr := rfl
  go := .inl ⟨true, fun g want q => by
    obtain ⟨t, h1, h2, h3⟩ := hg g want q
    exact ⟨rfl, t, h1, h2, by simp only [entry, List.mem_append]; exact .inl h3⟩, fun t ht => by simp only [entry, List.mem_append]; exact .inr ht, by simp only [entry], by simp only [entry], h⟩

theorem drawnP_run {all : List Oper} {K : St → Prop} : ∀ (l : List Oper) (i : Nat) (st : St) (tr : List Entry) (F : Prop), drawnP std (ACall P) tab md all i (kops all l) st tr F K →
    ∃ rs es fin, Run P tab md all i l st rs es fin ∧ checkTr all (es.reverse ++ tr) = true ∧ ((F ∧ ∀ r, r ∈ rs → r.G) → K fin)
  | [], i, st, tr, F, h => by
    obtain ⟨h1, h2⟩ := h
    exact ⟨[], [], st, .nil i st, by simpa using h1, fun q => h2 q.1⟩
  | o :: l, i, st, tr, F, h => by
    have fin : ∀ (st0 : St) (r : Rec) (e : Entry), StepR P tab md all o st r e i → look st0.tm = look st.tm → look st0.ob = look st.ob → ∀ F', (F → r.G → F') →
        drawnP std (ACall P) tab md all (i + 1) (kops all l) ⟨setT st0.tm o.dst r.x, puts st0.ob r.wr⟩ (e :: tr) F' K →
        ∃ rs es fin, Run P tab md all i (o :: l) st rs es fin ∧ checkTr all (es.reverse ++ tr) = true ∧ ((F ∧ ∀ r, r ∈ rs → r.G) → K fin) := by
      intro st0 r e hs e1 e2 F' hF hk
      obtain ⟨rs, es, fin, h1, h2, h3⟩ := drawnP_run l (i + 1) _ _ F' hk
      refine ⟨r :: rs, e :: es, fin, .cons i o l st r e _ rs es fin hs (by rw [look_setT, e1]) (by rw [look_puts, e2]) h1, by simpa using h2, fun q => h3 ⟨hF q.1 (q.2 r (.head _)), fun r' hr' => q.2 r' (.tail _ hr')⟩⟩
    simp only [kops, kop] at h
    cases hg : o.guard with
    | none =>
      rw [hg] at h
      simp only [guardT, drawnP] at h
      obtain ⟨x, wr, G, h1, F', h2, h3⟩ := SR.det_out _ _ h
      refine fin st ⟨o.dst, x, wr, G⟩ _ ⟨rfl, rfl, rfl, rfl, .inl ⟨true, fun g want q => by (rw [hg] at q; cases q), fun t ht => by simpa [entry] using ht, rfl, rfl, h1⟩⟩ rfl rfl F' h2 h3
    | some p =>
      obtain ⟨g, want⟩ := p
      obtain ⟨t, ht⟩ := guardT_some all g want
      rw [hg, ht] at h
      simp only [drawnP] at h
      split at h
      rotate_left
      · rename_i hb
        exact fin st ⟨o.dst, .tup [], [], True⟩ ⟨i, o.dst, [t], [], [], true⟩ ⟨rfl, rfl, rfl, rfl, .inr ⟨g, want, t, hg, by rw [hg]; exact ht, .inr hb, by simp, rfl, rfl, trivial⟩⟩ rfl rfl F (fun h _ => h) h
      · exact h.elim
      rename_i b hb
      have exec : ∀ b : Bool, look st.tm t = some (.one (.t (.bool b))) → b = want → (stepE std tab md (dstOf o.dst) o.op o.type (ev (look (put st.tm t (.one (.t (.bool b)))))) (look st.ob)).det std (ACall P) F (fun a wr F => drawnP std (ACall P) tab md all (i + 1) (kops all l) ⟨setT (put st.tm t (.one (.t (.bool b)))) o.dst a, puts st.ob wr⟩ (entry i o.dst [t] o.op st wr :: tr) F K) →
          ∃ rs es fin, Run P tab md all i (o :: l) st rs es fin ∧ checkTr all (es.reverse ++ tr) = true ∧ ((F ∧ ∀ r, r ∈ rs → r.G) → K fin) := by
        intro b hb hbw hh
        subst hbw
        rw [look_put_same hb] at hh
        obtain ⟨x, wr, G, h1, F', h2, h3⟩ := SR.det_out _ _ hh
        have hs := entry_stepR (all := all) (i := i) (gt := [t]) (fun g' want' q => by
          rw [hg] at q
          injection q with q; injection q with q1 q2; subst q1; subst q2
          exact ⟨t, by rw [hg]; exact ht, hb, by simp⟩) h1
        exact fin ⟨put st.tm t (.one (.t (.bool b))), st.ob⟩ _ _ hs (look_put_same hb) rfl F' h2 h3
      have skip : ∀ b : Bool, look st.tm t = some (.one (.t (.bool b))) → b = !want → drawnP std (ACall P) tab md all (i + 1) (kops all l) ⟨setT (put st.tm t (.one (.t (.bool b)))) o.dst (.tup []), st.ob⟩ (⟨i, o.dst, [t], [], [], true⟩ :: tr) F K →
          ∃ rs es fin, Run P tab md all i (o :: l) st rs es fin ∧ checkTr all (es.reverse ++ tr) = true ∧ ((F ∧ ∀ r, r ∈ rs → r.G) → K fin) := by
        intro b hb hbw h
        refine fin ⟨put st.tm t (.one (.t (.bool b))), st.ob⟩ ⟨o.dst, .tup [], [], True⟩ ⟨i, o.dst, [t], [], [], true⟩ ⟨rfl, rfl, rfl, rfl, .inr ⟨g, want, t, hg, by rw [hg]; exact ht, by rw [hb, hbw]; exact .inl rfl, by simp, rfl, rfl, trivial⟩⟩ (look_put_same hb) rfl F (fun h _ => h) h
      cases b <;> cases want <;> simp only [] at h
      · exact exec false hb rfl h
      · exact skip false hb rfl h
      · exact skip true hb rfl h
      · exact exec true hb rfl h

/-- Through edges that bind. -/
inductive Before (ops : List Oper) : Nat → Nat → Prop
  | one (j : Nat) (o : Oper) (e : Edge) (ho : ops[j]? = some o) (he : e ∈ o.after.toList) (hb : Region.binds .any e = true) : Before ops e.on j
  | more (m j : Nat) (o : Oper) (e : Edge) (ho : ops[j]? = some o) (he : e ∈ o.after.toList) (hb : Region.binds .any e = true) (h : Before ops m e.on) : Before ops m j
theorem aheadOf_before {ops : List Oper} {acc : List (List Nat)} (hacc : ∀ (j : Nat) x, acc[j]? = some x → ∀ k, k ∈ x → Before ops k j) {j : Nat} {o : Oper} (ho : ops[j]? = some o) : ∀ (l : List Edge), (∀ e, e ∈ l → e ∈ o.after.toList) → ∀ k, k ∈ aheadOf acc l → Before ops k j
  | [], _, k, h => by cases h
  | e :: r, hl, k, h => by
    simp only [aheadOf] at h
    cases hb : Region.binds .any e with
    | false => rw [hb] at h; exact aheadOf_before hacc ho r (fun e he => hl e (.tail _ he)) k h
    | true =>
      rw [hb] at h
      simp only [cond_true, List.mem_cons, List.mem_append] at h
      rcases h with h | h | h
      · subst h; exact .one j o e ho (hl e (.head _)) hb
      · refine .more k j o e ho (hl e (.head _)) hb ?_
        cases hx : acc[e.on]? with
        | none => simp [List.getD, hx] at h
        | some x => simp [List.getD, hx] at h; exact hacc e.on x hx k h
      · exact aheadOf_before hacc ho r (fun e he => hl e (.tail _ he)) k h
theorem of_nub {n : Nat} : ∀ (l acc : List Nat), n ∈ nub l acc → n ∈ l ∨ n ∈ acc
  | [], acc, h => .inr h
  | m :: r, acc, h => by
    simp only [nub] at h
    cases hb : memB m acc with
    | true => rw [hb] at h; rcases of_nub r acc h with h | h; exact .inl (.tail _ h); exact .inr h
    | false =>
      rw [hb] at h
      rcases of_nub r _ h with h | h
      · exact .inl (.tail _ h)
      · rcases List.mem_append.1 h with h | h
        · exact .inr h
        · simp at h; subst h; exact .inl (.head _)
theorem aheadGo_before {ops : List Oper} : ∀ (l : List Oper) (acc : List (List Nat)), ops.drop acc.length = l → (∀ (j : Nat) x, acc[j]? = some x → ∀ k, k ∈ x → Before ops k j) → ∀ (j : Nat) x, (aheadGo acc l)[j]? = some x → ∀ k, k ∈ x → Before ops k j
  | [], acc, _, hacc => hacc
  | o :: l, acc, hl, hacc => by
    have hlt : acc.length < ops.length := by
      by_cases q : acc.length < ops.length
      · exact q
      · rw [List.drop_eq_nil_of_le (by omega)] at hl; cases hl
    rw [List.drop_eq_getElem_cons hlt] at hl
    injection hl with h1 h2
    have ho : ops[acc.length]? = some o := by rw [List.getElem?_eq_getElem hlt, h1]
    refine aheadGo_before l (acc ++ [nub (aheadOf acc o.after.toList) []]) (by simpa using h2) fun j x hx k hk => ?_
    by_cases q : j < acc.length
    · rw [List.getElem?_append_left q] at hx; exact hacc j x hx k hk
    · rw [List.getElem?_append_right (by omega)] at hx
      have : j = acc.length := by
        cases hq : j - acc.length with
        | zero => omega
        | succ n => rw [hq] at hx; simp at hx
      subst this
      simp at hx; subst hx
      exact aheadOf_before hacc ho _ (fun _ h => h) k ((of_nub _ _ hk).resolve_right (by simp))

/-- What the test of a trace shows. -/
structure Sep (x y : Entry) : Prop where
  rt : ∀ d, x.dst = some d → d ∉ y.rt
  slot : ∀ n, n ∈ x.wr → n / 32 ≠ dstOf y.dst + 1
  dst : ∀ d, x.dst = some d → y.dst ≠ some d
  rd : ∀ n, n ∈ x.wr → n ∉ y.rd
  wr : ∀ n, n ∈ x.wr → n ∉ y.wr
theorem offB_mem {d : Nat} : ∀ {l : List Nat}, offB d l = true → ∀ n, n ∈ l → n / 32 ≠ d + 1
  | [], _, n, h => by cases h
  | m :: r, hb, n, h => by
    simp only [offB, Bool.and_eq_true, Bool.not_eq_true'] at hb
    rcases List.mem_cons.1 h with e | h
    · subst e; intro e; have := hb.1; rw [e] at this; simp at this
    · exact offB_mem hb.2 n h
theorem apartB_sep {x y : Entry} (h : apartB x y = true) : Sep x y ∧ Sep y x := by
  simp only [apartB, Bool.and_eq_true] at h
  obtain ⟨⟨⟨⟨⟨⟨⟨h1, h2⟩, h3⟩, h4⟩, h5⟩, h6⟩, h7⟩, h8⟩ := h
  have hd : ∀ d, x.dst = some d → y.dst ≠ some d := by
    intro d hx hy
    rw [hx, hy] at h5
    simp at h5
  refine ⟨⟨fun d hx => ?_, offB_mem h4, hd, disjB_mem h6, disjB_mem h8⟩, ⟨fun d hy => ?_, offB_mem h2, fun d hy hx => hd d hx hy, disjB_mem h7, fun n hn hm => disjB_mem h8 n hm hn⟩⟩
  · rw [hx] at h1; simpa [memB_false] using h1
  · rw [hy] at h3; simpa [memB_false] using h3
theorem checkTr_spec {ops : List Oper} {tr : List Entry} (h : checkTr ops tr = true) : (∀ (i : Nat) o, ops[i]? = some o → ∀ e, e ∈ o.after.toList → Region.binds .any e = true → e.on < i) ∧ (∀ y, y ∈ tr → y.cl = true) ∧
    ∀ x y, x ∈ tr → y ∈ tr → x.i < y.i → Before ops x.i y.i ∨ (Sep x y ∧ Sep y x) := by
  simp only [checkTr, Bool.and_eq_true, List.all_eq_true] at h
  obtain ⟨⟨h1, h2⟩, h3⟩ := h
  refine ⟨fun i o ho e he hb => ?_, h2, fun x y hx hy hlt => ?_⟩
  · have hi : i < ops.length := by
      by_cases q : i < ops.length
      · exact q
      · rw [List.getElem?_eq_none (by omega)] at ho; cases ho
    have := List.all_eq_true.1 h1 i (List.mem_range.2 hi)
    rw [ho] at this
    have := List.all_eq_true.1 this e he
    rw [hb] at this
    simpa using this
  · have := h3 y hy x hx
    simp only [Bool.or_eq_true, Bool.not_eq_true', decide_eq_false_iff_not] at this
    rcases this with (h | h) | h
    · exact absurd hlt h
    · left
      have hm := memB_iff.1 h
      cases hq : (aheadL ops)[y.i]? with
      | none => simp [List.getD, hq] at hm
      | some l =>
        simp [List.getD, hq] at hm
        exact aheadGo_before ops [] rfl (by simp) y.i l hq x.i hm
    · exact .inr (apartB_sep h)

end Go.TL

/- TlAE -/
namespace Go.TL
open Go

variable {P : Program} {E : Env P} {ok : Nat → Prop} {hd : HF} {tm : Nat → Option A} {ob : OF} {w : World} {a : Act} {o : Oper} {tab : TF} {md : MF} {tmps : Array Value}

theorem nub_acc {n : Nat} : ∀ (l acc : List Nat), n ∈ acc → n ∈ nub l acc
  | [], acc, h => h
  | m :: r, acc, h => by
    simp only [nub]
    cases memB m acc with
    | true => exact nub_acc r acc h
    | false => exact nub_acc r _ (List.mem_append_left _ h)
theorem nub_mem {n : Nat} : ∀ (l acc : List Nat), n ∈ l → n ∈ nub l acc
  | [], acc, h => by cases h
  | m :: r, acc, h => by
    simp only [nub]
    rcases List.mem_cons.1 h with e | h
    · subst e
      cases hb : memB n acc with
      | true => exact nub_acc r acc (memB_iff.1 hb)
      | false => exact nub_acc r _ (by simp)
    · cases memB m acc with
      | true => exact nub_mem r acc h
      | false => exact nub_mem r _ h
theorem reach_sub {lk : OF} {n : Nat} : ∀ (k : Nat) (l : List Nat), n ∈ l → n ∈ reach lk k l
  | 0, l, h => h
  | k + 1, l, h => reach_sub k _ (nub_acc _ l h)
theorem trefsOf_mem {t m : Nat} {x : A} (hx : tm t = some x) (hm : m ∈ x.refs) : ∀ {l : List Nat}, t ∈ l → m ∈ trefsOf tm l
  | [], h => by cases h
  | u :: r, h => by
    simp only [trefsOf]
    rcases List.mem_cons.1 h with e | h
    · subst e; rw [hx]; exact List.mem_append_left _ hm
    · have := trefsOf_mem hx hm h
      split
      · exact List.mem_append_right _ this
      · exact this
theorem tmpsOf_mem {t : Nat} : ∀ {l : List Operand}, Operand.tmp t ∈ l → t ∈ tmpsOf l
  | [], h => by cases h
  | .tmp u :: r, h => by
    rcases List.mem_cons.1 h with e | h
    · injection e with e; subst e; exact .head _
    · exact .tail _ (tmpsOf_mem h)
  | .const _ :: r, h => by
    rcases List.mem_cons.1 h with e | h
    · cases e
    · simp only [tmpsOf]; exact tmpsOf_mem h
  | .func _ :: r, h => by
    rcases List.mem_cons.1 h with e | h
    · cases e
    · simp only [tmpsOf]; exact tmpsOf_mem h
  | .global _ :: r, h => by
    rcases List.mem_cons.1 h with e | h
    · cases e
    · simp only [tmpsOf]; exact tmpsOf_mem h
theorem subB_mem : ∀ {l m : List Nat}, subB l m = true → ∀ n, n ∈ l → n ∈ m
  | [], _, _, n, h => by cases h
  | a :: l, m, h, n, hm => by
    simp only [subB, Bool.and_eq_true] at h
    rcases List.mem_cons.1 hm with e | hm
    · subst e; exact memB_iff.1 h.1
    · exact subB_mem h.2 n hm
theorem oref_mem {lk : OF} {n m : Nat} {cs : List V} {fz : Bool} (hn : lk n = some (.box cs fz)) (hm : m ∈ vrefs cs) : ∀ {l : List Nat}, n ∈ l → m ∈ oref lk l
  | [], h => by cases h
  | u :: r, h => by
    simp only [oref]
    rcases List.mem_cons.1 h with e | h
    · subst e; rw [hn]; exact List.mem_append_left _ hm
    · have := oref_mem hn hm h
      split
      · exact List.mem_append_right _ this
      · exact this
theorem slotCl_mem {d : Nat} {rd : List Nat} : ∀ {l : Obs}, slotCl d rd l = true → ∀ n cs fz, (n, Ob.box cs fz) ∈ l → n / 32 = d + 1 → ∀ m, m ∈ vrefs cs → m ∈ rd
  | [], _, n, cs, fz, h => by cases h
  | (i, .row sz es cur tags f) :: r, hb, n, cs, fz, h => by
    rcases List.mem_cons.1 h with e | h
    · cases e
    · exact slotCl_mem (l := r) hb n cs fz h
  | (i, .box c f) :: r, hb, n, cs, fz, h => by
    intro hd m hm
    simp only [slotCl, Bool.and_eq_true, Bool.or_eq_true, Bool.not_eq_true'] at hb
    rcases List.mem_cons.1 h with e | h
    · injection e with e1 e2; injection e2 with e2 e3; subst e1; subst e2
      rcases hb.1 with q | q
      · rw [hd] at q; simp at q
      · exact subB_mem q m hm
    · exact slotCl_mem hb.2 n cs fz h hd m hm
theorem constA_refs {v : Value} {x : A} (h : constA v = some x) : x.refs = [] := by
  unfold constA at h
  split at h
  · injection h with h; subst h; rfl
  · rename_i k n
    cases hb : hasB k n with
    | false => simp [hb] at h
    | true => simp [hb] at h; subst h; rfl
  · rename_i s
    cases hb : leB s.data.toList.length 1000000 with
    | false => rw [hb] at h; cases h
    | true => rw [hb] at h; injection h with h; subst h; rfl
  · injection h with h; subst h; rfl
  · injection h with h; subst h; rfl

theorem look_isSome {α : Type} {m : Nat} {y : α} : ∀ {l : List (Nat × α)}, (m, y) ∈ l → (look l m).isSome = true
  | [], h => by cases h
  | (u, v) :: l, h => by
    by_cases q : u = m
    · simp [look, q]
    · rcases List.mem_cons.1 h with e | h
      · injection e with e; exact absurd e.symm q
      · simp [look, q, look_isSome h]
/-- What is done, of a region. -/
structure Done (P : Program) (E : Env P) (ops : Array Oper) (rs : List Rec) (st0 : St) (D : Nat → Bool) (a : Act) (w : World) : Prop where
  rel : ∃ ok hd, Rel E ok hd (tmF D 0 rs (look st0.tm)) (obF D 0 rs (look st0.ob)) a.tmps w
  defers : a.defers = []
  facts : ∀ (i : Nat) r, rs[i]? = some r → D i = true → r.G
  down : ∀ (i : Nat) o, D i = true → ops.toList[i]? = some o → ∀ e, e ∈ o.after.toList → Region.binds .any e = true → D e.on = true
theorem Done.before {ops : Array Oper} {rs : List Rec} {st0 : St} {D : Nat → Bool} (h : Done P E ops rs st0 D a w) {k j : Nat} (hb : Before ops.toList k j) : D j = true → D k = true := by
  induction hb with
  | one j o e ho he hb => exact fun hj => h.down j o hj ho e he hb
  | more m j o e ho he hb _ ih => exact fun hj => ih (h.down j o hj ho e he hb)

theorem guard_readF {ops : Array Oper} {g t : Nat} {o' : Oper} {b : Bool} (R : Rel E ok hd tm ob a.tmps w) (ho : ops.toList[g]? = some o') (ht : o'.dst = some t) (hb : tm t = some (.one (.t (.bool b)))) (hnt : dstsOk E.nt ops.toList = true) :
    yielded ops a.tmps g = some b := by
  have hv := (R.tms t _ hb).one_inv.bool_inv
  have hog : ops[g]? = ops.toList[g]? := by simp
  have hlt := dstsOk_mem hnt (List.mem_of_getElem? ho) t ht
  have hi : a.tmps[t]? = some (.bool b) := by
    rw [← R.nt] at hlt
    rw [Array.getD_eq_getD_getElem?, Array.getElem?_eq_getElem hlt] at hv
    rw [Array.getElem?_eq_getElem hlt]
    simpa using hv
  simp [yielded, hog, ho, ht, hi]

theorem rel_put {dst : Option Nat} {v : Value} {x : A} (R : Rel E ok hd tm ob a.tmps w) (hx : AR w ok hd ob v x) (hd' : ∀ d, dst = some d → d < E.nt) : Rel E ok hd (setO tm dst x) ob (a.put dst v).tmps w := by
  cases dst with
  | none => exact R
  | some d => exact R.put hx (hd' d rfl)

theorem drawn_step {ops : Array Oper} {st0 fin : St} {rs : List Rec} {es : List Entry} (hT : TabOk P tab) (hnt : dstsOk E.nt ops.toList = true) (hr : Run P tab md ops.toList 0 ops.toList st0 rs es fin) (hc : checkTr ops.toList es.reverse = true)
    {D : Nat → Bool} (h : Done P E ops rs st0 D a w) {i : Nat} (ho : ops[i]? = some o) (hi : D i = false) (hrdy : ∀ e, e ∈ o.after.toList → Region.binds .any e = true → D e.on = true) (next : Act → World → Prop) (Q : Exit → Act → World → Prop)
    (hn : ∀ a' w', Done P E ops rs st0 (fun j => D j || decide (j = i)) a' w' → next a' w') : wpOp P ops Q i next a w := by
  have ho' : ops.toList[i]? = some o := by simpa using ho
  obtain ⟨r, e, st', h1, h2, h3, h4, h5⟩ := hr.at i o ho'
  rw [Nat.zero_add] at h3 h4 h5
  obtain ⟨c1, c2, c3⟩ := checkTr_spec hc
  have hmem := List.mem_of_getElem? ho'
  have hds := dstsOk_mem hnt hmem
  have hem : e ∈ es.reverse := List.mem_reverse.2 (List.mem_of_getElem? h2)
  -- what else is done, or not, has nothing to do with it
  have sep : ∀ (j : Nat) rj, rs[j]? = some rj → D j ≠ decide (j < i) → ∃ ej, Sep ej e ∧ ej.dst = rj.dst ∧ ej.wr = keys rj.wr := by
    intro j rj hj hne
    have hjl : j < ops.toList.length := by
      have := hr.len.1
      by_cases q : j < rs.length
      · omega
      · rw [List.getElem?_eq_none (by omega)] at hj; cases hj
    obtain ⟨rj', ej, stj, g1, g2, g3, _, _⟩ := hr.at j _ (List.getElem?_eq_getElem hjl)
    rw [hj] at g1; injection g1 with g1; subst g1
    rw [Nat.zero_add] at g3
    have hejm : ej ∈ es.reverse := List.mem_reverse.2 (List.mem_of_getElem? g2)
    refine ⟨ej, ?_, by rw [g3.dst, g3.rdst], g3.wr⟩
    by_cases hlt : j < i
    · have hDj : D j = false := by
        cases hq : D j with
        | false => rfl
        | true => rw [hq] at hne; simp [hlt] at hne
      rcases c3 ej e hejm hem (by rw [g3.i, h3.i]; exact hlt) with hb | hs
      · rw [g3.i, h3.i] at hb
        have : D j = true := by
          cases hb with
          | one _ o2 e2 q1 q2 q3 => rw [ho'] at q1; injection q1 with q1; subst q1; exact hrdy e2 q2 q3
          | more _ _ o2 e2 q1 q2 q3 q4 => rw [ho'] at q1; injection q1 with q1; subst q1; exact h.before q4 (hrdy e2 q2 q3)
        rw [hDj] at this; cases this
      · exact hs.1
    · have hDj : D j = true := by
        cases hq : D j with
        | true => rfl
        | false => rw [hq] at hne; simp [hlt] at hne
      have hji : j ≠ i := fun q => by rw [q, hi] at hDj; cases hDj
      rcases c3 e ej hem hejm (by rw [g3.i, h3.i]; omega) with hb | hs
      · rw [g3.i, h3.i] at hb
        have := h.before hb hDj
        rw [hi] at this; cases this
      · exact hs.2
  have agT : ∀ t, t ∈ e.rt → tmF D 0 rs (look st0.tm) t = look st'.tm t := by
    intro t ht
    rw [h4]
    refine tmF_agree rs 0 _ _ (fun j rj hj hne => ?_) rfl
    rw [Nat.zero_add] at hne
    obtain ⟨ej, hs, hd1, _⟩ := sep j rj hj hne
    rw [← hd1]
    exact fun q => hs.rt t q ht
  have agO : ∀ n, (n ∈ e.rd ∨ n / 32 = dstOf o.dst + 1) → look st'.ob n = obF D 0 rs (look st0.ob) n := by
    intro n hn
    rw [h5]
    refine (obF_agree rs 0 _ _ (fun j rj hj hne => ?_) rfl).symm
    rw [Nat.zero_add] at hne
    obtain ⟨ej, hs, _, hw⟩ := sep j rj hj hne
    rw [← hw]
    intro q
    rcases hn with hn | hn
    · exact hs.rd n q hn
    · exact hs.slot n q (by rw [h3.dst]; exact hn)
  -- the state behind it
  have newT : ∀ x, x = r.x → tmF (fun j => D j || decide (j = i)) 0 rs (look st0.tm) = setO (tmF D 0 rs (look st0.tm)) o.dst x := by
    intro x hx
    subst hx
    funext t
    by_cases q : o.dst = some t
    · rw [q, setO_eq]
      refine tmF_at rs 0 i r _ h1 (by simp) (by rw [h3.rdst, q]) fun j rj hij hj hDj => ?_
      rw [Nat.zero_add] at hDj
      have : D j = true := by simpa [show j ≠ i by omega] using hDj
      obtain ⟨ej, hs, hd1, _⟩ := sep j rj hj (by rw [this]; simp; omega)
      rw [← hd1]
      intro q2
      exact hs.dst t q2 (by rw [h3.dst]; exact q)
    · rw [setO_ne q]
      refine tmF_agree rs 0 _ _ (fun j rj hj hne => ?_) rfl
      rw [Nat.zero_add] at hne
      have : j = i := by
        by_cases q2 : j = i
        · exact q2
        · simp [q2] at hne
      subst this
      rw [h1] at hj; injection hj with hj; subst hj
      rw [h3.rdst]; exact q
  have newO : obF (fun j => D j || decide (j = i)) 0 rs (look st0.ob) = updO (obF D 0 rs (look st0.ob)) r.wr := by
    funext n
    cases hl : look r.wr.reverse n with
    | some y =>
      have hnw : n ∈ keys r.wr := by rw [keys_map]; exact List.mem_map.2 ⟨(n, y), List.mem_reverse.1 (look_mem hl), rfl⟩
      rw [obF_at rs 0 i r _ h1 (by simp) hl fun j rj hij hj hDj => ?_]
      · simp [updO, hl]
      · rw [Nat.zero_add] at hDj
        have : D j = true := by simpa [show j ≠ i by omega] using hDj
        obtain ⟨ej, hs, _, hw⟩ := sep j rj hj (by rw [this]; simp; omega)
        rw [← hw]
        intro q
        exact hs.wr n q (by rw [h3.wr]; exact hnw)
    | none =>
      have : updO (obF D 0 rs (look st0.ob)) r.wr n = obF D 0 rs (look st0.ob) n := by simp [updO, hl]
      rw [this]
      refine obF_agree rs 0 _ _ (fun j rj hj hne => ?_) rfl
      rw [Nat.zero_add] at hne
      have : j = i := by
        by_cases q2 : j = i
        · exact q2
        · simp [q2] at hne
      subst this
      rw [h1] at hj; injection hj with hj; subst hj
      rw [keys_map]
      intro hm
      obtain ⟨⟨m, y⟩, hm2, q⟩ := List.mem_map.1 hm
      simp only at q; subst q
      have : (look r.wr.reverse m).isSome = true := by
        exact look_isSome (List.mem_reverse.2 hm2)
      rw [hl] at this; cases this
  have done : ∀ (a' : Act) (w' : World), (∃ ok hd, Rel E ok hd (setO (tmF D 0 rs (look st0.tm)) o.dst r.x) (updO (obF D 0 rs (look st0.ob)) r.wr) a'.tmps w') → a'.defers = [] → r.G → Done P E ops rs st0 (fun j => D j || decide (j = i)) a' w' := by
    intro a' w' hrel hdf hG
    refine ⟨?_, hdf, fun j rj hj hD => ?_, fun j oj hD hoj e2 he2 hb2 => ?_⟩
    · rw [newT r.x rfl, newO]; exact hrel
    · by_cases q : j = i
      · subst q; rw [h1] at hj; injection hj with hj; subst hj; exact hG
      · exact h.facts j rj hj (by simpa [q] using hD)
    · by_cases q : j = i
      · subst q; rw [ho'] at hoj; injection hoj with hoj; subst hoj; simp [hrdy e2 he2 hb2]
      · simp [h.down j oj (by simpa [q] using hD) hoj e2 he2 hb2]
  obtain ⟨ok, hd, R⟩ := h.rel
  have hput : ∀ v, (a.put o.dst v).defers = a.defers := by intro v; cases o.dst <;> rfl
  simp only [wpOp, ho]
  rcases h3.go with ⟨b, hg, ht, hrd, hcl, hh⟩ | ⟨g, want, t, hg, hgt, hb, ht, hx, hwr, hG⟩
  · -- it is carried out
    have hw : Region.wanted o (yielded ops a.tmps) = true := by
      cases hgd : o.guard with
      | none => simp [Region.wanted, hgd]
      | some p =>
        obtain ⟨g, want⟩ := p
        obtain ⟨_, t, q1, q2, q3⟩ := hg g want hgd
        obtain ⟨o', t', g1, g2, g3⟩ := dstsOk_guard hnt hmem hgd
        rw [q1] at g3; injection g3 with g3; injection g3 with g3; subst g3
        have hy := guard_readF R g1 g2 (by rw [agT t q3]; exact q2) hnt
        simp [Region.wanted, hgd, hy]
    rw [if_pos hw]
    refine .inl ?_
    have hcl2 : closedB (look st'.ob) e.rd = true ∧ slotCl (dstOf o.dst) e.rd st'.ob = true := by
      have := c2 e hem
      rw [hcl] at this
      exact bif_and this
    have ag : Ag (fun n => n ∈ e.rd ∨ n / 32 = dstOf o.dst + 1) (look st'.ob) (obF D 0 rs (look st0.ob)) := by
      refine ⟨agO, fun n cs fz hn hx m hm => ?_⟩
      rcases hn with hn | hn
      · exact .inl (subB_mem hcl2.1 m (oref_mem hx hm hn))
      · exact .inl (slotCl_mem hcl2.2 n cs fz (look_mem hx) hn m hm)
    have hρ : ∀ x, x ∈ o.op.operands.toList → ev (look st'.tm) x = ev (tmF D 0 rs (look st0.tm)) x := fun x hx => by
      cases x with
      | tmp t => exact (agT t (ht t (tmpsOf_mem hx))).symm
      | _ => rfl
    have hse : stepE std tab md (dstOf o.dst) o.op o.type (ev (look st'.tm)) (look st'.ob) = stepE std tab md (dstOf o.dst) o.op o.type (ev (tmF D 0 rs (look st0.tm))) (obF D 0 rs (look st0.ob)) := by
      cases hnl : noLk o.op with
      | true => exact stepE_no hnl hρ
      | false =>
        refine stepE_ag ag (fun n hn => .inr hn) hρ (fun x hx y hy m hm => ?_)
        cases x with
        | tmp t =>
          refine .inl ?_
          rw [hrd, rdOf, hnl]
          exact reach_sub 4 _ (nub_mem _ _ (trefsOf_mem hy hm (tmpsOf_mem hx)))
        | const v => rw [constA_refs hy] at hm; cases hm
        | func f => injection hy with hy; subst hy; cases hm
        | global g => cases hy
    rw [hse] at hh
    refine step_sound rfl hT R hh next Q ?_
    rintro av wr ok' hd' v w' ⟨rfl, rfl, hG⟩ R2 hv
    exact hn _ _ (done _ _ ⟨ok', hd', rel_put R2 hv hds⟩ (by rw [hput]; exact h.defers) hG)
  · -- it is passed over
    obtain ⟨o', t', g1, g2, g3⟩ := dstsOk_guard hnt hmem hg
    rw [hgt] at g3; injection g3 with g3; injection g3 with g3; subst g3
    have hw : Region.wanted o (yielded ops a.tmps) = false := by
      rcases hb with hb | hb
      · have hy := guard_readF R g1 g2 (by rw [agT t ht]; exact hb) hnt
        cases want <;> simp [Region.wanted, hg, hy]
      · have hy : yielded ops a.tmps g = none := guard_un g1 g2 (R.tms t _ (by rw [agT t ht]; exact hb)) rfl
        simp [Region.wanted, hg, hy]
    rw [hw]
    refine hn _ _ (done _ _ ⟨ok, hd, ?_⟩ (by rw [hput]; exact h.defers) hG)
    rw [hwr, hx]
    exact rel_put R (.tup [] [] rfl (fun _ _ _ h => by simp at h)) hds

end Go.TL
