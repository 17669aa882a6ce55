/- Texts of a proof, joined by a program (merge.py): TlQ TlR TlS TlU TlV TlW TlX TlY TlZ. -/
import Derived.Test.YtpnhfpjpmjdgmaaGreatDoorT02
import Derived.Lib.ConvBytes
import Derived.LoopN
import Derived.Orders
set_option linter.all false
/- TlQ -/
namespace Go.TL
open Go

variable {P : Program} {E : Env P} {ok : Nat → Prop} {hd : HF} {tm : Nat → Option A} {ob : OF} {w : World} {a : Act} {K : A → Obs → Prop} {o : Oper} {tab : TF} {cl : Nat → List A → Obs → (A → Obs → Prop) → Prop} {tmps : Array Value}

theorem bytesWorld_ext (w : World) (e : TypeId) (s : ByteArray) : Ext w (Lib.bytesWorld w e s) where
  os := rfl
  tape := rfl
  output := rfl
  size := by rw [Lib.bytesWorld_size]; omega
  block b hb := Lib.bytesWorld_at_old w e s b hb

theorem grown_le (w : World) (n : Nat) (e : TypeId) : n ≤ grownCap w n 0 e := by
  have := grownCap_ge w n 0 e
  exact this

/-- Bytes that stood in the text, marked as such. -/
theorem op_mark {src n g sz e : Nat} {x : Operand} {es : List (List T)} {cur : Nat} {tags : List Nat} (ho : o.op = .convert src src x) (hu : P.underlying src = some (.slice e)) (he : P.underlying e = some (.int .u8)) (R : Rel E ok hd tm ob a.tmps w)
    (hx : ev tm x = some (.one (.row n g))) (hob : ob n = some (.row sz es cur tags false)) (hg : g = cur) (hin : std.inb 0 es) (hk : K (.one (.row n g)) [(n, .row sz es cur tags false)]) : Goes P E tm ob a.tmps K o a w := by
  obtain ⟨h0, h1⟩ := index_inv hin
  have hxv := ev_rel R hx
  obtain ⟨sz', es', cur', tags', fz', p1, p2, _, p3⟩ := hxv.one_inv
  rw [hob] at p1; injection p1 with p1; injection p1 with q1 q2 q3 q4 q5; subst q1; subst q2; subst q3; subst q4; subst q5
  replace p3 := p3 hg
  obtain ⟨hcur, hz, hR⟩ := R.obs n _ hob
  rcases hR with ⟨he, _⟩ | ⟨b, c, el, fr, cap, g1, g2, g3, g4, g5, g6, g7, g7', g8, g9⟩
  · subst he; simp at h1
  have hown : (hd n).own = [b] := by simpa using g2
  rw [g1] at p3
  have hblt : b < w.heap.size := (R.own n b (by rw [hob]; simp) (by rw [hown]; simp)).2
  have hm : (w.freeze ⟨b, c.size, none⟩ 1).heap[b]? = some (.cells c el (if fr.1 == fr.2 then (c.size, c.size + 1) else (min fr.1 c.size, max fr.2 (c.size + 1)))) := by
    obtain ⟨f1, f2⟩ := fr
    show (w.heap.modify b _)[b]? = _
    rw [Array.getElem?_modify, if_pos rfl, g4]; rfl
  have hfr : Fr (hd n).own w (w.freeze ⟨b, c.size, none⟩ 1) := by
    rw [hown]
    refine ⟨by simp [World.freeze], by simp [World.freeze], by simp [World.freeze], by simp [World.freeze], fun k hk hb => ?_⟩
    have hne : k ≠ b := by simpa using hb
    simp [World.freeze, Array.getElem?_modify, Ne.symm hne]
  have hshape : w.shape? b = some (el, c.size) := by simp [World.shape?, g4]
  refine goes_value (w' := w.freeze ⟨b, c.size, none⟩ 1) (v := a.eval x) (ok' := ok) (hd' := setF hd n (hd n)) ?_ hk ?_ ?_
  · simp [execOp, ho, p3, convert, run_underlying hu, run_underlying he, markStringish, hshape]
  · rw [updO_one]
    refine R.turn hob hfr (fun b2 hb2 => ⟨.inl hb2, Nat.lt_of_lt_of_le (R.own n b2 (by rw [hob]; simp) hb2).2 hfr.size⟩) (le_row hob rfl) ?_
    refine ⟨hcur, hz, .inr ⟨b, c, el, _, cap, g1, g2, g3, hm, ?_, g6, g7, g7', g8, ?_⟩⟩
    · by_cases q : fr.1 = fr.2
      · rw [if_pos (by simpa using q)]; exact .inr (Nat.le_refl _)
      · rw [if_neg (by simpa using q)]
        rcases g5 with g5 | g5
        · exact absurd g5 q
        · exact .inr (by simp only; omega)
    · intro i j x t h1 h2
      obtain ⟨v, r1, r2⟩ := g9 i j x t h1 h2
      exact ⟨v, r1, r2.mono (fun _ h => h) fun k hk => hfr.block k (R.okLt k hk) fun q => (R.own n k (by rw [hob]; simp) q).1 hk⟩
  · rw [updO_one]
    exact .one _ _ (ref_row p2 (by rw [p3, g1]) p3)

theorem op_convert {src dst n : Nat} {x : Operand} (ho : o.op = .convert src dst x) (hT : TabOk P tab) (R : Rel E ok hd tm ob a.tmps w)
    (h : (sConv std tab n dst src ob (ev tm x)).holds std cl K) : Goes P E tm ob a.tmps K o a w := by
  unfold sConv at h
  split at h
  rotate_left
  · exact h.elim
  rename_i ti ti' v hs hd' hx
  obtain ⟨d, hu, hkd, _⟩ := (hT src ti hs).kd
  obtain ⟨d', hu', hkd', _⟩ := (hT dst ti' hd').kd
  have hv := (ev_rel R hx).one_inv
  split at h
  · -- numbers
    rename_i k0 k e1 e2
    rw [e1] at hkd; rw [e2] at hkd'
    have hkd : d = .int k0 := hkd
    have hkd' : d' = .int k := hkd'
    subst hkd; subst hkd'
    split at h
    · rename_i k1 m
      obtain ⟨hm, hb⟩ := hv.int_inv
      refine goes_t R (v := .int k (k.wrap m)) ?_ (h hb) (.int _ _ (wrap_has _ _))
      simp [execOp, ho, hm, convert, run_underlying hu, run_underlying hu', Conv.intToInt]
    · exact h.elim
  · rename_i e1 e2
    rw [e1] at hkd; rw [e2] at hkd'
    have hkd : d = .string := hkd
    have hkd' : d' = .string := hkd'
    subst hkd; subst hkd'
    split at h
    · rename_i s
      obtain ⟨u, hm, hs, hb⟩ := hv.str_inv
      subst hs
      refine goes_t R (v := .string u) ?_ h (.str _ hb)
      simp [execOp, ho, hm, convert, run_underlying hu, run_underlying hu']
    · exact h.elim
  · -- a text's bytes
    rename_i e e1 e2
    rw [e1] at hkd; rw [e2] at hkd'
    have hkd : d = .string := hkd
    have hkd' : d' = .slice e := hkd'
    subst hkd; subst hkd'
    split at h
    rotate_left
    · exact h.elim
    rename_i s te hte
    split at h
    rotate_left
    · exact h.elim
    rename_i e3
    obtain ⟨d2, hu2, hkd2, _⟩ := (hT e te hte).kd
    rw [e3] at hkd2
    have hkd2 : d2 = .int .u8 := hkd2
    subst hkd2
    obtain ⟨hbig, h⟩ := h
    unfold SR.new at h
    split at h
    rotate_left
    · exact h.elim
    rename_i hn
    obtain ⟨u, hm, hs', hb⟩ := hv.str_inv
    subst hs'
    have hbig' : u.size ≤ 2 ^ 46 := by have : u.data.toList.length ≤ 2 ^ 46 := hbig; simpa using this
    have hg := grown_le w u.size e
    have hcs : (Lib.bytesCells w e u).size = grownCap w u.size 0 e := by
      simp [Lib.bytesCells]; omega
    have hes : (std.ofStr u.data.toList) = encB u.data.toList := rfl
    rw [hes] at h
    have hlen : (encB u.data.toList).length = u.size := by simp [encB]
    have R' := rel_rowAt (n := n) (sz := 1) (cap := grownCap w u.size 0 e) (es := encB u.data.toList) (cur := n) (tags := [n]) R hn (bytesWorld_ext w e u) (by rw [Lib.bytesWorld_size]; omega)
      (Lib.bytesWorld_at_new w e u) (.inr (Nat.le_refl _)) (by simp) (by omega) (by rw [hcs]; simp) (by rw [hlen]; exact hg) (by rw [hlen]; omega) encB_wid (by
        intro i j x t hx ht
        obtain ⟨v, h1, h2⟩ := (flat_bytes (w := w) (ok := ok) u).rep i j x t hx ht
        have hi : i < u.size := by
          by_cases q : i < (encB u.data.toList).length
          · omega
          · rw [List.getElem?_eq_none (by omega)] at hx; cases hx
        have hj : j = 0 := by
          have := encB_wid x (List.mem_of_getElem? hx)
          by_cases q : j < x.length
          · omega
          · rw [List.getElem?_eq_none (by omega)] at ht; cases ht
        subst hj
        refine ⟨v, ?_, h2⟩
        rw [← h1]
        simp only [Lib.bytesCells, byteCells]
        rw [Array.getElem?_append_left (by simpa using hi)]
        simp)
    rw [hlen] at R'
    refine goes_value (v := .slice (some ⟨w.heap.size, 0, none⟩) u.size (grownCap w u.size 0 e)) ?_ h (by rw [updO_one]; exact R') (by rw [updO_one]; exact .one _ _ (ref_row (by simp) rfl rfl))
    simp [execOp, ho, hm, Lib.run_convert_string_bytes w src dst e u hu hu' hu2]
  · -- bytes that stood in the text
    rename_i e e' e1 e2
    rw [e1] at hkd; rw [e2] at hkd'
    have hkd : d = .slice e := hkd
    subst hkd
    unfold sMark at h
    split at h
    rotate_left
    · exact h.elim
    rename_i n g
    split at h
    rotate_left
    · exact h.elim
    rename_i te hte
    split at h
    rotate_left
    · exact h.elim
    rename_i e3
    split at h
    rotate_left
    · exact h.elim
    rename_i sz es cur tags hob
    obtain ⟨hb, h'⟩ := bif_inv h
    rw [Bool.and_eq_true] at hb
    obtain ⟨hb1, hb2⟩ := hb
    have hds := eq_of_eqB hb1
    subst hds
    obtain ⟨d2, hu2, hkd2, _⟩ := (hT e te hte).kd
    rw [e3] at hkd2
    have hkd2 : d2 = .int .u8 := hkd2
    subst hkd2
    exact op_mark ho hu hu2 R hx hob (eq_of_eqB hb2) h'.1 h'.2
  · -- bytes as a text
    rename_i e e1 e2
    rw [e1] at hkd; rw [e2] at hkd'
    have hkd : d = .slice e := hkd
    have hkd' : d' = .string := hkd'
    subst hkd; subst hkd'
    split at h
    rotate_left
    · exact h.elim
    rename_i es te hes hte
    split at h
    rotate_left
    · exact h.elim
    rename_i e3
    obtain ⟨d2, hu2, hkd2, _⟩ := (hT e te hte).kd
    rw [e3] at hkd2
    have hkd2 : d2 = .int .u8 := hkd2
    subst hkd2
    obtain ⟨l, rfl, h⟩ := h
    have hrep : Rep w (frzK ok hd ob v.refs) (a.eval x) (.sl (encB l)) := by
      have hv' := hv.mono (ok' := frzK ok hd ob v.refs) (w' := w) (fun _ h => .inl h) (fun _ _ => rfl) (le_frz (hd := hd) (ob := ob) v.refs)
      refine VR.rep (R.toORel.freeze v.refs) hv' ?_ (allFr_frzO ob _)
      rw [← tree_frz]; exact hes
    have hsz := hrep.slice_inv
    obtain ⟨_, _, _, hsz⟩ := hsz
    rw [encB_len] at hsz
    have key : (convert src dst (a.eval x)).run P w = .ok (.string ⟨l.toArray⟩) w := by
      generalize a.eval x = p at hrep
      generalize hq : encB l = es at hrep
      cases hrep with
      | snil =>
        have : l = [] := by cases l with | nil => rfl | cons => simp [encB] at hq
        subst this
        rw [run_convert_bytes_nil w src e hu hu2 0 0 dst hu']
        rfl
      | szero z =>
        have : l = [] := by cases l with | nil => rfl | cons => simp [encB] at hq
        subst this
        rw [run_convert_bytes_string w src dst e _ 0 0 hu hu2 hu', run_bytesToString w z 0 0 [] (by simp [loadCells, loadCellsFrom])]
        rfl
      | sl b off cap sz _ vs hm hcap hsz' hok hc hr =>
        subst hq
        have hs1 : l ≠ [] → sz = 1 := by
          intro hne
          cases l with
          | nil => exact absurd rfl hne
          | cons b0 l => exact (hsz' [.int .u8 b0.toNat] (by simp [encB])).symm
        have hx := run_convert_bytes_arg (P := P) w src e hu hu2 b off (encB l).length cap (l.map fun b => (b.toNat : Int)) (by simp [encB]) (fun i hi => by
          have hi' : i < l.length := by simpa [encB] using hi
          have h1 : sz = 1 := hs1 (by intro e; subst e; simp at hi')
          have hget : (encB l)[i]? = some [.int .u8 (l[i].toNat)] := by simp [encB, List.getElem?_eq_getElem hi']
          have h3 := hc i 0 (by simpa [encB] using hi') (by omega)
          have h4 := hr i 0 _ _ hget rfl
          rw [h1, Nat.mul_one, Nat.add_zero] at h3
          rw [h3]
          generalize vs i 0 = q at h4
          cases h4
          simp [List.getD, hi']) dst hu'
        rw [hx]
        congr 2
        simp [strOfNums, List.map_map]
        conv => rhs; rw [← List.map_id l]
        apply List.map_congr_left
        intro b _
        simp
    refine goes_t R (v := .string ⟨l.toArray⟩) ?_ h ?_
    · simp [execOp, ho, key]
    · have := Rep.str (w := w) (ok := ok) ⟨l.toArray⟩ (by show l.toArray.size ≤ _; simp; omega)
      simpa using this
  · exact h.elim

end Go.TL

/- TlR -/
namespace Go.TL
open Go

variable {P : Program} {E : Env P} {ok : Nat → Prop} {hd : HF} {tm : Nat → Option A} {ob : OF} {w : World} {a : Act} {K : A → Obs → Prop} {o : Oper} {tab : TF} {cl : Nat → List A → Obs → (A → Obs → Prop) → Prop} {tmps : Array Value}

theorem bif_and {c d : Bool} (h : (c && d) = true) : c = true ∧ d = true := by simpa using h

/-- Where the fields lie. -/
theorem places_ok (P : Program) : ∀ (l : List Field), (∀ f ∈ l, P.cellsOf f.type ≠ 0) → ∃ pl, l.mapM (fun f => (P.info? f.type).map fun i => (f.offset, i.size)) = some pl ∧
    ∀ (i : Nat) off u, (l.map (fun f => (f.offset, f.type)))[i]? = some (off, u) → ∃ inf, P.info? u = some inf ∧ pl[i]? = some (off, inf.size)
  | [], _ => ⟨[], rfl, by simp⟩
  | f :: l, h => by
    obtain ⟨pl, h1, h2⟩ := places_ok P l (fun g hg => h g (by simp [hg]))
    have hf := h f (by simp)
    cases hi : P.info? f.type with
    | none => simp [Program.cellsOf, hi] at hf
    | some inf =>
      refine ⟨(f.offset, inf.size) :: pl, ?_, ?_⟩
      · simp [List.mapM_cons, hi, h1]
      · intro i off u hx
        cases i with
        | zero => simp at hx; obtain ⟨rfl, rfl⟩ := hx; exact ⟨inf, hi, rfl⟩
        | succ i => simp only [List.map_cons, List.getElem?_cons_succ] at hx ⊢; exact h2 i off u hx

theorem fill_rel (hT : TabOk P tab) (R : Rel E ok hd tm ob a.tmps w) {fs : List (Nat × Nat)} {pf : Nat → Option (Nat × Nat)} (hpl : ∀ (i : Nat) off u, fs[i]? = some (off, u) → ∃ inf, P.info? u = some inf ∧ pf i = some (off, inf.size)) :
    ∀ (ps : List (Nat × Operand)) (cs cs' : List V) (cells : Array Value), fillS tab fs cs (ps.map fun p => (p.1, ev tm p.2)) = some cs' → cells.size = cs.length → (∀ (j : Nat) v x, cells[j]? = some v → cs[j]? = some x → VR w ok hd ob v x) →
      ∃ cells', Instr.fill pf cells (ps.map fun p => (p.1, a.eval p.2)) = some cells' ∧ cells'.size = cs'.length ∧ ∀ (j : Nat) v x, cells'[j]? = some v → cs'[j]? = some x → VR w ok hd ob v x := by
  intro ps
  induction ps with
  | nil => intro cs cs' cells h hl hr; simp [fillS] at h; subst h; exact ⟨cells, rfl, hl, hr⟩
  | cons p ps ih =>
    intro cs cs' cells h hl hr
    obtain ⟨i, x⟩ := p
    simp only [List.map_cons] at h ⊢
    cases hx : ev tm x with
    | none => rw [hx] at h; simp [fillS] at h
    | some av =>
      rw [hx] at h
      simp only [fillS] at h
      split at h
      rotate_left
      · cases h
      rename_i off u vs hf hvs
      split at h
      rotate_left
      · cases h
      rename_i ti hti
      obtain ⟨hc, h⟩ := (show (eqB vs.length ti.size && leB (off + vs.length) cs.length) = true ∧ _ from by
        cases hb : (eqB vs.length ti.size && leB (off + vs.length) cs.length) with
        | true => rw [hb] at h; exact ⟨rfl, h⟩
        | false => rw [hb] at h; cases h)
      obtain ⟨hc1, hc2⟩ := bif_and hc
      have hc1 := eq_of_eqB hc1
      have hc2 := le_of_leB hc2
      obtain ⟨inf, hinf, hplace⟩ := hpl i off u hf
      obtain ⟨inf', hinf', hsz, _⟩ := (hT u ti hti).info
      rw [hinf] at hinf'; injection hinf' with hinf'; subst hinf'
      obtain ⟨hs, hvr⟩ := (ev_rel R hx).cells hvs
      obtain ⟨g1, g2⟩ := Great.foldl_set off (a.eval x).cells.toList 0 cells
      obtain ⟨cells', r1, r2, r3⟩ := ih (setAt cs off vs) cs' ((a.eval x).cells.toList.zipIdx.foldl (fun cs (x : Value × Nat) => cs.setIfInBounds (off + x.2) x.1) cells) h (by rw [g1, hl, length_setAt]) (fun j v y hv hy => by
        rw [g2 j] at hv
        rw [getElem?_setAt _ _ _ _ (by omega)] at hy
        have hs' : (a.eval x).cells.toList.length = vs.length := by simpa using hs
        rw [hs', Nat.add_zero] at hv
        by_cases q : off ≤ j ∧ j < off + vs.length
        · rw [if_pos q] at hy
          rw [if_pos ⟨q.1, q.2, by omega⟩] at hv
          exact hvr _ v y (by simpa using hv) hy
        · rw [if_neg q] at hy
          rw [if_neg (by omega)] at hv
          exact hr j v y hv hy)
      refine ⟨cells', ?_, r2, r3⟩
      unfold Instr.fill
      simp only [hplace]
      rw [if_neg (by simp; omega)]
      rw [← r1]
      congr 1
      rw [← Array.foldl_toList, Array.toList_zipIdx]

theorem arrP_get : ∀ (m e j : Nat), (arrP m e)[j]? = if j < m then some (j, e) else none := by
  intro m e j
  unfold arrP
  rw [List.getElem?_map]
  by_cases h : j < m
  · rw [List.getElem?_range h, if_pos h]; rfl
  · rw [List.getElem?_eq_none (by simp; omega), if_neg h]; rfl
theorem setAt_mid {v y : V} {rest : List V} : ∀ (pre : List V), setAt (pre ++ y :: rest) pre.length [v] = pre ++ v :: rest
  | [] => by simp [setAt]
  | a :: pre => by
    simp only [List.cons_append, List.length_cons, setAt]
    rw [setAt_mid pre]
theorem fillS_row {m e : Nat} {te : TI} (hte : tab e = some te) (hs : te.size = 1) : ∀ (ps : List (Nat × Option A)) (k : Nat) (pre rest cs : List V), cellsL 1 k ps = some cs → pre.length = k → cs.length ≤ rest.length → k + cs.length ≤ m →
    fillS tab (arrP m e) (pre ++ rest) ps = some (pre ++ cs ++ rest.drop cs.length)
  | [], k, pre, rest, cs, h, _, _, _ => by simp [cellsL] at h; subst h; simp [fillS]
  | (i, none) :: r, k, pre, rest, cs, h, _, _, _ => by simp [cellsL] at h
  | (i, some a) :: r, k, pre, rest, cs, h, hp, hl, hm => by
    simp only [cellsL] at h
    split at h
    rotate_left
    · cases h
    rename_i vs ls hvs hls
    cases hb : (eqB i k && eqB vs.length 1) with
    | false => rw [hb] at h; cases h
    | true =>
      rw [hb] at h
      injection h with h
      obtain ⟨h1, h2⟩ := bif_and hb
      have h1 := eq_of_eqB h1
      have h2 := eq_of_eqB h2
      subst h1
      match vs, h2 with
      | [v], _ =>
        subst h
        match rest, hl with
        | y :: rest, hl =>
          have hl2 : ls.length ≤ rest.length := by simp at hl; omega
          have hm2 : i + 1 + ls.length ≤ m := by simp at hm; omega
          have ih := fillS_row hte hs r (i + 1) (pre ++ [v]) rest ls hls (by simp [hp]) hl2 hm2
          have hc : (eqB [v].length te.size && leB (i + [v].length) (pre ++ y :: rest).length) = true := by
            rw [Bool.and_eq_true, eqB_iff, leB_iff]
            simp [hs]; omega
          simp only [fillS]
          rw [arrP_get, if_pos (show i < m by omega), hvs]
          simp only [hte, hc, cond_true]
          have hsm := setAt_mid (v := v) (y := y) (rest := rest) pre
          rw [hp] at hsm
          rw [hsm, show pre ++ v :: rest = (pre ++ [v]) ++ rest by simp, ih]
          simp
theorem op_build {t : Nat} {parts : Array (Nat × Operand)} (ho : o.op = .build t parts) (hT : TabOk P tab) (R : Rel E ok hd tm ob a.tmps w)
    (h : (sBuild tab t (parts.toList.map fun p => (p.1, ev tm p.2))).holds std cl K) : Goes P E tm ob a.tmps K o a w := by
  unfold sBuild at h
  split at h
  rotate_left
  · exact h.elim
  rename_i ti hti
  split at h
  rotate_left
  · rename_i m e z hk hz
    split at h
    rotate_left
    · exact h.elim
    rename_i te hte
    split at h
    rotate_left
    · exact h.elim
    rename_i cs hcl
    obtain ⟨hb, h'⟩ := bif_inv h
    clear h
    simp only [Bool.and_eq_true] at hb
    have hs1 := eq_of_eqB hb.1
    have hcz := eq_of_eqB hb.2.1
    have hcm := eq_of_eqB hb.2.2
    have hcs := fillS_row (m := m) (e := e) hte hs1 _ 0 [] z cs hcl rfl (by omega) (by omega)
    rw [List.nil_append, List.nil_append, List.drop_eq_nil_of_le (by omega), List.append_nil] at hcs
    obtain ⟨d, hu, hkd, _⟩ := (hT t ti hti).kd
    rw [hk] at hkd
    have hkd : d = .array m e := hkd
    subst hkd
    obtain ⟨i, hi, hsz, hby, hzero⟩ := (hT t ti hti).info
    obtain ⟨zv, hzv, hzs, hzl, hzr⟩ := hzero z hz
    obtain ⟨ie, hie, hies, _⟩ := (hT e te hte).info
    obtain ⟨cells', r1, r2, r3⟩ := fill_rel hT R (fs := arrP m e) (pf := fun i => some (i * ie.size, ie.size)) (fun j off u hj => by
      rw [arrP_get] at hj
      split at hj
      · injection hj with hj; injection hj with e1 e2; subst e1; subst e2
        exact ⟨ie, hie, by simp [hies, hs1]⟩
      · cases hj) parts.toList z cs zv.cells hcs hzs (fun j v x hv hx => (hzr j v x hv hx).vr w ok hd ob)
    have hb : P.built t (parts.map fun (i, x) => (i, a.eval x)).toList = some cells' := by
      unfold Program.built
      simp only [hi, hu, hzv, hie]
      rw [← r1]
      simp
    refine goes_value (v := .agg cells') (w' := w) ?_ h' R.toNil ?_
    · simp [execOp, ho, run_build w t _ _ hb]
    · have := AR.agg (w := w) (ok := ok) (hd := hd) (ob := ob) cells'.toList cs (by simpa using r2) (fun i c x p q => r3 i c x (by simpa using p) q)
      rw [updO_nil]; simpa using this
  · exact h.elim
  rename_i fs z hk hz
  split at h
  rotate_left
  · exact h.elim
  rename_i cs hcs
  obtain ⟨d, hu, hkd, _⟩ := (hT t ti hti).kd
  rw [hk] at hkd
  obtain ⟨flds, rfl, hfs, hne⟩ := hkd
  obtain ⟨i, hi, hsz, hby, hzero⟩ := (hT t ti hti).info
  obtain ⟨zv, hzv, hzs, hzl, hzr⟩ := hzero z hz
  obtain ⟨pl, hpl1, hpl2⟩ := places_ok P flds.toList hne
  rw [hfs] at hpl2
  obtain ⟨cells', r1, r2, r3⟩ := fill_rel hT R (fun i off u hi => by obtain ⟨inf, p1, p2⟩ := hpl2 i off u hi; exact ⟨inf, p1, by simpa using p2⟩) (pf := (pl.toArray[·]?)) parts.toList z cs zv.cells hcs hzs (fun j v x hv hx => (hzr j v x hv hx).vr w ok hd ob)
  have hb : P.built t (parts.map fun (i, x) => (i, a.eval x)).toList = some cells' := by
    unfold Program.built
    simp only [hi, hu, hzv, hpl1]
    rw [← r1]
    simp
  refine goes_value (v := .agg cells') (w' := w) ?_ h R.toNil ?_
  · simp [execOp, ho, run_build w t _ _ hb]
  · have := AR.agg (w := w) (ok := ok) (hd := hd) (ob := ob) cells'.toList cs (by simpa using r2) (fun i c x p q => r3 i c x (by simpa using p) q)
    rw [updO_nil]; simpa using this

theorem trees_frz (ns : List Nat) : ∀ (vs : List V), trees (frzO ob ns) vs = trees ob vs
  | [] => rfl
  | v :: vs => by simp only [trees, trees_frz ns vs, ← tree_frz]
theorem vrefs_cells {av : A} {vs : List V} (h : av.cells = some vs) : vrefs vs = av.refs := by
  cases av with
  | one v =>
    have hne : v ≠ .any := by intro e; subst e; cases h
    have : some [v] = some vs := by cases v <;> first | exact h | exact absurd rfl hne
    injection this with this; subst this
    simp [vrefs, A.refs]
  | agg l => simp only [A.cells] at h; injection h with h; subst h; rfl
  | tup l => cases h

theorem elems_rel (R : Rel E ok hd tm ob a.tmps w) {sz : Nat} (ns : List Nat) : ∀ (ps : List (Nat × Operand)) (k : Nat) (es : List (List T)), elemsOf ob sz k (ps.map fun p => (p.1, ev tm p.2)) = some es →
    (∀ n, n ∈ refsOf (ps.map fun p => (p.1, ev tm p.2)) → n ∈ ns) →
    ps.map (fun p => (p.1, a.eval p.2)) = ((ps.map fun p => a.eval p.2).zipIdx k).map (fun x => (x.2, x.1)) ∧ es.length = ps.length ∧ (∀ e ∈ es, e.length = sz) ∧ (∀ v ∈ ps.map (fun p => a.eval p.2), v.cells.size = sz) ∧
      ∀ (i j : Nat) e t, es[i]? = some e → e[j]? = some t → ∃ v c, (ps.map fun p => a.eval p.2)[i]? = some v ∧ v.cells[j]? = some c ∧ Rep w (frzK ok hd ob ns) c t := by
  intro ps
  induction ps with
  | nil => intro k es h _; simp [elemsOf] at h; subst h; simp
  | cons p ps ih =>
    intro k es h hns
    obtain ⟨i, x⟩ := p
    simp only [List.map_cons] at h hns ⊢
    cases hx : ev tm x with
    | none => rw [hx] at h; simp [elemsOf] at h
    | some av =>
      rw [hx] at h hns
      simp only [elemsOf] at h
      split at h
      rotate_left
      · cases h
      rename_i vs hvs
      split at h
      rotate_left
      · cases h
      rename_i l ls hl hls
      obtain ⟨hc, h⟩ := (show (eqB i k && eqB l.length sz) = true ∧ some (l :: ls) = some es from by
        cases hb : (eqB i k && eqB l.length sz) with
        | true => rw [hb] at h; exact ⟨rfl, h⟩
        | false => rw [hb] at h; cases h)
      injection h with h; subst h
      obtain ⟨hc1, hc2⟩ := bif_and hc
      have hc1 := eq_of_eqB hc1
      have hc2 := eq_of_eqB hc2
      subst hc1
      obtain ⟨k1, k2, k3, k4, k5⟩ := ih (i + 1) ls hls (fun n hn => hns n (by simp [refsOf, hn]))
      obtain ⟨hs, hvr⟩ := (ev_rel R hx).cells hvs
      have hfr : AllFr (frzO ob ns) (vrefs vs) := by
        intro n hn o ho
        exact allFr_frzO ob ns n (hns n (by rw [vrefs_cells hvs] at hn; simp [refsOf, hn])) o ho
      obtain ⟨t1, t2⟩ := trees_rel (R.toORel.freeze ns) (cvs := (a.eval x).cells.toList) (vs := vs) (ts := l) (by rw [trees_frz]; exact hl) (by simpa using hs)
        (fun j c y p q => (hvr j c y (by simpa using p) q).mono (fun _ h => .inl h) (fun _ _ => rfl) (le_frz ns)) hfr
      have hsz : (a.eval x).cells.size = sz := by rw [← hc2, ← t1]; simp
      refine ⟨?_, by simp [k2], ?_, ?_, ?_⟩
      · simp only [List.zipIdx_cons, List.map_cons, k1]
      · intro e he
        rcases List.mem_cons.1 he with rfl | he
        · exact hc2
        · exact k3 e he
      · intro v hv
        rcases List.mem_cons.1 hv with rfl | hv
        · exact hsz
        · exact k4 v hv
      · intro i' j e t he ht
        cases i' with
        | zero =>
          simp at he; subst he
          have hj : j < l.length := by by_cases q : j < l.length; exact q; rw [List.getElem?_eq_none (by omega)] at ht; cases ht
          have hj2 : j < (a.eval x).cells.toList.length := by omega
          exact ⟨_, (a.eval x).cells.toList[j], rfl, by simp, t2 j _ t (List.getElem?_eq_getElem hj2) ht⟩
        | succ i' =>
          obtain ⟨v, c, q1, q2, q3⟩ := k5 i' j e t (by simpa using he) ht
          exact ⟨v, c, by simpa using q1, q2, q3⟩

theorem cells_relL (R : Rel E ok hd tm ob a.tmps w) {sz : Nat} : ∀ (ps : List (Nat × Operand)) (k : Nat) (cs : List V), cellsL sz k (ps.map fun p => (p.1, ev tm p.2)) = some cs →
    ps.map (fun p => (p.1, a.eval p.2)) = ((ps.map fun p => a.eval p.2).zipIdx k).map (fun x => (x.2, x.1)) ∧ cs.length = ps.length * sz ∧ (∀ v ∈ ps.map (fun p => a.eval p.2), v.cells.size = sz) ∧
      ∀ (j : Nat) x, cs[j]? = some x → ∃ v c, 0 < sz ∧ (ps.map fun p => a.eval p.2)[j / sz]? = some v ∧ v.cells[j % sz]? = some c ∧ VR w ok hd ob c x := by
  intro ps
  induction ps with
  | nil => intro k cs h; simp [cellsL] at h; subst h; simp
  | cons p ps ih =>
    intro k cs h
    obtain ⟨i, x⟩ := p
    simp only [List.map_cons] at h ⊢
    cases hx : ev tm x with
    | none => rw [hx] at h; simp [cellsL] at h
    | some av =>
      rw [hx] at h
      simp only [cellsL] at h
      split at h
      rotate_left
      · cases h
      rename_i vs ls hvs hls
      obtain ⟨hc, h⟩ := (show (eqB i k && eqB vs.length sz) = true ∧ some (vs ++ ls) = some cs from by
        cases hb : (eqB i k && eqB vs.length sz) with
        | true => rw [hb] at h; exact ⟨rfl, h⟩
        | false => rw [hb] at h; cases h)
      injection h with h; subst h
      obtain ⟨hc1, hc2⟩ := bif_and hc
      have hc1 := eq_of_eqB hc1
      have hc2 := eq_of_eqB hc2
      subst hc1
      obtain ⟨k1, k2, k3, k4⟩ := ih (i + 1) ls hls
      obtain ⟨hs, hvr⟩ := (ev_rel R hx).cells hvs
      refine ⟨by simp only [List.zipIdx_cons, List.map_cons, k1], by simp [k2, hc2, Nat.add_mul]; omega, ?_, ?_⟩
      · intro v hv
        rcases List.mem_cons.1 hv with rfl | hv
        · omega
        · exact k3 v hv
      · intro j y hj
        by_cases q : j < vs.length
        · rw [List.getElem?_append_left q] at hj
          have hz : 0 < sz := by omega
          have e1 : j / sz = 0 := Nat.div_eq_of_lt (by omega)
          have e2 : j % sz = j := Nat.mod_eq_of_lt (by omega)
          have hlt : j < (a.eval x).cells.size := by omega
          exact ⟨a.eval x, (a.eval x).cells[j], hz, by rw [e1]; rfl, by rw [e2]; simp [hlt], hvr j _ y (by simp [hlt]) hj⟩
        · rw [List.getElem?_append_right (by omega)] at hj
          obtain ⟨v, c, hz, q1, q2, q3⟩ := k4 (j - vs.length) y hj
          have e : j = (j - vs.length) + sz := by omega
          refine ⟨v, c, hz, ?_, ?_, q3⟩
          · rw [e, Nat.add_div_right _ hz]; exact q1
          · rw [e, Nat.add_mod_right]; exact q2

theorem op_buildBox {t n len e : Nat} {te : TI} {parts : Array (Nat × Operand)} (ho : o.op = .buildSlice t len parts) (hT : TabOk P tab) (hu : P.underlying t = some (.slice e)) (hte : tab e = some te) (R : Rel E ok hd tm ob a.tmps w)
    (h : (sBuildBox tab te n len ob (parts.toList.map fun p => (p.1, ev tm p.2))).holds std cl K) : Goes P E tm ob a.tmps K o a w := by
  unfold sBuildBox at h
  split at h
  rotate_left
  · exact h.elim
  rename_i cs hcs
  obtain ⟨hc, h⟩ := bif_inv h
  obtain ⟨hc, hc6⟩ := bif_and hc
  obtain ⟨hc, hc5⟩ := bif_and hc
  obtain ⟨hc, hc4⟩ := bif_and hc
  obtain ⟨hc, hc3⟩ := bif_and hc
  obtain ⟨hc1, hc2⟩ := bif_and hc
  have hc1 := eq_of_eqB hc1
  have hc2 : 1 ≤ te.size := le_of_leB hc2
  have hc3 := le_of_leB hc3
  have hc5 : 1 ≤ len := le_of_leB hc5
  obtain ⟨i, hi, hsz, hby, hzero⟩ := (hT e te hte).info
  obtain ⟨z, hz⟩ := Option.isSome_iff_exists.1 hc4
  obtain ⟨zv, hzv, hzs, hzl, hzr⟩ := hzero z hz
  obtain ⟨k1, k2, k4, k5⟩ := cells_relL R parts.toList 0 cs hcs
  have hlen : len = parts.toList.length := by
    have : len * te.size = parts.toList.length * te.size := by rw [← hc1, k2]
    exact Nat.eq_of_mul_eq_mul_right (by omega) this
  have hle : len ≤ len * te.size := Nat.le_mul_of_pos_right _ hc2
  obtain ⟨cells, r1, r2, r3⟩ : ∃ cells : Array Value, (Instr.buildSlice t len (parts.map fun (i, x) => (i, a.eval x))).run P w = .ok (.slice (some ⟨w.heap.size, 0, none⟩) len len) (w.alloc (.cells cells e)) ∧ cells.size = len * te.size ∧
      ∀ (i j : Nat) v, i < len → j < te.size → (parts.toList.map fun p => a.eval p.2)[i]? = some v → cells[i * te.size + j]? = v.cells[j]? := by
    have hps : (parts.map fun (i, x) => (i, a.eval x)).toList = parts.toList.map (fun p => (p.1, a.eval p.2)) := by simp
    obtain ⟨r, hr1, hr2, hr3⟩ := Great.fill_dense (s := te.size) (by omega) (parts.toList.map fun p => a.eval p.2) 0 ((Array.range (len * i.size)).map (zv.cells[· % zv.cells.size]!)) k4 (by simp [hsz, hlen])
    refine ⟨r, ?_, by rw [hr2]; simp [hsz], ?_⟩
    · refine run_buildSlice w t e len _ r i zv hu hi hzv (by rw [hsz]; omega) (by rw [hsz]; have := Nat.mul_pos hc5 hc2; omega) ?_
      rw [hps, k1, hsz]
      rw [hsz] at hr1
      exact hr1
    · intro i' j v hi' hj hv
      rw [hr3]
      have hlt : (i' + 1) * te.size ≤ len * te.size := Nat.mul_le_mul_right _ hi'
      rw [Nat.succ_mul] at hlt
      have e1 : (i' * te.size + j) / te.size = i' := by rw [Nat.mul_comm, Nat.mul_add_div (by omega), Nat.div_eq_of_lt hj]; omega
      have e2 : (i' * te.size + j) % te.size = j := by rw [Nat.mul_comm, Nat.mul_add_mod, Nat.mod_eq_of_lt hj]
      rw [if_pos ⟨by omega, by simp [← hlen]; omega⟩, e1, e2, Nat.sub_zero, hv]
      rfl
  unfold SR.new at h
  split at h
  rotate_left
  · exact h.elim
  rename_i hn
  have R2 := R.newOb (o := .box cs false) (h := ⟨.pointer (some ⟨w.heap.size, 0, none⟩), [w.heap.size]⟩) hn (alloc_ext w (.cells cells e)) (fun b hb => by simp at hb; subst hb; simp) (by
    refine ⟨w.heap.size, cells, e, (0, 0), rfl, by simp, by simp, alloc_new w (.cells cells e), .inl rfl, by omega, fun j v x hv hx => ?_⟩
    obtain ⟨u, c, _, q1, q2, q3⟩ := k5 j x hx
    have hj : j < len * te.size := by
      by_cases q : j < cs.length
      · omega
      · rw [List.getElem?_eq_none (by omega)] at hx; cases hx
    have hd1 : j / te.size < len := Nat.div_lt_of_lt_mul (by rwa [Nat.mul_comm] at hj)
    have hd2 : j % te.size < te.size := Nat.mod_lt _ (by omega)
    have := r3 (j / te.size) (j % te.size) u hd1 hd2 q1
    rw [show j / te.size * te.size + j % te.size = j by rw [Nat.mul_comm]; exact Nat.div_add_mod j te.size, hv, q2] at this
    injection this with this; subst this
    have hext := alloc_ext w (.cells cells e)
    exact q3.mono (fun _ h => h) (fun b hb => hext.block b (R.okLt b hb)) (le_new hn _ _))
  refine goes_value (v := .slice (some ⟨w.heap.size, 0, none⟩) len len) (w' := w.alloc (.cells cells e)) ?_ h (by rw [updO_one]; exact R2) (by rw [updO_one]; exact .one _ _ ⟨cs, false, w.heap.size, setF_same _ _ _, by rw [setF_same], rfl, by omega⟩)
  simp [execOp, ho, r1]

theorem op_buildSlice {t n len : Nat} {parts : Array (Nat × Operand)} (ho : o.op = .buildSlice t len parts) (hT : TabOk P tab) (R : Rel E ok hd tm ob a.tmps w)
    (h : (sBuildSlice tab t n len ob (parts.toList.map fun p => (p.1, ev tm p.2))).holds std cl K) : Goes P E tm ob a.tmps K o a w := by
  unfold sBuildSlice at h
  split at h
  rotate_left
  · exact h.elim
  rename_i e he
  split at h
  rotate_left
  · exact h.elim
  rename_i te hte
  split at h
  rotate_left
  · exact op_buildBox ho hT (sliceOf_und hT he) hte R h
  · exact h.elim
  rename_i es hes hn
  obtain ⟨hc, h⟩ := bif_inv h
  obtain ⟨hc, hc4⟩ := bif_and hc
  obtain ⟨hc, hc3⟩ := bif_and hc
  obtain ⟨hc1, hc2⟩ := bif_and hc
  have hc1 := eq_of_eqB hc1
  have hc2 : 1 ≤ te.size := le_of_leB hc2
  have hc3 := le_of_leB hc3
  have hu := sliceOf_und hT he
  obtain ⟨i, hi, hsz, hby, hzero⟩ := (hT e te hte).info
  obtain ⟨z, hz⟩ := Option.isSome_iff_exists.1 hc4
  obtain ⟨zv, hzv, hzs, hzl, hzr⟩ := hzero z hz
  have hkeep : ∀ ns, ns = refsOf (parts.toList.map fun p => (p.1, ev tm p.2)) → Goes P E tm ob a.tmps K o a w := by
    intro ns hns
    rw [← hns] at h
    obtain ⟨k1, k2, k3, k4, k5⟩ := elems_rel R ns parts.toList 0 es hes (fun n hn => hns ▸ hn)
    have hle : len ≤ len * te.size := Nat.le_mul_of_pos_right _ hc2
    obtain ⟨cells, r1, r2, r3⟩ : ∃ cells : Array Value, (Instr.buildSlice t len (parts.map fun (i, x) => (i, a.eval x))).run P w = .ok (.slice (some ⟨w.heap.size, 0, none⟩) len len) (w.alloc (.cells cells e)) ∧ cells.size = len * te.size ∧
        ∀ (i j : Nat) v, i < len → j < te.size → (parts.toList.map fun p => a.eval p.2)[i]? = some v → cells[i * te.size + j]? = v.cells[j]? := by
      have hps : (parts.map fun (i, x) => (i, a.eval x)).toList = parts.toList.map (fun p => (p.1, a.eval p.2)) := by simp
      by_cases h0 : len = 0
      · subst h0
        have : parts.toList = [] := by have := k2; rw [hc1] at this; exact List.length_eq_zero_iff.1 this.symm
        have hp : parts = #[] := by cases parts; simp_all
        subst hp
        refine ⟨#[], ?_, by simp, by simp⟩
        simp [Instr.buildSlice, run_underlying hu, sizeOf, typeInfo, hi, Instr.fill, newRow]
        congr 2
        apply Array.eq_empty_of_size_eq_zero
        simp
      · obtain ⟨r, hr1, hr2, hr3⟩ := Great.fill_dense (s := te.size) (by omega) (parts.toList.map fun p => a.eval p.2) 0 ((Array.range (len * i.size)).map (zv.cells[· % zv.cells.size]!)) k4 (by simp [← k2, hc1, hsz])
        refine ⟨r, ?_, by rw [hr2]; simp [hsz], ?_⟩
        · refine run_buildSlice w t e len _ r i zv hu hi hzv (by rw [hsz]; omega) (by rw [hsz]; have := Nat.mul_pos (Nat.pos_of_ne_zero h0) hc2; omega) ?_
          rw [hps, k1, hsz]
          rw [hsz] at hr1
          exact hr1
        · intro i' j v hi' hj hv
          rw [hr3]
          have hlt : (i' + 1) * te.size ≤ len * te.size := Nat.mul_le_mul_right _ hi'
          rw [Nat.succ_mul] at hlt
          have e1 : (i' * te.size + j) / te.size = i' := by rw [Nat.mul_comm, Nat.mul_add_div (by omega), Nat.div_eq_of_lt hj]; omega
          have e2 : (i' * te.size + j) % te.size = j := by rw [Nat.mul_comm, Nat.mul_add_mod, Nat.mod_eq_of_lt hj]
          rw [if_pos ⟨by omega, by simp [← k2, hc1]; omega⟩, e1, e2, Nat.sub_zero, hv]
          rfl
    have R1 := R.freeze ns
    have hn1 : frzO ob ns n = none := by
      unfold frzO
      split
      · rw [hn]; rfl
      · exact hn
    have R2 := rel_rowAt (n := n) (sz := te.size) (cap := len) (es := es) (cur := n) (tags := [n]) R1 hn1 (alloc_ext w _) (by simp) (alloc_new w (.cells cells e (0, 0))) (.inl rfl) (by simp) (by omega) r2 (by omega) (by omega) k3 (by
      intro i' j x t hx ht
      obtain ⟨v, c, q1, q2, q3⟩ := k5 i' j x t hx ht
      have hi' : i' < len := by
        by_cases q : i' < es.length
        · omega
        · rw [List.getElem?_eq_none (by omega)] at hx; cases hx
      have hj : j < te.size := by
        rw [← k3 x (List.mem_of_getElem? hx)]
        by_cases q : j < x.length
        · exact q
        · rw [List.getElem?_eq_none (by omega)] at ht; cases ht
      exact ⟨c, by rw [r3 i' j v hi' hj q1]; exact q2, q3⟩)
    have hob : updO ob ((n, .row te.size es n [n] false) :: frz ob ns) = setF (frzO ob ns) n (some (.row te.size es n [n] false)) := by
      funext m
      simp only [updO, List.reverse_cons, look_append, look_frz, frzO, setF]
      by_cases e : m = n
      · subst e
        by_cases q : m ∈ ns <;> simp [q, hn, look]
      · by_cases q : m ∈ ns
        · cases hb : ob m <;> simp [q, e, look, Ne.symm e]
        · simp [q, e, look, Ne.symm e]
    rw [hc1] at R2
    refine goes_value (v := .slice (some ⟨w.heap.size, 0, none⟩) len len) (w' := w.alloc (.cells cells e)) ?_ h (by rw [hob]; exact R2) (by rw [hob]; exact .one _ _ (ref_row (by simp) rfl rfl))
    simp [execOp, ho, r1]
  exact hkeep _ rfl

theorem op_buildSliceB {t n len : Nat} {parts : Array (Nat × Operand)} (ho : o.op = .buildSlice t len parts) (hT : TabOk P tab) (R : Rel E ok hd tm ob a.tmps w)
    (h : (sBuildSliceB tab t n len ob (parts.toList.map fun p => (p.1, ev tm p.2))).holds std cl K) : Goes P E tm ob a.tmps K o a w := by
  unfold sBuildSliceB at h
  split at h
  rotate_left
  · exact h.elim
  rename_i e he
  split at h
  rotate_left
  · exact h.elim
  rename_i te hte
  exact op_buildBox ho hT (sliceOf_und hT he) hte R h

end Go.TL

/- TlS -/
namespace Go.TL
open Go

variable {P : Program} {E : Env P} {ok : Nat → Prop} {hd : HF} {tm : Nat → Option A} {ob : OF} {w : World} {a : Act} {K : A → Obs → Prop} {o : Oper} {tab : TF} {cl : Nat → List A → Obs → (A → Obs → Prop) → Prop} {tmps : Array Value}

theorem memB_iff {n : Nat} : ∀ {l : List Nat}, memB n l = true ↔ n ∈ l
  | [] => by simp [memB]
  | m :: r => by
    simp only [memB]
    cases h : eqB n m with
    | true => simp [eq_of_eqB h]
    | false =>
      have : n ≠ m := fun e => by subst e; simp at h
      simp [memB_iff (l := r), this]
theorem memB_false {n : Nat} {l : List Nat} : memB n l = false ↔ n ∉ l := by
  rw [← Bool.not_eq_true, memB_iff]
theorem nodupB_iff : ∀ {l : List Nat}, nodupB l = true ↔ l.Nodup
  | [] => by simp [nodupB]
  | n :: r => by
    simp only [nodupB]
    cases h : memB n r with
    | true => simp [memB_iff.1 h]
    | false => simp [memB_false.1 h, nodupB_iff (l := r)]
theorem fsts_map : ∀ (l : List (Nat × Nat)), fsts l = l.map (·.1)
  | [] => rfl
  | (a, b) :: r => by simp [fsts, fsts_map r]
theorem snds_map : ∀ (l : List (Nat × Nat)), snds l = l.map (·.2)
  | [] => rfl
  | (a, b) :: r => by simp [snds, snds_map r]
theorem look_mem {α : Type} {n : Nat} {x : α} : ∀ {l : List (Nat × α)}, look l n = some x → (n, x) ∈ l
  | [], h => by cases h
  | (i, v) :: r, h => by
    by_cases e : i = n
    · subst e; simp [look] at h; subst h; simp
    · simp [look, e] at h; exact .tail _ (look_mem h)
theorem mem_look {α : Type} {n : Nat} {x : α} : ∀ {l : List (Nat × α)}, (l.map (·.1)).Nodup → (n, x) ∈ l → look l n = some x
  | [], _, h => by cases h
  | (i, v) :: r, hn, h => by
    simp only [List.map_cons, List.nodup_cons] at hn
    rcases List.mem_cons.1 h with h | h
    · injection h with h1 h2; subst h1; subst h2; simp [look]
    · have : i ≠ n := fun e => hn.1 (e ▸ List.mem_map.2 ⟨(n, x), h, rfl⟩)
      simp [look, this, mem_look hn.2 h]

structure Ren (ρ : List (Nat × Nat)) : Prop where
  f : (ρ.map (·.1)).Nodup
  s : (ρ.map (·.2)).Nodup
theorem okRen_iff {ρ : List (Nat × Nat)} (h : okRen ρ = true) : Ren ρ := by
  simp only [okRen, Bool.and_eq_true, nodupB_iff, fsts_map, snds_map] at h
  exact ⟨h.1, h.2⟩
theorem Ren.inj {ρ : List (Nat × Nat)} (h : Ren ρ) {o1 o2 o' : Nat} (h1 : (o1, o') ∈ ρ) (h2 : (o2, o') ∈ ρ) : o1 = o2 := by
  have hs := h.s
  clear h
  induction ρ with
  | nil => cases h1
  | cons p r ih =>
    simp only [List.map_cons, List.nodup_cons] at hs
    rcases List.mem_cons.1 h1 with e1 | m1 <;> rcases List.mem_cons.1 h2 with e2 | m2
    · rw [← e1] at e2; injection e2 with e2; exact e2.symm
    · exact absurd (List.mem_map.2 ⟨(o2, o'), m2, by rw [← e1]⟩) hs.1
    · exact absurd (List.mem_map.2 ⟨(o1, o'), m1, by rw [← e2]⟩) hs.1
    · exact ih m1 m2 hs.2
theorem Ren.fn {ρ : List (Nat × Nat)} (h : Ren ρ) {o o1 o2 : Nat} (h1 : (o, o1) ∈ ρ) (h2 : (o, o2) ∈ ρ) : o1 = o2 := by
  have e1 := mem_look h.f h1
  rw [mem_look h.f h2] at e1
  injection e1 with e1; exact e1.symm

/-- The old name. -/
def inv (ρ : List (Nat × Nat)) (n : Nat) : Option Nat := look (ρ.map fun p => (p.2, p.1)) n
theorem inv_some {ρ : List (Nat × Nat)} (h : Ren ρ) {o o' : Nat} : inv ρ o' = some o ↔ (o, o') ∈ ρ := by
  constructor
  · intro e
    obtain ⟨⟨x, y⟩, hm, e1⟩ := List.mem_map.1 (look_mem e)
    injection e1 with e1 e2
    simp only at e1 e2
    subst e1; subst e2
    exact hm
  · intro e
    refine mem_look ?_ (List.mem_map.2 ⟨(o, o'), e, rfl⟩)
    rw [List.map_map]
    exact h.s
theorem keep7_eq {o c : Nat} (h : keep7 o c = 7) : c = 7 := by
  unfold keep7 at h
  cases e : eqB c 7 with
  | true => exact eq_of_eqB e
  | false => rw [e] at h; cases h
def hdR (ρ : List (Nat × Nat)) (hd : HF) : HF := fun n => match inv ρ n with
  | some o => hd o
  | none => hd n
def obR (ρ : List (Nat × Nat)) (g : Nat → Nat → Nat) (ob : OF) : OF := fun n => match inv ρ n with
  | some o => (ob o).map (Ob.ren ρ g ob o)
  | none => none
theorem hdR_of {ρ : List (Nat × Nat)} (h : Ren ρ) {o o' : Nat} (e : (o, o') ∈ ρ) : hdR ρ hd o' = hd o := by
  simp [hdR, (inv_some h).2 e]
theorem obR_of {ρ : List (Nat × Nat)} (h : Ren ρ) {o o' : Nat} {g : Nat → Nat → Nat} (e : (o, o') ∈ ρ) : obR ρ g ob o' = (ob o).map (Ob.ren ρ g ob o) := by
  simp [obR, (inv_some h).2 e]
theorem obR_some {ρ : List (Nat × Nat)} (h : Ren ρ) {n : Nat} {g : Nat → Nat → Nat} {x : Ob} (e : obR ρ g ob n = some x) : ∃ o y, (o, n) ∈ ρ ∧ ob o = some y ∧ x = y.ren ρ g ob o := by
  unfold obR at e
  split at e
  · rename_i o ho
    cases hy : ob o with
    | none => rw [hy] at e; cases e
    | some y => rw [hy] at e; injection e with e; exact ⟨o, y, (inv_some h).1 ho, hy, e.symm⟩
  · cases e
theorem look_renO_none {ρ0 : List (Nat × Nat)} {g : Nat → Nat → Nat} {n : Nat} : ∀ {l : List (Nat × Nat)}, n ∉ l.map (·.2) → look (renO ρ0 g ob l) n = none
  | [], _ => rfl
  | (o, o') :: r, h => by
    simp only [List.map_cons, List.mem_cons, not_or] at h
    simp only [renO]
    split
    · simp [look, Ne.symm h.1, look_renO_none h.2]
    · exact look_renO_none h.2
theorem look_renO_of {ρ0 : List (Nat × Nat)} {g : Nat → Nat → Nat} {o n : Nat} : ∀ {l : List (Nat × Nat)}, (l.map (·.2)).Nodup → (o, n) ∈ l → look (renO ρ0 g ob l) n = (ob o).map (Ob.ren ρ0 g ob o)
  | [], _, h => by cases h
  | (o1, o') :: r, hn, h => by
    simp only [List.map_cons, List.nodup_cons] at hn
    simp only [renO]
    rcases List.mem_cons.1 h with e | e
    · injection e with e1 e2; subst e1; subst e2
      cases hb : ob o with
      | none => simp only []; rw [look_renO_none hn.1]; rfl
      | some b => simp [look]
    · have hne : o' ≠ n := fun q => hn.1 (q ▸ List.mem_map.2 ⟨(o, n), e, rfl⟩)
      split
      · simp [look, hne, look_renO_of hn.2 e]
      · exact look_renO_of hn.2 e
theorem look_renO {ρ : List (Nat × Nat)} (h : Ren ρ) (g : Nat → Nat → Nat) : look (renO ρ g ob ρ) = obR ρ g ob := by
  funext n
  unfold obR
  split
  · rename_i o ho
    exact look_renO_of h.s ((inv_some h).1 ho)
  · rename_i ho
    refine look_renO_none fun hm => ?_
    obtain ⟨⟨o, n'⟩, hm2, e⟩ := List.mem_map.1 hm
    simp only at e; subst e
    rw [(inv_some h).2 hm2] at ho; cases ho

theorem capsRen_rel {ρ : List (Nat × Nat)} (h : Ren ρ) (g : Nat → Nat → Nat) : ∀ {l l' : List Cap}, capsRen ρ l = some l' → l'.length = l.length ∧
    ∀ (j : Nat) v t, l'[j]? = some t → (∀ s, l[j]? = some s → CapR w ok hd ob v s) → CapR w ok (hdR ρ hd) (obR ρ g ob) v t
  | [], l', e => by simp [capsRen] at e; subst e; simp
  | .t c :: r, l', e => by
    simp only [capsRen] at e
    split at e
    · rename_i l hl
      injection e with e; subst e
      obtain ⟨h1, h2⟩ := capsRen_rel h g hl
      refine ⟨by simp [h1], fun j v t ht hs => ?_⟩
      cases j with
      | zero => simp at ht; subst ht; exact hs (.t c) rfl
      | succ j => exact h2 j v t (by simpa using ht) fun s q => hs s (by simpa using q)
    · cases e
  | .ptr o off :: r, l', e => by
    simp only [capsRen] at e
    split at e
    · rename_i o' l ho hl
      injection e with e; subst e
      obtain ⟨h1, h2⟩ := capsRen_rel h g hl
      refine ⟨by simp [h1], fun j v t ht hs => ?_⟩
      cases j with
      | zero =>
        simp at ht; subst ht
        obtain ⟨cs, fz, b, q1, q2, q3⟩ := hs (.ptr o off) rfl
        have hm := look_mem ho
        exact ⟨vsRen ρ g ob cs, fz, b, by rw [obR_of h hm, q1]; rfl, by rw [hdR_of h hm]; exact q2, q3⟩
      | succ j => exact h2 j v t (by simpa using ht) fun s q => hs s (by simpa using q)
    · cases e
theorem VR.ren {ρ : List (Nat × Nat)} (h : Ren ρ) (g : Nat → Nat → Nat) {v : Value} {c : V} (hv : VR w ok hd ob v c) : VR w ok (hdR ρ hd) (obR ρ g ob) v (c.ren ρ g ob) := by
  cases c with
  | t c => exact hv
  | nil => exact hv
  | any => exact hv
  | row o g' =>
    obtain ⟨sz, es, cur, tags, fz, h1, h2, h3, h4⟩ := hv
    simp only [V.ren, h1]
    cases ho : look ρ o with
    | none => trivial
    | some o' =>
      have hm := look_mem ho
      simp only []
      cases hg : eqB g' cur with
      | false => trivial
      | true => exact ⟨sz, es, g o cur, [g o cur], fz, by rw [obR_of h hm, h1]; rfl, by rw [eq_of_eqB hg]; simp, h3, fun _ => by rw [hdR_of h hm]; exact h4 (eq_of_eqB hg)⟩
  | ptr o off =>
    obtain ⟨cs, fz, b, q1, q2, q3⟩ := hv
    simp only [V.ren]
    cases ho : look ρ o with
    | none => trivial
    | some o' =>
      have hm := look_mem ho
      exact ⟨vsRen ρ g ob cs, fz, b, by rw [obR_of h hm, q1]; rfl, by rw [hdR_of h hm]; exact q2, q3⟩
  | bsl o n sz =>
    obtain ⟨cs, fz, b, q1, q2, q3, q4⟩ := hv
    simp only [V.ren]
    cases ho : look ρ o with
    | none => trivial
    | some o' =>
      have hm := look_mem ho
      exact ⟨vsRen ρ g ob cs, fz, b, by rw [obR_of h hm, q1]; rfl, by rw [hdR_of h hm]; exact q2, q3, q4⟩
  | part o g' i j =>
    obtain ⟨sz, es, cur, tags, fz, h1, h2, h3, h4⟩ := hv
    simp only [V.ren, h1]
    cases ho : look ρ o with
    | none => trivial
    | some o' =>
      have hm := look_mem ho
      simp only []
      cases hg : eqB g' cur with
      | false => trivial
      | true => exact ⟨sz, es, g o cur, [g o cur], fz, by rw [obR_of h hm, h1]; rfl, by rw [eq_of_eqB hg]; simp, h3, fun _ => by rw [hdR_of h hm]; exact h4 (eq_of_eqB hg)⟩
  | elt o g' i j =>
    obtain ⟨sz, es, cur, tags, fz, h1, h2, h3, h4⟩ := hv
    simp only [V.ren, h1]
    cases ho : look ρ o with
    | none => trivial
    | some o' =>
      have hm := look_mem ho
      simp only []
      cases hg : eqB g' cur with
      | false => trivial
      | true => exact ⟨sz, es, g o cur, [g o cur], fz, by rw [obR_of h hm, h1]; rfl, by rw [eq_of_eqB hg]; simp, h3, fun _ => by rw [hdR_of h hm]; exact h4 (eq_of_eqB hg)⟩
  | fn f first caps =>
    obtain ⟨fvs, cvs, h1, h2, h3, h4, h5, h6⟩ := hv
    simp only [V.ren]
    split
    · rename_i l hl
      obtain ⟨l1, l2⟩ := capsRen_rel (w := w) (ok := ok) (hd := hd) (ob := ob) h g hl
      refine ⟨fvs, cvs, h1, h2, h3, by omega, h5, fun j v t p q => l2 j v t q fun s hs => h6 j v s p hs⟩
    · trivial
theorem vsRen_get {ρ : List (Nat × Nat)} {g : Nat → Nat → Nat} : ∀ (l : List V) (i : Nat), (vsRen ρ g ob l)[i]? = l[i]?.map (V.ren ρ g ob)
  | [], i => by simp [vsRen]
  | v :: l, i => by cases i with
    | zero => simp [vsRen]
    | succ i => simp [vsRen, vsRen_get l i]
theorem vsRen_len {ρ : List (Nat × Nat)} {g : Nat → Nat → Nat} : ∀ (l : List V), (vsRen ρ g ob l).length = l.length
  | [] => rfl
  | v :: l => by simp [vsRen, vsRen_len l]
theorem goRen_get {ρ : List (Nat × Nat)} {g : Nat → Nat → Nat} : ∀ (l : List A) (i : Nat), (A.ren.go ρ g ob l)[i]? = l[i]?.map (A.ren ρ g ob)
  | [], i => by simp [A.ren.go]
  | v :: l, i => by cases i with
    | zero => simp [A.ren.go]
    | succ i => simp [A.ren.go, goRen_get l i]
theorem goRen_len {ρ : List (Nat × Nat)} {g : Nat → Nat → Nat} : ∀ (l : List A), (A.ren.go ρ g ob l).length = l.length
  | [] => rfl
  | v :: l => by simp [A.ren.go, goRen_len l]
theorem AR.ren {ρ : List (Nat × Nat)} (h : Ren ρ) (g : Nat → Nat → Nat) {v : Value} {x : A} (hv : AR w ok hd ob v x) : AR w ok (hdR ρ hd) (obR ρ g ob) v (x.ren ρ g ob) := by
  induction hv with
  | one v c hc => exact .one _ _ (hc.ren h g)
  | agg cs vs hl hc =>
    refine .agg cs _ (by rw [vsRen_len]; exact hl) fun i c x p q => ?_
    rw [vsRen_get] at q
    cases hx : vs[i]? with
    | none => rw [hx] at q; cases q
    | some y => rw [hx] at q; injection q with q; subst q; exact (hc i c y p hx).ren h g
  | tup xs as hl hc ih =>
    refine .tup xs _ (by rw [goRen_len]; exact hl) fun i x y p q => ?_
    rw [goRen_get] at q
    cases hx : as[i]? with
    | none => rw [hx] at q; cases q
    | some z => rw [hx] at q; injection q with q; subst q; exact ih i x z p hx
theorem ObR.ren {ρ : List (Nat × Nat)} (h : Ren ρ) (g : Nat → Nat → Nat) (o : Nat) {k : Hd} {x : Ob} (hx : ObR w ok hd ob k x) : ObR w ok (hdR ρ hd) (obR ρ g ob) k (x.ren ρ g ob o) := by
  cases x with
  | box cs fz =>
    obtain ⟨b, c, e, fr, h1, h2, h3, h4, h5, h6, h7⟩ := hx
    refine ⟨b, c, e, fr, h1, h2, h3, h4, h5, by rw [vsRen_len]; exact h6, fun j v x p q => ?_⟩
    rw [vsRen_get] at q
    cases hx : cs[j]? with
    | none => rw [hx] at q; cases q
    | some y => rw [hx] at q; injection q with q; subst q; exact (h7 j v y p hx).ren h g
  | row sz es cur tags fz =>
    obtain ⟨_, hz, hh⟩ := hx
    exact ⟨by simp, hz, hh⟩
theorem ORel.ren {ρ : List (Nat × Nat)} (h : Ren ρ) (g : Nat → Nat → Nat) (R : ORel ok hd ob w) : ORel ok (hdR ρ hd) (obR ρ g ob) w where
  okLt := R.okLt
  own n b hn hb := by
    cases hx : obR ρ g ob n with
    | none => exact absurd hx hn
    | some x =>
      obtain ⟨o, y, hm, hy, _⟩ := obR_some h hx
      rw [hdR_of h hm] at hb
      exact R.own o b (by rw [hy]; simp) hb
  disj n m b hnm hn hm' hb := by
    cases hx : obR ρ g ob n with
    | none => exact absurd hx hn
    | some x =>
      cases hx' : obR ρ g ob m with
      | none => exact absurd hx' hm'
      | some x' =>
        obtain ⟨o, y, hm, hy, _⟩ := obR_some h hx
        obtain ⟨o1, y1, hm1, hy1, _⟩ := obR_some h hx'
        rw [hdR_of h hm] at hb
        rw [hdR_of h hm1]
        have hne : o ≠ o1 := fun e => hnm (h.fn hm (e ▸ hm1))
        exact R.disj o o1 b hne (by rw [hy]; simp) (by rw [hy1]; simp) hb
  obs n x hx := by
    obtain ⟨o, y, hm, hy, rfl⟩ := obR_some h hx
    rw [hdR_of h hm]
    exact (R.obs o y hy).ren h g o

theorem keepB_get {ρ : List (Nat × Nat)} : ∀ {m : Nat}, keepB ρ m = true → ∀ n, n < m → look ρ n = some n
  | 0, _, n, hn => by omega
  | k + 1, h, n, hn => by
    simp only [keepB, Bool.and_eq_true] at h
    by_cases e : n = k
    · subst e
      have h1 := h.1
      split at h1
      · rename_i k' hk; rw [hk, eq_of_eqB h1]
      · cases h1
    · exact keepB_get h.2 n (by omega)
theorem look_renT {ρ : List (Nat × Nat)} {g : Nat → Nat → Nat} : ∀ (l : Tms) (t : Nat), look (renT ρ g ob l) t = (look l t).map (A.ren ρ g ob)
  | [], t => rfl
  | (i, x) :: r, t => by
    by_cases e : i = t
    · simp [renT, look, e]
    · simp [renT, look, e, look_renT r t]
theorem Rel.ren {m : Nat} {ρ : List (Nat × Nat)} {st st' : St} (R : Rel E ok hd (look st.tm) (look st.ob) tmps w) (hm : ∀ n, E.ob0 n ≠ none → n < m) (h : renS m ρ st = some st') :
    Rel E ok (hdR ρ hd) (look st'.tm) (look st'.ob) tmps w := by
  unfold renS at h
  cases hc : (okRen ρ && keepB ρ m) with
  | false => rw [hc] at h; cases h
  | true =>
    rw [hc] at h
    simp only [cond_true] at h
    injection h with h; subst h
    obtain ⟨hc1, hc2⟩ := bif_and hc
    have hR := okRen_iff hc1
    simp only
    rw [look_renO hR]
    exact {
      toORel := R.toORel.ren hR keep7
      fr := R.fr
      ok0 := R.ok0
      okSub := R.okSub
      ownSub := fun n b hn hb => by
        cases hx : obR ρ keep7 (look st.ob) n with
        | none => exact absurd hx hn
        | some x =>
          obtain ⟨o, y, hm, hy, _⟩ := obR_some hR hx
          rw [hdR_of hR hm] at hb
          exact R.ownSub o b (by rw [hy]; simp) hb
      nt := R.nt
      kp := by
        refine ⟨fun o cs fz ho => ?_, fun o sz es cur tags fz ho => ?_⟩
        · obtain ⟨cs', fz', h1, h2⟩ := R.kp.box o cs fz ho
          have hm' := look_mem (keepB_get hc2 o (hm o (by rw [ho]; simp)))
          exact ⟨_, fz', by rw [obR_of hR hm', h1]; rfl, by rw [hdR_of hR hm']; exact h2⟩
        · obtain ⟨es', cur', tags', fz', h1, h2⟩ := R.kp.row o sz es cur tags fz ho
          have hm' := look_mem (keepB_get hc2 o (hm o (by rw [ho]; simp)))
          exact ⟨es', keep7 o cur', [keep7 o cur'], fz', by rw [obR_of hR hm', h1]; rfl, fun q => by rw [hdR_of hR hm']; exact h2 (keep7_eq q)⟩
      tms := fun t x hx => by
        rw [look_renT] at hx
        cases hy : look st.tm t with
        | none => rw [hy] at hx; cases hx
        | some y => rw [hy] at hx; injection hx with hx; subst hx; exact (R.tms t y hy).ren hR keep7 }

end Go.TL

/- TlU -/
namespace Go.TL
open Go

variable {P : Program} {E : Env P} {ok : Nat → Prop} {hd : HF} {tm : Nat → Option A} {ob : OF} {w : World} {a : Act} {K : A → Obs → Prop} {o : Oper} {tab : TF} {cl : Nat → List A → Obs → (A → Obs → Prop) → Prop} {tmps : Array Value}

/-- A call's run: what it comes to, whatever waits for it. -/
def Goto (P : Program) (f : Nat) (vs : Array Value) (w : World) (Q : Value → World → Prop) : Prop :=
  ∀ (o : Oper) (a : Act) (next : Act → World → Prop) (Qx : Exit → Act → World → Prop), (∀ v w', Q v w' → next (a.put o.dst v) w') → o.upon P a next Qx ((callFunc f vs).run P w)

/-- What a call may have done with what it was handed. -/
structure Ret (ok : Nat → Prop) (hd : HF) (ob : OF) (w : World) (ok' : Nat → Prop) (hd' : HF) (ob' : OF) (w' : World) : Prop where
  rel : ORel ok' hd' ob' w'
  os : w'.os = w.os
  tape : w'.tape = w.tape
  output : w'.output = w.output
  size : w.heap.size ≤ w'.heap.size
  block : ∀ b, b < w.heap.size → (∀ n, ob n ≠ none → b ∉ (hd n).own) → w'.heap[b]? = w.heap[b]?
  okUp : ∀ b, ok b → ok' b
  okSub : ∀ b, ok' b → ok b ∨ w.heap.size ≤ b ∨ ∃ n, ob n ≠ none ∧ b ∈ (hd n).own
  ownSub : ∀ n b, ob' n ≠ none → b ∈ (hd' n).own → w.heap.size ≤ b ∨ ∃ m, ob m ≠ none ∧ b ∈ (hd m).own
  kp : Keep hd ob hd' ob'

/-- A function's contract: arguments and objects as they are handed in, results and objects as they come back. -/
def ACall (P : Program) (f : Nat) (args : List A) (ob : Obs) (K : A → Obs → Prop) : Prop :=
  ∀ (w : World) (ok : Nat → Prop) (hd : HF) (vs : List Value), Gl P w ok → ORel ok hd (look ob) w → vs.length = args.length → (∀ (i : Nat) v x, vs[i]? = some v → args[i]? = some x → AR w ok hd (look ob) v x) →
    Goto P f vs.toArray w fun v w' => ∃ ok' hd' r ob', K r ob' ∧ Ret ok hd (look ob) w ok' hd' (look ob') w' ∧ AR w' ok' hd' (look ob') v r
theorem ACall.mono {f : Nat} {args : List A} {ob : Obs} {K K' : A → Obs → Prop} (h : ACall P f args ob K) (hk : ∀ r ob', K r ob' → K' r ob') : ACall P f args ob K' := by
  intro w ok hd vs G R hl ha o a next Qx hn
  refine h w ok hd vs G R hl ha o a next Qx fun v w' ⟨ok', hd', r, ob', k, h1, h2⟩ => hn v w' ⟨ok', hd', r, ob', hk r ob' k, h1, h2⟩

theorem look_rev {α : Type} {l : List (Nat × α)} (h : (l.map (·.1)).Nodup) (n : Nat) : look l.reverse n = look l n := by
  cases hl : look l n with
  | some x => exact mem_look (by rw [List.map_reverse]; exact (List.reverse_perm _).nodup_iff.2 h) (List.mem_reverse.2 (look_mem hl))
  | none =>
    cases hr : look l.reverse n with
    | none => rfl
    | some x => rw [mem_look h (List.mem_reverse.1 (look_mem hr))] at hl; cases hl
theorem updO_append (ob : OF) (l m : Obs) : updO ob (l ++ m) = updO (updO ob l) m := by
  funext n
  simp only [updO, List.reverse_append, look_append]
  cases look m.reverse n <;> rfl

def tagOld (x : Option Ob) : Ob → Ob
  | .row sz es cur tags fz => match x with
    | some (.row _ _ _ old _) => .row sz es cur (tags ++ old) fz
    | _ => .row sz es cur tags fz
  | b => b
theorem oldTags_fst {lk : OF} : ∀ (l : Obs), (oldTags lk l).map (·.1) = l.map (·.1)
  | [] => rfl
  | (n, .box cs fz) :: r => by simp [oldTags, oldTags_fst r]
  | (n, .row sz es cur tags fz) :: r => by
    simp only [oldTags, List.map_cons, oldTags_fst r]
    congr 1
    split <;> rfl
theorem look_oldTags {lk : OF} : ∀ (l : Obs) (n : Nat), look (oldTags lk l) n = (look l n).map (tagOld (lk n))
  | [], n => rfl
  | (i, .box cs fz) :: r, n => by
    by_cases e : i = n
    · simp [oldTags, look, e, tagOld]
    · simp [oldTags, look, e, look_oldTags r n]
  | (i, .row sz es cur tags fz) :: r, n => by
    by_cases e : i = n
    · subst e
      simp only [oldTags]
      split <;> simp_all [look, tagOld]
    · simp only [oldTags]
      split <;> simp [look, e, look_oldTags r n]
theorem renO_fst {ρ0 : List (Nat × Nat)} {g : Nat → Nat → Nat} : ∀ (l : List (Nat × Nat)), (l.map (·.2)).Nodup → ((renO ρ0 g ob l).map (·.1)).Nodup ∧ ∀ n, n ∈ (renO ρ0 g ob l).map (·.1) → n ∈ l.map (·.2)
  | [], _ => by simp [renO]
  | (o, o') :: r, h => by
    simp only [List.map_cons, List.nodup_cons] at h
    obtain ⟨h1, h2⟩ := renO_fst (ρ0 := ρ0) (g := g) r h.2
    simp only [renO]
    split
    · refine ⟨?_, ?_⟩
      · simp only [List.map_cons, List.nodup_cons]; exact ⟨fun q => h.1 (h2 _ q), h1⟩
      · intro n hn
        simp only [List.map_cons, List.mem_cons] at hn ⊢
        rcases hn with hn | hn
        · exact .inl hn
        · exact .inr (h2 n hn)
    · exact ⟨h1, fun n hn => by simp only [List.map_cons, List.mem_cons]; exact .inr (h2 n hn)⟩

/-- The objects behind a call. -/
def obN (ρ : List (Nat × Nat)) (T : Nat → Nat → Nat) (obB ob' : OF) : OF := fun n => match obR ρ T ob' n with
  | some x => some (tagOld (obB n) x)
  | none => obB n
def hdN (ρ : List (Nat × Nat)) (T : Nat → Nat → Nat) (hdB hd' : HF) (ob' : OF) : HF := fun n => match obR ρ T ob' n with
  | some _ => hdR ρ hd' n
  | none => hdB n
theorem updO_back {ρ : List (Nat × Nat)} (h : Ren ρ) (T : Nat → Nat → Nat) (obB ob' : OF) : updO obB (oldTags obB (renO ρ T ob' ρ)) = obN ρ T obB ob' := by
  funext n
  have hn : ((oldTags obB (renO ρ T ob' ρ)).map (·.1)).Nodup := by rw [oldTags_fst]; exact (renO_fst ρ h.s).1
  simp only [updO, look_rev hn, look_oldTags, look_renO h, obN]
  cases obR ρ T ob' n <;> rfl

theorem tagOld_box {x : Option Ob} {b : Ob} {cs : List V} {fz : Bool} (h : tagOld x b = .box cs fz) : b = .box cs fz := by
  cases b with
  | box => exact h
  | row => simp only [tagOld] at h; split at h <;> cases h

theorem le_obN {ρ : List (Nat × Nat)} {T : Nat → Nat → Nat} {hdB hd' : HF} {obB ob' : OF} : Le (hdR ρ hd') (obR ρ T ob') (hdN ρ T hdB hd' ob') (obN ρ T obB ob') where
  box n cs fz h := ⟨cs, fz, by simp [obN, h, tagOld], by simp [hdN, h]⟩
  row n sz es cur tags fz h := by
    refine ⟨es, cur, (match obB n with | some (.row _ _ _ old _) => tags ++ old | _ => tags), fz, ?_, ?_, .inl ⟨rfl, by simp [hdN, h]⟩⟩
    · simp only [obN, h, tagOld]; split <;> rfl
    · intro g hg; split
      · exact List.mem_append_left _ hg
      · exact hg

theorem ObR.tagOld {w : World} {ok : Nat → Prop} {hd : HF} {ob : OF} {h : Hd} {x : Ob} {y : Option Ob} (hx : ObR w ok hd ob h x) : ObR w ok hd ob h (tagOld y x) := by
  cases x with
  | box => exact hx
  | row sz es cur tags fz =>
    obtain ⟨h1, h2, h3⟩ := hx
    simp only [Go.TL.tagOld]
    split
    · exact ⟨List.mem_append_left _ h1, h2, h3⟩
    · exact ⟨h1, h2, h3⟩

/-- What is passed, by its names there and here. -/
structure BackOk (ρ : List (Nat × Nat)) (ns : List Nat) (T : Nat → Nat → Nat) (obB : OF) (ob' : OF) (hdB hd' : HF) : Prop where
  ren : Ren ρ
  /-- Names here are those of what was passed, or new. -/
  nam : ∀ k n, (k, n) ∈ ρ → n ∈ ns ∨ obB n = none
  /-- What was passed came back. -/
  cam : ∀ n, n ∈ ns → obB n ≠ none → ∃ k, (k, n) ∈ ρ ∧ ob' k ≠ none
  box : ∀ k n, (k, n) ∈ ρ → ∀ cs fz, obB n = some (.box cs fz) → ∃ cs' fz', ob' k = some (.box cs' fz') ∧ (hd' k).v = (hdB n).v
  row : ∀ k n, (k, n) ∈ ρ → ∀ sz es cur tags fz, obB n = some (.row sz es cur tags fz) → ∃ es' cur' tags' fz', ob' k = some (.row sz es' cur' tags' fz') ∧ ((T k cur' = cur ∧ (hd' k).v = (hdB n).v) ∨ (T k cur' ∉ tags ∧ T k cur' ≠ 7))

theorem le_back {ρ : List (Nat × Nat)} {ns : List Nat} {T : Nat → Nat → Nat} {hdB hd' : HF} {obB ob' : OF} (B : BackOk ρ ns T obB ob' hdB hd') : Le hdB obB (hdN ρ T hdB hd' ob') (obN ρ T obB ob') where
  box n cs fz h := by
    cases hi : inv ρ n with
    | none =>
      have : obR ρ T ob' n = none := by simp [obR, hi]
      exact ⟨cs, fz, by simp [obN, this, h], by simp [hdN, this]⟩
    | some k =>
      have hm := (inv_some B.ren).1 hi
      obtain ⟨cs', fz', h1, h2⟩ := B.box k n hm cs fz h
      have : obR ρ T ob' n = some (.box (vsRen ρ T ob' cs') fz') := by rw [obR_of B.ren hm, h1]; rfl
      exact ⟨vsRen ρ T ob' cs', fz', by simp [obN, this, tagOld], by simp only [hdN, this]; rw [hdR_of B.ren hm]; exact h2⟩
  row n sz es cur tags fz h := by
    cases hi : inv ρ n with
    | none =>
      have : obR ρ T ob' n = none := by simp [obR, hi]
      exact ⟨es, cur, tags, fz, by simp [obN, this, h], fun _ h => h, .inl ⟨rfl, by simp [hdN, this]⟩⟩
    | some k =>
      have hm := (inv_some B.ren).1 hi
      obtain ⟨es', cur', tags', fz', h1, hT⟩ := B.row k n hm sz es cur tags fz h
      have : obR ρ T ob' n = some (.row sz es' (T k cur') [T k cur'] fz') := by rw [obR_of B.ren hm, h1]; rfl
      exact ⟨es', T k cur', T k cur' :: tags, fz', by simp [obN, this, tagOld, h], fun g hg => .tail _ hg, hT.imp_left fun ⟨e1, e2⟩ => ⟨e1, by simp only [hdN, this]; rw [hdR_of B.ren hm]; exact e2⟩⟩

theorem Rel.back {okB okN : Nat → Prop} {hdB hd' : HF} {obB ob' : OF} {w' : World} {ρ : List (Nat × Nat)} {ns : List Nat} {T : Nat → Nat → Nat} (B : Rel E okB hdB tm obB tmps w) (O : BackOk ρ ns T obB ob' hdB hd') (R1 : ORel okN (hdR ρ hd') (obR ρ T ob') w')
    (up : ∀ b, okB b → okN b) (sub : ∀ b, okN b → okB b ∨ w.heap.size ≤ b ∨ ∃ n, n ∈ ns ∧ obB n ≠ none ∧ b ∈ (hdB n).own)
    (os : w'.os = w.os) (tape : w'.tape = w.tape) (output : w'.output = w.output) (size : w.heap.size ≤ w'.heap.size)
    (block : ∀ b, b < w.heap.size → (∀ n, n ∈ ns → obB n ≠ none → b ∉ (hdB n).own) → w'.heap[b]? = w.heap[b]?)
    (ownSub : ∀ k b, ob' k ≠ none → b ∈ (hd' k).own → w.heap.size ≤ b ∨ ∃ n, n ∈ ns ∧ obB n ≠ none ∧ b ∈ (hdB n).own) :
    Rel E okN (hdN ρ T hdB hd' ob') tm (obN ρ T obB ob') tmps w' := by
  have le := le_back O
  have hok : ∀ b, okB b → w'.heap[b]? = w.heap[b]? := fun b hb => block b (B.okLt b hb) fun n _ hne q => (B.own n b hne q).1 hb
  -- an object behind the call is one that came back, or one that was not passed
  have cases : ∀ n x, obN ρ T obB ob' n = some x → (∃ y, obR ρ T ob' n = some y ∧ x = tagOld (obB n) y ∧ hdN ρ T hdB hd' ob' n = hdR ρ hd' n) ∨ (obR ρ T ob' n = none ∧ obB n = some x ∧ n ∉ ns ∧ hdN ρ T hdB hd' ob' n = hdB n) := by
    intro n x hx
    cases hy : obR ρ T ob' n with
    | some y => simp [obN, hy] at hx; exact .inl ⟨y, rfl, hx.symm, by simp [hdN, hy]⟩
    | none =>
      simp [obN, hy] at hx
      refine .inr ⟨rfl, hx, fun hn => ?_, by simp [hdN, hy]⟩
      obtain ⟨k, hk, hk2⟩ := O.cam n hn (by rw [hx]; simp)
      rw [obR_of O.ren hk] at hy
      cases hz : ob' k with
      | none => exact hk2 hz
      | some z => rw [hz] at hy; cases hy
  have ownR : ∀ n y, obR ρ T ob' n = some y → ∀ b, b ∈ (hdR ρ hd' n).own → w.heap.size ≤ b ∨ ∃ n, n ∈ ns ∧ obB n ≠ none ∧ b ∈ (hdB n).own := by
    intro n y hy b hb
    obtain ⟨k, z, hm, hz, _⟩ := obR_some O.ren hy
    rw [hdR_of O.ren hm] at hb
    exact ownSub k b (by rw [hz]; simp) hb
  refine { okLt := R1.okLt, own := ?_, disj := ?_, obs := ?_, fr := ?_, ok0 := fun b hb => up b (B.ok0 b hb), okSub := ?_, ownSub := ?_, nt := B.nt, kp := B.kp.trans le.keep, tms := fun t x hx => (B.tms t x hx).mono up hok le }
  · intro n b hn hb
    cases hx : obN ρ T obB ob' n with
    | none => exact absurd hx hn
    | some x =>
      rcases cases n x hx with ⟨y, hy, _, hh⟩ | ⟨_, hy, hns, hh⟩
      · rw [hh] at hb
        exact R1.own n b (by rw [hy]; simp) hb
      · rw [hh] at hb
        have hne : obB n ≠ none := by rw [hy]; simp
        obtain ⟨h1, h2⟩ := B.own n b hne hb
        refine ⟨fun hk => ?_, Nat.lt_of_lt_of_le h2 size⟩
        rcases sub b hk with h | h | ⟨m, hm, hm2, hm3⟩
        · exact h1 h
        · omega
        · exact B.disj m n b (fun q => hns (q ▸ hm)) hm2 hne hm3 hb
  · intro n m b hnm hn hm hb hb2
    cases hx : obN ρ T obB ob' n with
    | none => exact absurd hx hn
    | some x =>
      cases hx2 : obN ρ T obB ob' m with
      | none => exact absurd hx2 hm
      | some x2 =>
        rcases cases n x hx with ⟨y, hy, _, hh⟩ | ⟨_, hy, hns, hh⟩ <;> rcases cases m x2 hx2 with ⟨y2, hy2, _, hh2⟩ | ⟨_, hy2, hns2, hh2⟩ <;> rw [hh] at hb <;> rw [hh2] at hb2
        · exact R1.disj n m b hnm (by rw [hy]; simp) (by rw [hy2]; simp) hb hb2
        · have hne : obB m ≠ none := by rw [hy2]; simp
          rcases ownR n y hy b hb with h | ⟨k, hk, hk2, hk3⟩
          · have := (B.own m b hne hb2).2; omega
          · exact B.disj k m b (fun q => hns2 (q ▸ hk)) hk2 hne hk3 hb2
        · have hne : obB n ≠ none := by rw [hy]; simp
          rcases ownR m y2 hy2 b hb2 with h | ⟨k, hk, hk2, hk3⟩
          · have := (B.own n b hne hb).2; omega
          · exact B.disj k n b (fun q => hns (q ▸ hk)) hk2 hne hk3 hb
        · exact B.disj n m b hnm (by rw [hy]; simp) (by rw [hy2]; simp) hb hb2
  · intro n x hx
    rcases cases n x hx with ⟨y, hy, he, hh⟩ | ⟨_, hy, hns, hh⟩
    · rw [hh, he]
      exact ((R1.obs n y hy).mono (fun _ h => h) (fun _ _ => rfl) (fun _ _ => rfl) le_obN).tagOld
    · rw [hh]
      have hne : obB n ≠ none := by rw [hy]; simp
      exact (B.obs n x hy).mono up hok (fun b hb => block b (B.own n b hne hb).2 fun m hm hm2 q => B.disj m n b (fun q => hns (q ▸ hm)) hm2 hne q hb) le
  · exact ⟨os.trans B.fr.os, tape.trans B.fr.tape, output.trans B.fr.output, Nat.le_trans B.fr.size size, fun b hb hn => by
      refine (block b (Nat.lt_of_lt_of_le hb B.fr.size) fun m hm hm2 q => ?_).trans (B.fr.block b hb hn)
      rcases B.ownSub m b hm2 q with h | h
      · omega
      · exact hn h⟩
  · intro b hb
    have := B.fr.size
    rcases sub b hb with h | h | ⟨m, hm, hm2, hm3⟩
    · exact B.okSub b h
    · exact .inr (.inl (by omega))
    · exact .inr (B.ownSub m b hm2 hm3)
  · intro n b hn hb
    have := B.fr.size
    cases hx : obN ρ T obB ob' n with
    | none => exact absurd hx hn
    | some x =>
      rcases cases n x hx with ⟨y, hy, _, hh⟩ | ⟨_, hy, hns, hh⟩ <;> rw [hh] at hb
      · rcases ownR n y hy b hb with h | ⟨k, hk, hk2, hk3⟩
        · exact .inl (by omega)
        · exact B.ownSub k b hk2 hk3
      · exact B.ownSub n b (by rw [hy]; simp) hb

end Go.TL

/- TlV -/
namespace Go.TL
open Go

variable {P : Program} {E : Env P} {ok : Nat → Prop} {hd : HF} {tm : Nat → Option A} {ob : OF} {w : World} {a : Act} {K : A → Obs → Prop} {o : Oper} {tab : TF} {cl : Nat → List A → Obs → (A → Obs → Prop) → Prop} {tmps : Array Value}

theorem Le.trans {h1 h2 h3 : HF} {o1 o2 o3 : OF} (a : Le h1 o1 h2 o2) (b : Le h2 o2 h3 o3) : Le h1 o1 h3 o3 where
  box o cs fz h := by
    obtain ⟨cs', fz', h', e⟩ := a.box o cs fz h
    obtain ⟨cs'', fz'', h'', e'⟩ := b.box o cs' fz' h'
    exact ⟨cs'', fz'', h'', e'.trans e⟩
  row o sz es cur tags fz h := by
    obtain ⟨es', cur', tags', fz', h', ht, hc⟩ := a.row o sz es cur tags fz h
    obtain ⟨es2, cur2, tags2, fz2, h2', ht2, hc2⟩ := b.row o sz es' cur' tags' fz' h'
    refine ⟨es2, cur2, tags2, fz2, h2', fun g hg => ht2 g (ht g hg), ?_⟩
    rcases hc2 with ⟨e1, e2⟩ | ⟨hn, hn7⟩
    · rcases hc with ⟨f1, f2⟩ | ⟨hn, hn7⟩
      · exact .inl ⟨e1.trans f1, e2.trans f2⟩
      · exact .inr (e1 ▸ ⟨hn, hn7⟩)
    · exact .inr ⟨fun q => hn (ht _ q), hn7⟩

def nilHd : Hd := ⟨.slice none 0 0, []⟩
/-- Rows of one's own that are empty as yet. -/
def Virt (vo : Obs) : Prop := ∀ n x, (n, x) ∈ vo → ∃ sz, x = .row sz [] 0 [0] false
theorem posB_mem : ∀ {vo : Obs}, posB vo = true → ∀ n sz es cur tags fz, (n, Ob.row sz es cur tags fz) ∈ vo → 0 < sz
  | [], _, n, sz, es, cur, tags, fz, hm => by cases hm
  | (i, .box cs f) :: r, h, n, sz, es, cur, tags, fz, hm => by simp [posB] at h
  | (i, .row sz' es' cur' tags' fz') :: r, h, n, sz, es, cur, tags, fz, hm => by
    simp only [posB, Bool.and_eq_true] at h
    rcases List.mem_cons.1 hm with e | hm
    · injection e with e1 e2; injection e2 with e2; subst e2; exact le_of_leB h.1
    · exact posB_mem h.2 n sz es cur tags fz hm
theorem freshB_mem {lk : OF} : ∀ {l : List Nat}, freshB lk l = true → ∀ n, n ∈ l → lk n = none
  | [], _, n, hm => by cases hm
  | i :: r, h, n, hm => by
    simp only [freshB, Bool.and_eq_true] at h
    rcases List.mem_cons.1 hm with e | hm
    · subst e
      have := h.1
      split at this
      · assumption
      · cases this
    · exact freshB_mem h.2 n hm
theorem keys_map : ∀ (l : Obs), keys l = l.map (·.1)
  | [] => rfl
  | (n, x) :: r => by simp [keys, keys_map r]

theorem Rel.virt : ∀ {vo : Obs} {hd : HF} {ob : OF}, Virt vo → posB vo = true → (vo.map (·.1)).Nodup → (∀ n, n ∈ vo.map (·.1) → ob n = none) → Rel E ok hd tm ob tmps w →
    ∃ hd1, Rel E ok hd1 tm (updO ob vo) tmps w ∧ Le hd ob hd1 (updO ob vo) ∧ (∀ n, n ∉ vo.map (·.1) → hd1 n = hd n ∧ updO ob vo n = ob n) ∧ ∀ n x, (n, x) ∈ vo → hd1 n = nilHd ∧ updO ob vo n = some x := by
  intro vo
  induction vo with
  | nil => intro hd ob _ _ _ _ R; exact ⟨hd, R, Le.refl _ _, fun n _ => ⟨rfl, rfl⟩, fun n x h => by cases h⟩
  | cons p vo ih =>
    obtain ⟨n, x⟩ := p
    intro hd ob hv hp hn hf R
    obtain ⟨sz, rfl⟩ := hv n x (by simp)
    have hz := posB_mem hp n sz [] 0 [0] false (by simp)
    simp only [List.map_cons, List.nodup_cons] at hn
    have hfn := hf n (by simp)
    have hp' : posB vo = true := by simp only [posB, Bool.and_eq_true] at hp; exact hp.2
    obtain ⟨hd1, R1, le1, h1, h2⟩ := ih (hd := setF hd n nilHd) (ob := setF ob n (some (.row sz [] 0 [0] false))) (fun m x hm => hv m x (by simp [hm])) hp' hn.2 (fun m hm => by
      have hne : m ≠ n := by intro e; subst e; exact hn.1 hm
      rw [setF_ne _ _ _ _ hne]; exact hf m (by simp only [List.map_cons, List.mem_cons]; exact .inr hm)) (rel_vrow R hfn (by simp) hz)
    have e : updO (setF ob n (some (.row sz [] 0 [0] false))) vo = updO ob ((n, .row sz [] 0 [0] false) :: vo) := by
      rw [← updO_one, ← updO_append]; rfl
    rw [e] at R1 le1 h1 h2
    refine ⟨hd1, R1, (le_new hfn nilHd _).trans le1, fun m hm => ?_, fun m x hm => ?_⟩
    · simp only [List.map_cons, List.mem_cons, not_or] at hm
      obtain ⟨a1, a2⟩ := h1 m hm.2
      rw [setF_ne _ _ _ _ hm.1] at a1 a2
      exact ⟨a1, a2⟩
    · rcases List.mem_cons.1 hm with e | hm
      · injection e with e1 e2; subst e1; subst e2
        obtain ⟨a1, a2⟩ := h1 m hn.1
        rw [setF_same] at a1 a2
        exact ⟨a1, a2⟩
      · exact h2 m x hm

theorem virtL_rel {hd1 : HF} {ob1 : OF} : ∀ (vl : List (Nat × Nat)) (n : Nat) (cs cs' : List V) (vo : Obs), virtL n vl cs = (cs', vo) → Virt vo ∧ cs'.length = cs.length ∧
    ∀ (cvs : List Value), (∀ (i : Nat) v x, cvs[i]? = some v → cs[i]? = some x → VR w ok hd1 ob1 v x) → (∀ m x, (m, x) ∈ vo → hd1 m = nilHd ∧ ob1 m = some x) → ∀ (i : Nat) v x, cvs[i]? = some v → cs'[i]? = some x → VR w ok hd1 ob1 v x
  | [], n, cs, cs', vo, h => by
    simp only [virtL] at h; injection h with h1 h2; subst h1; subst h2
    exact ⟨fun n x h => (by cases h), rfl, fun cvs hv _ => hv⟩
  | (j, sz) :: r, n, cs, cs', vo, h => by
    simp only [virtL] at h
    split at h
    · rename_i hj
      generalize hq : virtL (n + 1) r (setAt cs j [V.row n 0]) = q at h
      obtain ⟨cs2, o2⟩ := q
      simp only at h
      injection h with h1 h2; subst h1; subst h2
      obtain ⟨i1, i2, i3⟩ := virtL_rel r (n + 1) (setAt cs j [V.row n 0]) cs2 o2 hq
      have hlt : j < cs.length := by
        by_cases q : j < cs.length
        · exact q
        · rw [List.getElem?_eq_none (by omega)] at hj; cases hj
      refine ⟨fun m x hm => ?_, by rw [i2, length_setAt], fun cvs hv hvo => i3 cvs (fun i v x p q => ?_) fun m x hm => hvo m x (.tail _ hm)⟩
      · rcases List.mem_cons.1 hm with e | hm
        · injection e with _ e2; exact ⟨sz, e2⟩
        · exact i1 m x hm
      · rw [getElem?_setAt _ _ _ _ (by simp; omega)] at q
        by_cases e : j ≤ i ∧ i < j + [V.row n 0].length
        · have : i = j := by simp at e; omega
          subst this
          rw [if_pos e] at q
          simp at q; subst q
          have hn := hv i v .nil p hj
          obtain ⟨a1, a2⟩ := hvo n _ (.head _)
          exact ⟨sz, [], 0, [0], false, a2, by simp, ⟨none, 0, 0, hn⟩, fun _ => by rw [a1]; exact hn⟩
        · rw [if_neg e] at q; exact hv i v x p q
    · exact virtL_rel r (n + 1) cs cs' vo h
theorem virtA_rel {hd1 : HF} {ob1 : OF} {vl : List (Nat × Nat)} {n : Nat} {x x' : A} {vo : Obs} (h : virtA n vl x = (x', vo)) : Virt vo ∧
    ∀ v, AR w ok hd1 ob1 v x → (∀ m x, (m, x) ∈ vo → hd1 m = nilHd ∧ ob1 m = some x) → AR w ok hd1 ob1 v x' := by
  cases x with
  | one c =>
    simp only [virtA] at h
    split at h
    · rename_i v' o hq
      injection h with h1 h2; subst h1; subst h2
      obtain ⟨i1, i2, i3⟩ := virtL_rel (w := w) (ok := ok) (hd1 := hd1) (ob1 := ob1) vl n [c] [v'] o hq
      refine ⟨i1, fun v hv hvo => .one _ _ ?_⟩
      exact i3 [v] (fun i u y p q => by cases i with | zero => simp at p q; subst p; subst q; exact hv.one_inv | succ i => simp at p) hvo 0 v v' rfl rfl
    · injection h with h1 h2; subst h1; subst h2; exact ⟨fun n x h => (by cases h), fun v hv _ => hv⟩
  | agg vs =>
    simp only [virtA] at h
    generalize hq : virtL n vl vs = q at h
    obtain ⟨cs2, o2⟩ := q
    simp only at h
    injection h with h1 h2; subst h1; subst h2
    obtain ⟨i1, i2, i3⟩ := virtL_rel (w := w) (ok := ok) (hd1 := hd1) (ob1 := ob1) vl n vs cs2 o2 hq
    refine ⟨i1, fun v hv hvo => ?_⟩
    obtain ⟨cs, rfl, hl, hc⟩ := hv.agg_inv
    exact .agg cs cs2 (by omega) fun i u y p q => i3 cs hc hvo i u y p q
  | tup l =>
    simp only [virtA] at h
    injection h with h1 h2; subst h1; subst h2; exact ⟨fun n x h => (by cases h), fun v hv _ => hv⟩

mutual
theorem A.tree_frz (ns : List Nat) : ∀ x : A, x.tree (frzO ob ns) = x.tree ob
  | .one v => by simp only [A.tree, ← Go.TL.tree_frz]
  | .agg vs => by simp only [A.tree, trees_frz]
  | .tup l => by simp only [A.tree, go_frz ns l]
theorem go_frz (ns : List Nat) : ∀ l : List A, A.tree.go (frzO ob ns) l = A.tree.go ob l
  | [] => rfl
  | x :: l => by simp only [A.tree.go, A.tree_frz ns x, go_frz ns l]
end

theorem AR.repF {v : Value} {x y : A} {ns : List Nat} (R : ORel ok hd ob w) (h : AR w ok hd ob v x) (ht : x.tree ob = some y) (hs : ∀ n, n ∈ x.refs → n ∈ ns) : AR w (frzK ok hd ob ns) (frzH hd ns) (frzO ob ns) v y := by
  refine AR.rep (R.freeze ns) (h.mono (fun _ h => .inl h) (fun _ _ => rfl) (le_frz ns)) (by rw [A.tree_frz]; exact ht) fun n hn x hx => allFr_frzO ob ns n (hs n hn) x hx

theorem pre_rel (R : ORel ok hd ob w) {FR : List Nat} {hd1 : HF} {ob1 : OF} (le : Le (frzH hd FR) (frzO ob FR) hd1 ob1) : ∀ (ms : List (Option (List (Nat × Nat)))) (n : Nat) (as : List A) (p : Pre), preArgs ob n ms as = some p →
    (∀ m, m ∈ p.fr → m ∈ FR) → Virt p.vo ∧ ∀ (vs : List Value), (∀ (i : Nat) v x, vs[i]? = some v → as[i]? = some x → AR w ok hd ob v x) → (∀ m x, (m, x) ∈ p.vo → hd1 m = nilHd ∧ ob1 m = some x) →
      p.args.length = as.length ∧ ∀ (i : Nat) v x, vs[i]? = some v → p.args[i]? = some x → AR w (frzK ok hd ob FR) hd1 ob1 v x := by
  have tree : ∀ (n : Nat) (ms : List (Option (List (Nat × Nat)))) (x : A) (as : List A) (p : Pre), (∃ t q, x.tree ob = some t ∧ preArgs ob n ms as = some q ∧ p = Pre.mk (t :: q.args) q.vo (x.refs ++ q.fr) q.own) → (∀ m, m ∈ p.fr → m ∈ FR) →
      (∀ q, preArgs ob n ms as = some q → (∀ m, m ∈ q.fr → m ∈ FR) → Virt q.vo ∧ ∀ (vs : List Value), (∀ (i : Nat) v x, vs[i]? = some v → as[i]? = some x → AR w ok hd ob v x) → (∀ m x, (m, x) ∈ q.vo → hd1 m = nilHd ∧ ob1 m = some x) →
        q.args.length = as.length ∧ ∀ (i : Nat) v x, vs[i]? = some v → q.args[i]? = some x → AR w (frzK ok hd ob FR) hd1 ob1 v x) →
      Virt p.vo ∧ ∀ (vs : List Value), (∀ (i : Nat) v y, vs[i]? = some v → (x :: as)[i]? = some y → AR w ok hd ob v y) → (∀ m x, (m, x) ∈ p.vo → hd1 m = nilHd ∧ ob1 m = some x) →
        p.args.length = (x :: as).length ∧ ∀ (i : Nat) v x, vs[i]? = some v → p.args[i]? = some x → AR w (frzK ok hd ob FR) hd1 ob1 v x := by
    intro n ms x as p h hfr ih
    obtain ⟨t, q, ht, hq, rfl⟩ := h
    obtain ⟨i1, i2⟩ := ih q hq (fun m hm => hfr m (by simp [hm]))
    refine ⟨i1, fun vs hv hvo => ?_⟩
    cases vs with
    | nil => 
      obtain ⟨j1, j2⟩ := i2 [] (by simp) hvo
      exact ⟨by simp [j1], by simp⟩
    | cons v vs =>
      obtain ⟨j1, j2⟩ := i2 vs (fun i u y p q => hv (i + 1) u y (by simpa using p) (by simpa using q)) hvo
      refine ⟨by simp [j1], fun i u y p q => ?_⟩
      cases i with
      | zero =>
        simp at p q; subst p; subst q
        exact ((hv 0 v x rfl rfl).repF R ht (fun m hm => hfr m (by simp [hm]))).mono (fun _ h => h) (fun _ _ => rfl) le
      | succ i => exact j2 i u y (by simpa using p) (by simpa using q)
  intro ms n as
  induction as generalizing ms n with
  | nil =>
    intro p h hfr
    have : p = ⟨[], [], [], []⟩ := by unfold preArgs at h; injection h with h; exact h.symm
    subst this
    exact ⟨fun n x h => (by cases h), fun vs _ _ => ⟨rfl, by simp⟩⟩
  | cons x as ih =>
    intro p h hfr
    match ms, h with
    | [], h =>
      unfold preArgs at h
      split at h
      · rename_i t q ht hq; injection h with h; exact tree n [] x as p ⟨t, q, ht, hq, h.symm⟩ hfr (ih [] n)
      · cases h
    | none :: ms, h =>
      unfold preArgs at h
      split at h
      · rename_i t q ht hq; injection h with h; exact tree n ms x as p ⟨t, q, ht, hq, h.symm⟩ hfr (ih ms n)
      · cases h
    | some vl :: ms, h =>
      unfold preArgs at h
      generalize hq : virtA n vl x = q at h
      obtain ⟨x', vo⟩ := q
      split at h
      · rename_i x2 vo2 q2 e1 hq3
        injection e1 with e1 e2
        subst e1; subst e2
        injection h with h; subst h
        obtain ⟨i1, i2⟩ := ih ms (n + 2) q2 hq3 hfr
        obtain ⟨k1, k2⟩ := virtA_rel (w := w) (ok := frzK ok hd ob FR) (hd1 := hd1) (ob1 := ob1) hq
        refine ⟨fun m y hm => ?_, fun vs hv hvo => ?_⟩
        · rcases List.mem_append.1 hm with hm | hm
          · exact k1 m y hm
          · exact i1 m y hm
        · cases vs with
          | nil =>
            obtain ⟨j1, j2⟩ := i2 [] (by simp) fun m y hm => hvo m y (List.mem_append_right _ hm)
            exact ⟨by simp [j1], by simp⟩
          | cons v vs =>
            obtain ⟨j1, j2⟩ := i2 vs (fun i u y p q => hv (i + 1) u y (by simpa using p) (by simpa using q)) fun m y hm => hvo m y (List.mem_append_right _ hm)
            refine ⟨by simp [j1], fun i u y p q => ?_⟩
            cases i with
            | zero =>
              simp at p q; subst p; subst q
              exact k2 v ((hv 0 v x rfl rfl).mono (fun _ h => .inl h) (fun _ _ => rfl) ((le_frz FR).trans le)) fun m y hm => hvo m y (List.mem_append_left _ hm)
            | succ i => exact j2 i u y (by simpa using p) (by simpa using q)
      · cases h

end Go.TL

/- TlW -/
namespace Go.TL
open Go

variable {P : Program} {E : Env P} {ok : Nat → Prop} {hd : HF} {tm : Nat → Option A} {ob : OF} {w : World} {a : Act} {K : A → Obs → Prop} {o : Oper} {tab : TF} {tmps : Array Value}

/-- Values that hold no memory hold whatever may be looked at. -/
theorem Rep.flat {ok' : Nat → Prop} {w' : World} {v : Value} {t : T} (h : Rep w ok v t) (hf : flatT t = true) : Rep w' ok' v t := by
  cases h with
  | bool b => exact .bool b
  | int k n h => exact .int k n h
  | str s h => exact .str s h
  | snil => cases hf
  | szero => cases hf
  | sl => cases hf
  | pt => cases hf
  | fn => cases hf
theorem VR.flat {ok' : Nat → Prop} {v : Value} {x : V} (h : VR w ok hd ob v x) (hf : flatV x = true) : VR w ok' hd ob v x := by
  cases x with
  | t c => exact Rep.flat h hf
  | nil => exact h
  | row o g => exact h
  | ptr o off => exact h
  | elt => cases hf
  | fn => cases hf
  | bsl => cases hf
  | part => cases hf
  | any => cases hf
theorem flatVs_mem : ∀ {l : List V}, flatVs l = true → ∀ (i : Nat) x, l[i]? = some x → flatV x = true
  | [], _, i, x, h => by simp at h
  | v :: l, hf, i, x, h => by
    simp only [flatVs, Bool.and_eq_true] at hf
    cases i with
    | zero => simp at h; subst h; exact hf.1
    | succ i => exact flatVs_mem hf.2 i x (by simpa using h)
theorem flatGo_mem : ∀ {l : List A}, flatA.go l = true → ∀ (i : Nat) x, l[i]? = some x → flatA x = true
  | [], _, i, x, h => by simp at h
  | v :: l, hf, i, x, h => by
    simp only [flatA.go, Bool.and_eq_true] at hf
    cases i with
    | zero => simp at h; subst h; exact hf.1
    | succ i => exact flatGo_mem hf.2 i x (by simpa using h)
theorem AR.flat {ok' : Nat → Prop} {v : Value} {x : A} (h : AR w ok hd ob v x) : flatA x = true → AR w ok' hd ob v x := by
  induction h with
  | one v c h => intro hf; exact .one _ _ (h.flat hf)
  | agg cs vs hl h => intro hf; exact .agg _ _ hl fun i c x p q => (h i c x p q).flat (flatVs_mem hf i x q)
  | tup xs as hl h ih => intro hf; exact .tup _ _ hl fun i x y p q => ih i x y p q (flatGo_mem hf i y q)
def FlatOb : Ob → Prop
  | .box cs fz => fz = false ∧ flatVs cs = true
  | .row _ es _ _ fz => fz = false ∧ std.flat es
theorem ORel.flat {okN : Nat → Prop} (R : ORel ok hd ob w) (hf : ∀ n x, ob n = some x → FlatOb x) (hlt : ∀ b, okN b → b < w.heap.size) (hown : ∀ n b, ob n ≠ none → b ∈ (hd n).own → ¬ okN b) : ORel okN hd ob w where
  okLt := hlt
  own n b hn hb := ⟨hown n b hn hb, (R.own n b hn hb).2⟩
  disj := R.disj
  obs n x hx := by
    have := R.obs n x hx
    have hfx := hf n x hx
    cases x with
    | box cs fz =>
      obtain ⟨rfl, hf2⟩ := hfx
      obtain ⟨b, c, e, fr, h1, h2, h3, h4, h5, h6, h7⟩ := this
      exact ⟨b, c, e, fr, h1, h2, fun q => (by cases q), h4, h5, h6, fun j v x p q => (h7 j v x p q).flat (flatVs_mem hf2 j x q)⟩
    | row sz es cur tags fz =>
      obtain ⟨rfl, hf2⟩ := hfx
      obtain ⟨h0, hz, h⟩ := this
      refine ⟨h0, hz, ?_⟩
      rcases h with h | ⟨b, c, e, fr, cap, h1, h2, h3, h4, h5, h6, h7, h7', h8, h9⟩
      · exact .inl h
      · refine .inr ⟨b, c, e, fr, cap, h1, h2, fun q => (by cases q), h4, h5, h6, h7, h7', h8, fun i j x t p q => ?_⟩
        obtain ⟨v, hv, hr⟩ := h9 i j x t p q
        exact ⟨v, hv, hr.flat (hf2 x (List.mem_of_getElem? p) t (List.mem_of_getElem? q))⟩
theorem flatO_inv {cl : Nat → List A → Obs → (A → Obs → Prop) → Prop} {k : SR} : ∀ {l : Obs}, (flatO std l k).holds std cl K → (∀ n x, (n, x) ∈ l → FlatOb x) ∧ k.holds std cl K
  | [], h => ⟨fun n x h => (by cases h), h⟩
  | (n, .box cs true) :: r, h => h.elim
  | (n, .box cs false) :: r, h => by
    obtain ⟨h1, h2⟩ := bif_inv h
    obtain ⟨i1, i2⟩ := flatO_inv h2
    refine ⟨fun m x hm => ?_, i2⟩
    rcases List.mem_cons.1 hm with e | hm
    · injection e with _ e; subst e; exact ⟨rfl, h1⟩
    · exact i1 m x hm
  | (n, .row sz es cur tags true) :: r, h => h.elim
  | (n, .row sz es cur tags false) :: r, h => by
    obtain ⟨h1, h2⟩ := h
    obtain ⟨i1, i2⟩ := flatO_inv h2
    refine ⟨fun m x hm => ?_, i2⟩
    rcases List.mem_cons.1 hm with e | hm
    · injection e with _ e; subst e; exact ⟨rfl, h1⟩
    · exact i1 m x hm

/-! Renaming looks at what it names alone. -/
theorem V.ren_congr {ρ : List (Nat × Nat)} {g : Nat → Nat → Nat} {lk lk' : OF} (h : ∀ o o', look ρ o = some o' → lk o = lk' o) (v : V) : v.ren ρ g lk = v.ren ρ g lk' := by
  cases v with
  | row o g =>
    cases ho : look ρ o with
    | none => simp [V.ren, ho]
    | some o' => simp [V.ren, ho, h o o' ho]
  | elt o g i j =>
    cases ho : look ρ o with
    | none => simp [V.ren, ho]
    | some o' => simp [V.ren, ho, h o o' ho]
  | part o g i j =>
    cases ho : look ρ o with
    | none => simp [V.ren, ho]
    | some o' => simp [V.ren, ho, h o o' ho]
  | _ => rfl
theorem vsRen_congr {ρ : List (Nat × Nat)} {g : Nat → Nat → Nat} {lk lk' : OF} (h : ∀ o o', look ρ o = some o' → lk o = lk' o) : ∀ (l : List V), vsRen ρ g lk l = vsRen ρ g lk' l
  | [] => rfl
  | v :: l => by simp only [vsRen, V.ren_congr h v, vsRen_congr h l]
mutual
theorem A.ren_congr {ρ : List (Nat × Nat)} {g : Nat → Nat → Nat} {lk lk' : OF} (h : ∀ o o', look ρ o = some o' → lk o = lk' o) : ∀ (x : A), x.ren ρ g lk = x.ren ρ g lk'
  | .one v => by simp only [A.ren, V.ren_congr h v]
  | .agg vs => by simp only [A.ren, vsRen_congr h vs]
  | .tup l => by simp only [A.ren, goRen_congr h l]
theorem goRen_congr {ρ : List (Nat × Nat)} {g : Nat → Nat → Nat} {lk lk' : OF} (h : ∀ o o', look ρ o = some o' → lk o = lk' o) : ∀ (l : List A), A.ren.go ρ g lk l = A.ren.go ρ g lk' l
  | [] => rfl
  | x :: l => by simp only [A.ren.go, A.ren_congr h x, goRen_congr h l]
end
theorem Ob.ren_congr {ρ : List (Nat × Nat)} {g : Nat → Nat → Nat} {lk lk' : OF} (h : ∀ o o', look ρ o = some o' → lk o = lk' o) (n : Nat) (x : Ob) : x.ren ρ g lk n = x.ren ρ g lk' n := by
  cases x with
  | box cs fz => simp only [Ob.ren, vsRen_congr h cs]
  | row => rfl
theorem renO_congr {ρ : List (Nat × Nat)} {g : Nat → Nat → Nat} {lk lk' : OF} (h : ∀ o o', look ρ o = some o' → lk o = lk' o) : ∀ (l : List (Nat × Nat)), (∀ o o', (o, o') ∈ l → lk o = lk' o) → renO ρ g lk l = renO ρ g lk' l
  | [], _ => rfl
  | (o, o') :: r, hl => by
    simp only [renO, hl o o' (.head _), renO_congr h r fun o o' hm => hl o o' (.tail _ hm)]
    cases lk' o with
    | none => rfl
    | some b => simp only [Ob.ren_congr h o b]

theorem numFrom_mem : ∀ {l : List Nat} {k n m : Nat}, (n, m) ∈ numFrom k l → n ∈ l ∧ k ≤ m ∧ l[m - k]? = some n
  | [], k, n, m, h => by cases h
  | x :: r, k, n, m, h => by
    rcases List.mem_cons.1 h with e | h
    · injection e with e1 e2; subst e1; subst e2; simp
    · obtain ⟨h1, h2, h3⟩ := numFrom_mem h
      refine ⟨.tail _ h1, by omega, ?_⟩
      rw [show m - k = (m - (k + 1)) + 1 by omega]
      simpa using h3
theorem mem_numFrom : ∀ {l : List Nat} {k n i : Nat}, l[i]? = some n → (n, k + i) ∈ numFrom k l
  | [], k, n, i, h => by simp at h
  | x :: r, k, n, i, h => by
    cases i with
    | zero => simp at h; subst h; simp [numFrom]
    | succ i =>
      have := mem_numFrom (k := k + 1) (show r[i]? = some n by simpa using h)
      rw [show k + 1 + i = k + (i + 1) by omega] at this
      exact .tail _ this
theorem numTo_swap : ∀ (l : List Nat) (k : Nat), numTo k l = (numFrom k l).map fun p => (p.2, p.1)
  | [], _ => rfl
  | n :: r, k => by simp [numTo, numFrom, numTo_swap r]
theorem fst_numFrom : ∀ (l : List Nat) (k : Nat), (numFrom k l).map (·.1) = l
  | [], _ => rfl
  | n :: r, k => by simp [numFrom, fst_numFrom r]
theorem snd_numFrom_ge : ∀ (l : List Nat) (k m : Nat), m ∈ (numFrom k l).map (·.2) → k ≤ m
  | [], _, m, h => by cases h
  | n :: r, k, m, h => by
    simp only [numFrom, List.map_cons, List.mem_cons] at h
    rcases h with h | h
    · omega
    · have := snd_numFrom_ge r (k + 1) m h; omega
theorem snd_numFrom_nodup : ∀ (l : List Nat) (k : Nat), ((numFrom k l).map (·.2)).Nodup
  | [], _ => by simp [numFrom]
  | n :: r, k => by
    simp only [numFrom, List.map_cons, List.nodup_cons]
    refine ⟨fun h => ?_, snd_numFrom_nodup r (k + 1)⟩
    have := snd_numFrom_ge r (k + 1) k h; omega
theorem ren_numFrom {l : List Nat} (h : l.Nodup) (k : Nat) : Ren (numFrom k l) := ⟨by rw [fst_numFrom]; exact h, snd_numFrom_nodup l k⟩

theorem updO_virt_frz {vo : Obs} {fr : List Nat} (hf : ∀ n, n ∈ vo.map (·.1) → ob n = none) (hn : (vo.map (·.1)).Nodup) : updO ob (vo ++ frz ob fr) = updO (frzO ob fr) vo := by
  rw [updO_append]
  funext n
  simp only [updO, look_frz, look_rev hn, frzO]
  by_cases h : n ∈ fr
  · simp only [h, if_true]
    cases hb : ob n with
    | none => rfl
    | some x =>
      have : look vo n = none := by
        cases hl : look vo n with
        | none => rfl
        | some y => have := hf n (List.mem_map.2 ⟨(n, y), look_mem hl, rfl⟩); rw [hb] at this; cases this
      simp [this]
  · simp [h]

/-- Values and what they are, one by one. -/
structure AL (w : World) (ok : Nat → Prop) (hd : HF) (ob : OF) (vs : List Value) (as : List A) : Prop where
  len : vs.length = as.length
  rel : ∀ (i : Nat) v x, vs[i]? = some v → as[i]? = some x → AR w ok hd ob v x
theorem AL.append {vs vs' : List Value} {as as' : List A} (h : AL w ok hd ob vs as) (h' : AL w ok hd ob vs' as') : AL w ok hd ob (vs ++ vs') (as ++ as') where
  len := by simp [h.len, h'.len]
  rel i v x p q := by
    by_cases e : i < vs.length
    · rw [List.getElem?_append_left e] at p
      rw [List.getElem?_append_left (by rw [← h.len]; exact e)] at q
      exact h.rel i v x p q
    · rw [List.getElem?_append_right (by omega)] at p
      rw [List.getElem?_append_right (by rw [← h.len]; omega), ← h.len] at q
      exact h'.rel _ v x p q

theorem disjB_mem : ∀ {l m : List Nat}, disjB l m = true → ∀ n, n ∈ l → n ∉ m
  | [], _, _, n, h => by cases h
  | a :: l, m, h, n, hm => by
    simp only [disjB, Bool.and_eq_true, Bool.not_eq_true'] at h
    rcases List.mem_cons.1 hm with e | hm
    · subst e; exact memB_false.1 h.1
    · exact disjB_mem h.2 n hm
theorem newTag_mem {lk : OF} {g : Nat} : ∀ {l : List Nat}, newTag lk g l = true → ∀ n, n ∈ l → ∀ sz es cur tags fz, lk n = some (.row sz es cur tags fz) → g ∉ tags
  | [], _, n, h => by cases h
  | a :: l, h, n, hm => by
    intro sz es cur tags fz hx
    simp only [newTag, Bool.and_eq_true] at h
    rcases List.mem_cons.1 hm with e | hm
    · subst e
      have := h.1
      rw [hx] at this
      simp only [Bool.not_eq_true'] at this
      exact memB_false.1 this
    · exact newTag_mem h.2 n hm sz es cur tags fz hx

theorem gB_ne {lk : OF} {ns : List Nat} {T k c : Nat} (h : c ≠ 7) : gB lk ns T k c = T := by
  unfold gB
  cases e : eqB c 7 with
  | true => exact absurd (eq_of_eqB e) h
  | false => rfl
theorem gB_7 {lk : OF} {ns : List Nat} {T k n : Nat} {sz es cur tags fz} (hk : ns[k]? = some n) (hn : lk n = some (.row sz es cur tags fz)) : gB lk ns T k 7 = cur := by
  unfold gB
  rw [hk]
  simp only [hn]
  rfl
/-- What was passed came back under its names. -/
theorem backOk {ns l : List Nat} {T k0 g0 : Nat} {obB obC ob' : OF} {hdB hdC hd' : HF} (hT7 : T ≠ 7) (hR : okRen (numTo 0 ns ++ numFrom k0 l) = true) (hnd : ns.Nodup) (hfr : freshB obB (snds (numFrom k0 l)) = true) (hT : newTag obB T ns = true)
    (hs : ∀ n, n ∈ ns → obC n = obB n ∧ hdC n = hdB n) (kp : Keep (hdR (numFrom 0 ns) hdC) (obR (numFrom 0 ns) (gAll g0) obC) hd' ob') : BackOk (numTo 0 ns ++ numFrom k0 l) ns (gB obB ns T) obB ob' hdB hd' := by
  have hρ := ren_numFrom hnd 0
  have split : ∀ k n, (k, n) ∈ numTo 0 ns ++ numFrom k0 l → ((n, k) ∈ numFrom 0 ns ∧ n ∈ ns) ∨ obB n = none := by
    intro k n hm
    rcases List.mem_append.1 hm with h | h
    · rw [numTo_swap] at h
      obtain ⟨⟨x, y⟩, h1, h2⟩ := List.mem_map.1 h
      injection h2 with h2 h3
      simp only at h2 h3
      subst h2; subst h3
      exact .inl ⟨h1, (numFrom_mem h1).1⟩
    · refine .inr (freshB_mem hfr n ?_)
      rw [snds_map]
      exact List.mem_map.2 ⟨(k, n), h, rfl⟩
  refine ⟨okRen_iff hR, fun k n hm => ?_, fun n hn hne => ?_, fun k n hm cs fz hb => ?_, fun k n hm sz es cur tags fz hb => ?_⟩
  · rcases split k n hm with h | h
    · exact .inl h.2
    · exact .inr h
  · obtain ⟨i, hi⟩ := List.getElem?_of_mem hn
    have hm := mem_numFrom (k := 0) hi
    rw [Nat.zero_add] at hm
    refine ⟨i, List.mem_append_left _ (by rw [numTo_swap]; exact List.mem_map.2 ⟨(n, i), hm, rfl⟩), ?_⟩
    have hc := obR_of (ob := obC) (g := gAll g0) hρ hm
    rw [(hs n hn).1] at hc
    cases hx : obB n with
    | none => exact absurd hx hne
    | some x =>
      rw [hx] at hc
      cases x with
      | box cs fz => obtain ⟨cs', fz', h1, _⟩ := kp.box i _ fz hc; rw [h1]; simp
      | row sz es cur tags fz => obtain ⟨es', cur', tags', fz', h1, _⟩ := kp.row i sz es _ _ fz hc; rw [h1]; simp
  · rcases split k n hm with ⟨h1, h2⟩ | h
    · have hc := obR_of (ob := obC) (g := gAll g0) hρ h1
      rw [(hs n h2).1, hb] at hc
      obtain ⟨cs', fz', h3, h4⟩ := kp.box k _ fz hc
      exact ⟨cs', fz', h3, by rw [h4, hdR_of hρ h1, (hs n h2).2]⟩
    · rw [hb] at h; cases h
  · rcases split k n hm with ⟨h1, h2⟩ | h
    · have hc := obR_of (ob := obC) (g := gAll g0) hρ h1
      rw [(hs n h2).1, hb] at hc
      obtain ⟨es', cur', tags', fz', h3, h4⟩ := kp.row k sz es _ _ fz hc
      refine ⟨es', cur', tags', fz', h3, ?_⟩
      by_cases e : cur' = 7
      · refine .inl ⟨?_, by rw [(h4 e).2, hdR_of hρ h1, (hs n h2).2]⟩
        rw [e]
        exact gB_7 (by have := (numFrom_mem h1).2.2; simpa using this) hb
      · rw [gB_ne e]
        exact .inr ⟨newTag_mem hT n h2 sz es cur tags fz hb, hT7⟩
    · rw [hb] at h; cases h

end Go.TL

/- TlX -/
namespace Go.TL
open Go

variable {P : Program} {E : Env P} {ok : Nat → Prop} {hd : HF} {tm : Nat → Option A} {ob : OF} {w : World} {a : Act} {K : A → Obs → Prop} {o : Oper} {tab : TF} {tmps : Array Value}

theorem goto_call {f g0 : Nat} {ns : List Nat} {vs : List Value} {args : List A} {okC : Nat → Prop} {hdC : HF} {obB obC : OF} {Kb : A → Obs → Prop} (hG : Gl P w okC) (RC : ORel okC hdC obC w) (hs : ∀ n, n ∈ ns → obC n = obB n) (hnd : ns.Nodup) (ha : AL w okC hdC obC vs args)
    (h : CallP (ACall P) f (A.ren.go (numFrom 0 ns) (gAll g0) obB args) (renO (numFrom 0 ns) (gAll g0) obB (numFrom 0 ns)) Kb) :
    Goto P f vs.toArray w fun v w' => ∃ ok' hd' r ob', Kb r ob' ∧ Ret okC (hdR (numFrom 0 ns) hdC) (obR (numFrom 0 ns) (gAll g0) obC) w ok' hd' (look ob') w' ∧ AR w' ok' hd' (look ob') v r := by
  have hρ := ren_numFrom hnd 0
  have hin : ∀ o o', (o, o') ∈ numFrom 0 ns → obB o = obC o := fun o o' hm => (hs o (numFrom_mem hm).1).symm
  have hc : ∀ o o', look (numFrom 0 ns) o = some o' → obB o = obC o := fun o o' hm => hin o o' (look_mem hm)
  obtain ⟨h⟩ := h
  rw [goRen_congr hc, renO_congr hc _ hin] at h
  have := h w okC (hdR (numFrom 0 ns) hdC) vs hG (by rw [look_renO hρ]; exact RC.ren hρ (gAll g0)) (by rw [goRen_len]; exact ha.len) (fun i v x p q => by
    rw [goRen_get] at q
    rw [look_renO hρ]
    cases hx : args[i]? with
    | none => rw [hx] at q; cases q
    | some y => rw [hx] at q; injection q with q; subst q; exact (ha.rel i v y p hx).ren hρ (gAll g0))
  rw [look_renO hρ] at this
  exact this

theorem ret_sub {g0 : Nat} {ns : List Nat} {hdB hdC : HF} {obB obC : OF} (hnd : ns.Nodup) (hs : ∀ n, n ∈ ns → obC n = obB n ∧ hdC n = hdB n) {b : Nat}
    (h : ∃ n, obR (numFrom 0 ns) (gAll g0) obC n ≠ none ∧ b ∈ (hdR (numFrom 0 ns) hdC n).own) : ∃ n, n ∈ ns ∧ obB n ≠ none ∧ b ∈ (hdB n).own := by
  have hρ := ren_numFrom hnd 0
  obtain ⟨k, h1, h2⟩ := h
  cases hx : obR (numFrom 0 ns) (gAll g0) obC k with
  | none => exact absurd hx h1
  | some x =>
    obtain ⟨n, y, hm, hy, _⟩ := obR_some hρ hx
    rw [hdR_of hρ hm] at h2
    have hn := (numFrom_mem hm).1
    exact ⟨n, hn, by rw [← (hs n hn).1, hy]; simp, by rw [← (hs n hn).2]; exact h2⟩
theorem ret_block {g0 : Nat} {ns : List Nat} {hdB hdC : HF} {obB obC : OF} (hnd : ns.Nodup) (hs : ∀ n, n ∈ ns → obC n = obB n ∧ hdC n = hdB n) {b : Nat}
    (h : ∀ n, n ∈ ns → obB n ≠ none → b ∉ (hdB n).own) : ∀ n, obR (numFrom 0 ns) (gAll g0) obC n ≠ none → b ∉ (hdR (numFrom 0 ns) hdC n).own := by
  intro n hn hb
  obtain ⟨m, h1, h2, h3⟩ := ret_sub hnd hs ⟨n, hn, hb⟩
  exact h m h1 h2 h3

theorem op_sCall {md : MF} {d f : Nat} {vs : List Value} {as : List A} (hrun : (execOp a.eval o).run P w = (callFunc f vs.toArray).run P w) (R : Rel E ok hd tm ob a.tmps w) (ha : AL w ok hd ob vs as)
    (h : (sCall std md ob d f as).holds std (ACall P) K) : Goes P E tm ob a.tmps K o a w := by
  unfold sCall at h
  split at h
  rotate_left
  · exact h.elim
  rename_i p hp
  obtain ⟨hc, h⟩ := bif_inv h
  obtain ⟨_, hc⟩ := bif_and hc
  obtain ⟨hc, hc3⟩ := bif_and hc
  obtain ⟨hc1, hc2⟩ := bif_and hc
  have hvn : (p.vo.map (·.1)).Nodup := by rw [nodupB_iff, keys_map] at hc1; exact hc1
  have hvf : ∀ n, n ∈ p.vo.map (·.1) → ob n = none := by
    intro n hn; rw [← keys_map] at hn; exact freshB_mem hc2 n hn
  have hV : Virt p.vo := (pre_rel (FR := p.fr) R.toORel (Le.refl _ _) _ _ _ _ hp (fun _ h => h)).1
  -- the state in which the arguments are what they are handed in as
  have RF := R.freeze p.fr
  have hvf2 : ∀ n, n ∈ p.vo.map (·.1) → frzO ob p.fr n = none := by
    intro n hn
    unfold frzO
    split
    · rw [hvf n hn]; rfl
    · exact hvf n hn
  obtain ⟨hdC, RC, leC, hC1, hC2⟩ := RF.virt hV hc3 hvn hvf2
  obtain ⟨hal, har⟩ := (pre_rel R.toORel leC _ _ _ _ hp (fun _ h => h)).2 vs ha.rel hC2
  have hA : AL w (frzK ok hd ob p.fr) hdC (updO (frzO ob p.fr) p.vo) vs p.args := ⟨by rw [hal]; exact ha.len, har⟩
  unfold sCall.callW sCall.callN at h
  obtain ⟨hc, h⟩ := bif_inv h
  obtain ⟨hc, hcT⟩ := bif_and hc
  obtain ⟨hcD, hcN⟩ := bif_and hc
  have hnd := nodupB_iff.1 hcN
  cases hb : (md f).bor with
  | false =>
    rw [hb] at h hcD hcT hcN hnd
    simp only [cond_false] at h hcD hcT hcN hnd
    rw [updO_virt_frz hvf hvn] at h hcT hcN hnd
    intro next Q hn
    unfold Oper.wp
    rw [hrun]
    refine goto_call (obB := updO (frzO ob p.fr) p.vo) RC.gl RC.toORel (fun _ _ => rfl) hnd hA h o a next Q ?_
    rintro v w' ⟨ok', hd', r, ob', hk, ret, hr⟩
    unfold sCall.back sCall.backR at hk
    obtain ⟨hc, hk⟩ := bif_inv hk
    obtain ⟨_, hc⟩ := bif_and hc
    obtain ⟨hk1, hk2⟩ := bif_and hc
    rw [hb] at hk
    simp only [cond_false] at hk
    rw [updO_virt_frz hvf hvn] at hk hk2
    have B := backOk (T := nm d 31) (obC := updO (frzO ob p.fr) p.vo) (hdC := hdC) (hdB := hdC) (by unfold nm; omega) hk1 hnd hk2 hcT (fun _ _ => ⟨rfl, rfl⟩) ret.kp
    have R2 := RC.back B (ret.rel.ren B.ren _) ret.okUp (fun b hb => (ret.okSub b hb).imp_right fun h => h.imp_right fun h => ret_sub hnd (fun _ _ => ⟨rfl, rfl⟩) h) ret.os ret.tape ret.output ret.size
      (fun b hb hx => ret.block b hb (ret_block hnd (fun _ _ => ⟨rfl, rfl⟩) hx)) (fun k b hk hb => (ret.ownSub k b hk hb).imp_right fun h => ret_sub hnd (fun _ _ => ⟨rfl, rfl⟩) h)
    have hob : ∀ ρ T, Ren ρ → updO ob (p.vo ++ frz ob p.fr ++ oldTags (updO (frzO ob p.fr) p.vo) (renO ρ T (look ob') ρ)) = obN ρ T (updO (frzO ob p.fr) p.vo) (look ob') := by
      intro ρ T h
      rw [updO_append, updO_virt_frz hvf hvn, updO_back h]
    refine hn _ _ ok' _ v w' hk (by rw [hob _ _ B.ren]; exact R2) ?_
    rw [hob _ _ B.ren]
    exact (hr.ren B.ren _).mono (fun _ h => h) (fun _ _ => rfl) le_obN
  | true =>
    rw [hb] at h hcD hcT hcN hnd
    simp only [cond_true, List.append_nil] at h hcD hcT hcN hnd
    obtain ⟨hdB, RB, leB, hB1, hB2⟩ := R.virt hV hc3 hvn hvf
    have hs : ∀ n, n ∈ reach (updO ob p.vo) 2 (nub p.own []) → updO (frzO ob p.fr) p.vo n = updO ob p.vo n ∧ hdC n = hdB n := by
      intro n hn
      have hnf : n ∉ p.fr := fun q => disjB_mem hcD n q hn
      by_cases hm : n ∈ p.vo.map (·.1)
      · obtain ⟨⟨m, x⟩, hx, e⟩ := List.mem_map.1 hm
        simp only at e; subst e
        obtain ⟨c1, c2⟩ := hC2 m x hx
        obtain ⟨b1, b2⟩ := hB2 m x hx
        exact ⟨by rw [c2, b2], by rw [c1, b1]⟩
      · obtain ⟨c1, c2⟩ := hC1 n hm
        obtain ⟨b1, b2⟩ := hB1 n hm
        exact ⟨by rw [c2, b2]; simp [frzO, hnf], by rw [c1, b1]; simp [frzH, hnf]⟩
    intro next Q hn
    unfold Oper.wp
    rw [hrun]
    refine goto_call (obB := updO ob p.vo) RC.gl RC.toORel (fun n hn => (hs n hn).1) hnd hA h o a next Q ?_
    rintro v w' ⟨ok', hd', r, ob', hk, ret, hr⟩
    unfold sCall.back sCall.backR at hk
    obtain ⟨hc, hk⟩ := bif_inv hk
    obtain ⟨_, hc⟩ := bif_and hc
    obtain ⟨hk1, hk2⟩ := bif_and hc
    rw [hb] at hk
    simp only [cond_true] at hk
    obtain ⟨hfl, hk⟩ := flatO_inv hk
    obtain ⟨hfa, hk⟩ := bif_inv hk
    have B := backOk (T := nm d 31) (obC := updO (frzO ob p.fr) p.vo) (hdC := hdC) (hdB := hdB) (by unfold nm; omega) hk1 hnd hk2 hcT hs ret.kp
    have R1 := ret.rel.ren B.ren (gB (updO ob p.vo) (reach (updO ob p.vo) 2 (nub p.own [])) (nm d 31))
    have hlt : ∀ b, ok b → b < w'.heap.size := fun b hb => Nat.lt_of_lt_of_le (R.okLt b hb) ret.size
    have hown : ∀ k b, look ob' k ≠ none → b ∈ (hd' k).own → w.heap.size ≤ b ∨ ∃ n, n ∈ reach (updO ob p.vo) 2 (nub p.own []) ∧ updO ob p.vo n ≠ none ∧ b ∈ (hdB n).own :=
      fun k b hk hb => (ret.ownSub k b hk hb).imp_right fun h => ret_sub hnd hs h
    have R1' := R1.flat (okN := ok) (fun n x hx => by
      rw [← look_renO B.ren] at hx
      exact hfl n x (look_mem hx)) hlt (fun n b hnn hbb hok => by
      cases hx : obR (numTo 0 (reach (updO ob p.vo) 2 (nub p.own [])) ++ numFrom (nm d 0) (above (reach (updO ob p.vo) 2 (nub p.own [])).length (keys ob'))) (gB (updO ob p.vo) (reach (updO ob p.vo) 2 (nub p.own [])) (nm d 31)) (look ob') n with
      | none => exact hnn hx
      | some x =>
        obtain ⟨k, y, hm, hy, _⟩ := obR_some B.ren hx
        rw [hdR_of B.ren hm] at hbb
        rcases hown k b (by rw [hy]; simp) hbb with h | ⟨m, h1, h2, h3⟩
        · have := R.okLt b hok; omega
        · exact (RB.own m b h2 h3).1 hok)
    have R2 := RB.back B R1' (fun _ h => h) (fun b hb => .inl hb) ret.os ret.tape ret.output ret.size
      (fun b hb hx => ret.block b hb (ret_block hnd hs hx)) hown
    have hob : ∀ ρ T, Ren ρ → updO ob (p.vo ++ oldTags (updO ob p.vo) (renO ρ T (look ob') ρ)) = obN ρ T (updO ob p.vo) (look ob') := by
      intro ρ T h
      rw [updO_append, updO_back h]
    refine hn _ _ ok _ v w' hk (by rw [hob _ _ B.ren]; exact R2) ?_
    rw [hob _ _ B.ren]
    exact (((hr.ren B.ren _).flat hfa).mono (fun _ h => h) (fun _ _ => rfl) le_obN)

end Go.TL

/- TlY -/
namespace Go.TL
open Go

variable {P : Program} {E : Env P} {ok : Nat → Prop} {hd : HF} {tm : Nat → Option A} {ob : OF} {w : World} {a : Act} {K : A → Obs → Prop} {o : Oper} {tab : TF} {tmps : Array Value}

theorem args_rel (R : Rel E ok hd tm ob a.tmps w) : ∀ (xs : List Operand) (l : List A), argsOf (ev tm) xs = some l → AL w ok hd ob (xs.map a.eval) l
  | [], l, h => by simp [argsOf] at h; subst h; exact ⟨rfl, by simp⟩
  | x :: xs, l, h => by
    unfold argsOf at h
    split at h
    · rename_i v r hv hr
      injection h with h; subst h
      have ih := args_rel R xs r hr
      refine ⟨by simp [ih.len], fun i u y p q => ?_⟩
      cases i with
      | zero => simp at p q; subst p; subst q; exact ev_rel R hv
      | succ i => exact ih.rel i u y (by simpa using p) (by simpa using q)
    · cases h
theorem tV_get : ∀ (l : List T) (i : Nat), (tV l)[i]? = l[i]?.map V.t
  | [], i => by simp [tV]
  | t :: l, i => by cases i with
    | zero => simp [tV]
    | succ i => simp [tV, tV_get l i]
theorem tV_len : ∀ (l : List T), (tV l).length = l.length
  | [] => rfl
  | t :: l => by simp [tV, tV_len l]
theorem firstA_get : ∀ (l : List (List T)) (i : Nat), (firstA l)[i]? = l[i]?.map fun c => .agg (tV c)
  | [], i => by simp [firstA]
  | t :: l, i => by cases i with
    | zero => simp [firstA]
    | succ i => simp [firstA, firstA_get l i]
theorem firstA_len : ∀ (l : List (List T)), (firstA l).length = l.length
  | [] => rfl
  | t :: l => by simp [firstA, firstA_len l]
theorem first_rel {fvs : List (List Value)} {first : List (List T)} (h2 : fvs.length = first.length) (h3 : ∀ (i : Nat) (x : List Value) (y : List T), fvs[i]? = some x → first[i]? = some y → x.length = y.length)
    (h5 : ∀ (i j : Nat) (x : List Value) (y : List T) (v : Value) (t : T), fvs[i]? = some x → first[i]? = some y → x[j]? = some v → y[j]? = some t → Rep w ok v t) :
    AL w ok hd ob (fvs.map fun c => .agg c.toArray) (firstA first) where
  len := by rw [firstA_len]; simpa using h2
  rel i v x p q := by
    rw [firstA_get] at q
    rw [List.getElem?_map] at p
    cases hx : fvs[i]? with
    | none => rw [hx] at p; cases p
    | some fv =>
      cases hy : first[i]? with
      | none => rw [hy] at q; cases q
      | some y =>
        rw [hx] at p; rw [hy] at q
        injection p with p; injection q with q; subst p; subst q
        refine .agg fv (tV y) (by rw [tV_len]; exact h3 i fv y hx hy) fun j c x p q => ?_
        rw [tV_get] at q
        cases ht : y[j]? with
        | none => rw [ht] at q; cases q
        | some t => rw [ht] at q; injection q with q; subst q; exact h5 i j fv y c t hx hy p ht
theorem capT_rel : ∀ (cvs : List Value) (caps : List T), cvs.length = caps.length → (∀ (j : Nat) (v : Value) (t : T), cvs[j]? = some v → caps[j]? = some t → Rep w ok v t) → AL w ok hd ob cvs (capT caps)
  | [], [], _, _ => ⟨rfl, by simp⟩
  | v :: cvs, c :: caps, hl, h => by
    have ih := capT_rel cvs caps (by simpa using hl) fun j v t p q => h (j + 1) v t (by simpa using p) (by simpa using q)
    refine ⟨by simp [capT, ih.len], fun i u y p q => ?_⟩
    cases i with
    | zero => simp [capT] at p q; subst p; subst q; exact .one _ _ (h 0 v c rfl rfl)
    | succ i => exact ih.rel i u y (by simpa using p) (by simpa [capT] using q)
  | [], _ :: _, hl, _ => by simp at hl
  | _ :: _, [], hl, _ => by simp at hl
theorem capA_rel : ∀ (cvs : List Value) (caps : List Cap), cvs.length = caps.length → (∀ (j : Nat) (v : Value) (t : Cap), cvs[j]? = some v → caps[j]? = some t → CapR w ok hd ob v t) → AL w ok hd ob cvs (capA caps)
  | [], [], _, _ => ⟨rfl, by simp⟩
  | v :: cvs, c :: caps, hl, h => by
    have ih := capA_rel cvs caps (by simpa using hl) fun j v t p q => h (j + 1) v t (by simpa using p) (by simpa using q)
    have h0 := h 0 v c rfl rfl
    cases c with
    | t c =>
      refine ⟨by simp [capA, ih.len], fun i u y p q => ?_⟩
      cases i with
      | zero => simp [capA] at p q; subst p; subst q; exact .one _ _ h0
      | succ i => exact ih.rel i u y (by simpa using p) (by simpa [capA] using q)
    | ptr o off =>
      refine ⟨by simp [capA, ih.len], fun i u y p q => ?_⟩
      cases i with
      | zero => simp [capA] at p q; subst p; subst q; exact .one _ _ h0
      | succ i => exact ih.rel i u y (by simpa using p) (by simpa [capA] using q)
  | [], _ :: _, hl, _ => by simp at hl
  | _ :: _, [], hl, _ => by simp at hl

theorem run_callValue {c : Call} {f : Operand} {g : Nat} {fvs : List (List Value)} {cvs : List Value} (ho : o.op = .call c) (hc : c.callee = .value f) (hf : a.eval f = .func (.func g) (fvs.map fun c => .agg c.toArray).toArray cvs.toArray) :
    (execOp a.eval o).run P w = (callFunc g ((fvs.map fun c => Value.agg c.toArray) ++ (c.args.toList.map a.eval ++ cvs)).toArray).run P w := by
  simp only [execOp, ho, resolve, hc, hf, Deferred.ofValue, Sem.run_bind, Sem.run_pure, Result.andThen_ok, invoke]
  congr 2
  apply Array.ext'
  simp

theorem op_callValue {md : MF} {d : Nat} {c : Call} {f : Operand} (ho : o.op = .call c) (hc : c.callee = .value f) (R : Rel E ok hd tm ob a.tmps w)
    (h : (match ev tm f with
      | some (.one (.t (.fn (.func g) first caps))) => match argsOf (ev tm) c.args.toList with
        | some l => sCall std md ob d g (firstA first ++ (l ++ capT caps))
        | none => .bad
      | some (.one (.fn (.func g) first caps)) => match argsOf (ev tm) c.args.toList with
        | some l => sCall std md ob d g (firstA first ++ (l ++ capA caps))
        | none => .bad
      | _ => SR.bad).holds std (ACall P) K) : Goes P E tm ob a.tmps K o a w := by
  split at h
  · rename_i g first caps hf
    split at h
    · rename_i l hl
      have hv := (ev_rel R hf).one_inv
      generalize hfv : a.eval f = fv at hv
      cases hv with
      | fn _ _ _ fvs cvs q1 q2 q3 q4 q5 =>
        exact op_sCall (run_callValue ho hc hfv) R ((first_rel q1 q2 q4).append ((args_rel R _ l hl).append (capT_rel cvs caps q3 q5))) h
    · exact h.elim
  · rename_i g first caps hf
    split at h
    · rename_i l hl
      obtain ⟨fvs, cvs, q0, q1, q2, q3, q4, q5⟩ := (ev_rel R hf).one_inv
      exact op_sCall (run_callValue ho hc q0) R ((first_rel q1 q2 q4).append ((args_rel R _ l hl).append (capA_rel cvs caps q3 q5))) h
    · exact h.elim
  · exact h.elim

theorem step_sound {md : MF} {d : Nat} {op : Op} {ty : Nat} (hop : o.op = op) (hT : TabOk P tab) (R : Rel E ok hd tm ob a.tmps w) (h : (stepE std tab md d op ty (ev tm) ob).holds std (ACall P) K) : Goes P E tm ob a.tmps K o a w := by
  unfold stepE at h
  split at h
  · exact op_move hop R h
  · exact op_assign hop R h
  · exact op_pick hop R h
  · split at h
    · exact op_alloc hop hT R h
    · exact op_allocArr hop hT R h
  · exact op_box hop R h
  · exact op_build hop hT R h
  · split at h
    · exact op_buildSlice hop hT R h
    · exact op_buildSliceB hop hT R h
  · exact op_load hop hT R h
  · exact op_store hop hT R h
  · exact op_nilCheck hop R h
  · exact op_bin hop R hT h
  · exact op_un hop R h
  · exact op_convert hop hT R h
  · exact op_makeFunc hop R h
  · exact op_makeSlice hop hT R h
  · split at h
    · exact op_slice hop hT R h
    · exact op_slicePart hop hT R h
  · exact op_fieldAddr hop hT R h
  · exact op_field hop hT R h
  · exact op_indexAddr3 hop hT R h
  · exact op_index hop hT R h
  · exact op_extract hop R h
  · rename_i c
    split at h
    · rename_i hc
      split at h
      · rename_i x t hx ht; exact op_len hop hc hx ht hT R h
      · exact h.elim
    · rename_i hc
      split at h
      · rename_i x y t u hx ht; exact op_append hop hc hx ht hT R (by unfold nm; omega) h
      · exact h.elim
    · rename_i hc
      split at h
      · rename_i x y hx
        split at h
        · rename_i m n h1 h2; exact op_min hop hc hx R h1 h2 h
        · exact h.elim
      · exact h.elim
    · rename_i hc
      split at h
      · rename_i x y hx
        split at h
        · rename_i m n h1 h2; exact op_max hop hc hx R h1 h2 h
        · exact h.elim
      · exact h.elim
    · rename_i f hc
      exact op_callValue hop hc R h
    · exact h.elim
  · exact h.elim

end Go.TL

/- TlZ -/
namespace Go.TL
open Go

variable {P : Program} {E : Env P} {ok : Nat → Prop} {hd : HF} {tm : Nat → Option A} {ob : OF} {w : World} {a : Act} {o : Oper} {tab : TF} {md : MF} {tmps : Array Value}

/-- A frame and a world are as a state says. -/
structure SRel {P : Program} (E : Env P) (st : St) (a : Act) (w : World) : Prop where
  rel : ∃ ok hd, Rel E ok hd (look st.tm) (look st.ob) a.tmps w
  defers : a.defers = []

theorem look_put {α : Type} (l : List (Nat × α)) (d : Nat) (x : α) (t : Nat) : look (put l d x) t = if t = d then some x else look l t := by
  induction l with
  | nil => by_cases e : t = d <;> simp [put, look, e, Ne.symm]
  | cons p l ih =>
    obtain ⟨i, v⟩ := p
    by_cases e : i = d
    · subst e
      by_cases e2 : t = i
      · simp [put, look, e2]
      · simp [put, look, e2, Ne.symm e2]
    · by_cases e2 : t = d
      · subst e2; simp [put, look, e, ih]
      · by_cases e3 : i = t
        · subst e3; simp [put, look, e]
        · simp [put, look, e, ih, e2, e3]
theorem look_puts : ∀ (wr l : Obs), look (puts l wr) = updO (look l) wr
  | [], l => rfl
  | (i, x) :: r, l => by
    rw [puts, look_puts r]
    have : look (put l i x) = updO (look l) [(i, x)] := by
      rw [updO_one]; funext t; rw [look_put]; rfl
    rw [this, ← updO_append]
    rfl

theorem Rel.put {d : Nat} {v : Value} {x : A} (R : Rel E ok hd tm ob tmps w) (hx : AR w ok hd ob v x) (hd' : d < E.nt) : Rel E ok hd (fun t => if t = d then some x else tm t) ob (tmps.setIfInBounds d v) w :=
  { R with
    nt := by simp [R.nt]
    tms := fun t y hy => by
      by_cases e : t = d
      · subst e
        simp at hy; subst hy
        simp [Array.getD, R.nt, hd', hx]
      · simp [e] at hy
        have := R.tms t y hy
        simp only [Array.getD_eq_getD_getElem?] at this ⊢
        rw [Array.getElem?_setIfInBounds_ne (Ne.symm e)]
        exact this }
theorem Rel.tmsub {tm' : Nat → Option A} (R : Rel E ok hd tm ob tmps w) (h : ∀ t x, tm' t = some x → tm t = some x) : Rel E ok hd tm' ob tmps w :=
  { R with tms := fun t x hx => R.tms t x (h t x hx) }

/-- The frame behind an operation. -/
theorem srel_put {st : St} {dst : Option Nat} {v : Value} {x : A} {wr : Obs} (hdf : a.defers = []) (hd' : ∀ d, dst = some d → d < E.nt) (R : Rel E ok hd (look st.tm) (updO (look st.ob) wr) a.tmps w) (hx : AR w ok hd (updO (look st.ob) wr) v x) :
    SRel E ⟨setT st.tm dst x, puts st.ob wr⟩ (a.put dst v) w := by
  cases dst with
  | none => exact ⟨⟨ok, hd, by simpa only [look_puts, setT, Act.put] using R⟩, hdf⟩
  | some d =>
    refine ⟨⟨ok, hd, ?_⟩, hdf⟩
    have := R.put hx (hd' d rfl)
    simp only [look_puts, setT, Act.put]
    rw [show look (put st.tm d x) = fun t => if t = d then some x else look st.tm t from funext fun t => look_put _ _ _ _]
    exact this

/-- Each operation's place is one of the frame; a guard asks an operation that has one. -/
def dstsOk (nt : Nat) (ops : List Oper) : Bool := ops.all fun o => (match o.dst with
  | some d => ltB d nt
  | none => true) && match o.guard with
    | some (g, _) => (match ops[g]? with | some o' => o'.dst.isSome | none => false)
    | none => true
theorem dstsOk_mem {nt : Nat} {ops : List Oper} (h : dstsOk nt ops = true) {o : Oper} (ho : o ∈ ops) : ∀ d, o.dst = some d → d < nt := by
  intro d hd
  have := List.all_eq_true.1 h o ho
  rw [hd] at this
  simp only [Bool.and_eq_true] at this
  exact lt_of_ltB this.1
theorem dstsOk_guard {nt : Nat} {ops : List Oper} (h : dstsOk nt ops = true) {o : Oper} (ho : o ∈ ops) {g : Nat} {want : Bool} (hg : o.guard = some (g, want)) : ∃ o' t, ops[g]? = some o' ∧ o'.dst = some t ∧ guardT ops o.guard = some (t, want) := by
  have := List.all_eq_true.1 h o ho
  rw [hg] at this
  simp only [Bool.and_eq_true] at this
  obtain ⟨_, this⟩ := this
  split at this
  · rename_i o' ho'
    obtain ⟨t, ht⟩ := Option.isSome_iff_exists.1 this
    exact ⟨o', t, ho', ht, by simp [hg, guardT, ho', ht]⟩
  · cases this

/-- What a guard reads. -/
theorem guard_read {ops : Array Oper} {st : St} {g t : Nat} {o' : Oper} {b : Bool} (R : SRel E st a w) (ho : ops.toList[g]? = some o') (ht : o'.dst = some t) (hb : look st.tm t = some (.one (.t (.bool b)))) (hnt : dstsOk E.nt ops.toList = true) :
    yielded ops a.tmps g = some b := by
  obtain ⟨ok, hd, R⟩ := R.rel
  have hv := (R.tms t _ hb).one_inv.bool_inv
  have hog : ops[g]? = ops.toList[g]? := by simp
  have hlt := dstsOk_mem hnt (List.mem_of_getElem? ho) t ht
  have hi : a.tmps[t]? = some (.bool b) := by
    rw [← R.nt] at hlt
    rw [Array.getD_eq_getD_getElem?, Array.getElem?_eq_getElem hlt] at hv
    rw [Array.getElem?_eq_getElem hlt]
    simpa using hv
  simp [yielded, hog, ho, ht, hi]

theorem guard_un {ops : Array Oper} {g t : Nat} {o' : Oper} {v : Value} (ho : ops.toList[g]? = some o') (ht : o'.dst = some t) (hv : AR w ok hd ob v (.tup [])) (hi : a.tmps.getD t undef = v) : yielded ops a.tmps g = none := by
  have hog : ops[g]? = ops.toList[g]? := by simp
  cases hv with
  | tup xs as hl h =>
    have : xs = [] := List.length_eq_zero_iff.1 hl
    subst this
    simp only [yielded, hog, ho, ht, Option.bind_some]
    cases hx : a.tmps[t]? with
    | none => rfl
    | some x =>
      rw [Array.getD_eq_getD_getElem?, hx] at hi
      simp only [Option.getD_some] at hi
      subst hi; rfl

theorem look_put_same {st : St} {t : Nat} {x : A} (h : look st.tm t = some x) : look (put st.tm t x) = look st.tm := by
  funext u
  rw [look_put]
  by_cases e : u = t
  · subst e; simp [h]
  · simp [e]

theorem opsP_sound {ops : Array Oper} {K : St → Prop} {Q : Exit → Act → World → Prop} (hT : TabOk P tab) (hnt : dstsOk E.nt ops.toList = true) (hQ : ∀ st a w, K st → SRel E st a w → Q .normal a w) :
    ∀ (l : List Oper) (k : Nat), ops.toList.drop k = l → ∀ (st : St) (a : Act) (w : World), SRel E st a w → opsP std (ACall P) tab md (kops ops.toList l) st K → wpOps P ops Q (List.range' k l.length) a w := by
  intro l
  induction l with
  | nil => intro k _ st a w R h; exact hQ st a w h R
  | cons o l ih =>
    intro k hk st a w R h
    have hlt : k < ops.toList.length := by
      by_cases q : k < ops.toList.length
      · exact q
      · rw [List.drop_eq_nil_of_le (by omega)] at hk; cases hk
    have hk2 := hk
    rw [List.drop_eq_getElem_cons hlt] at hk2
    injection hk2 with ho1 hk2
    have ho : ops[k]? = some o := by
      rw [← ho1]; simp
    have hmem : o ∈ ops.toList := by rw [← ho1]; exact List.getElem_mem _
    have hds := dstsOk_mem hnt hmem
    have step : ∀ (st : St), SRel E st a w → (stepE std tab md (dstOf o.dst) o.op o.type (ev (look st.tm)) (look st.ob)).holds std (ACall P) (fun x wr => opsP std (ACall P) tab md (kops ops.toList l) ⟨setT st.tm o.dst x, puts st.ob wr⟩ K) →
        o.wp P a w (wpOps P ops Q (List.range' (k + 1) l.length)) Q := by
      intro st R h
      obtain ⟨⟨ok, hd, R1⟩, hdf⟩ := R
      refine step_sound rfl hT R1 h _ _ ?_
      intro av wr ok' hd' v w' hK R2 hv
      exact ih (k + 1) hk2 _ _ _ (srel_put hdf hds R2 hv) hK
    simp only [List.length_cons, List.range'_succ, wpOps, ho]
    simp only [kops, kop] at h
    cases hg : o.guard with
    | none =>
      rw [hg] at h
      simp only [guardT, opsP] at h
      rw [if_pos (by simp [Region.wanted, hg])]
      exact .inl (step st R h)
    | some p =>
      obtain ⟨g, want⟩ := p
      obtain ⟨o', t, g1, g2, g3⟩ := dstsOk_guard hnt hmem hg
      rw [g3] at h
      simp only [opsP] at h
      have skip : ∀ (st : St), SRel E st a w → opsP std (ACall P) tab md (kops ops.toList l) ⟨setT st.tm o.dst (.tup []), st.ob⟩ K → wpOps P ops Q (List.range' (k + 1) l.length) (a.put o.dst undef) w := by
        intro st R h
        obtain ⟨⟨ok, hd, R1⟩, hdf⟩ := R
        exact ih (k + 1) hk2 _ _ _ (srel_put (wr := []) (x := .tup []) (v := undef) hdf hds R1 (.tup [] [] rfl (fun _ _ _ h => by simp at h))) h
      split at h
      rotate_left
      · rename_i hb
        have hy : yielded ops a.tmps g = none := by
          obtain ⟨⟨ok, hd, R1⟩, _⟩ := R
          exact guard_un g1 g2 (R1.tms t _ hb) rfl
        have hw : Region.wanted o (yielded ops a.tmps) = false := by simp [Region.wanted, hg, hy]
        rw [hw]
        exact skip st R h
      · exact h.elim
      rename_i b hb
      have hy := guard_read R g1 g2 hb hnt
      have hw : Region.wanted o (yielded ops a.tmps) = (b == want) := by simp [Region.wanted, hg, hy]
      have R' : SRel E ⟨put st.tm t (.one (.t (.bool b))), st.ob⟩ a w := by
        refine ⟨?_, R.defers⟩
        simp only [look_put_same hb]
        exact R.rel
      rw [hw]
      cases b <;> cases want <;> simp only [] at h
      · exact .inl (step _ R' h)
      · exact skip _ R' h
      · exact skip _ R' h
      · exact .inl (step _ R' h)

end Go.TL
