/- Texts of a proof, joined by a program (merge.py): TlM TlN TlO TlQ TlR. -/
import Derived.Test.YtpnhfpjpmjdgmaaGreatDoorV02
import Derived.Deep.AppendSrc
import Derived.Great.BuildSlice
import Derived.Laws.BytesArg
import Derived.Lib.ConvBytes
set_option linter.all false
/- TlM -/
namespace Go.TL
open Go

variable {P : Program} {E : Env P} {ok : Nat → Prop} {hd : HF} {tm : Nat → Option A} {ob : OF} {w : World} {a : Act} {K : A → Obs → Prop} {o : Oper} {tab : TF} {cl : Nat → List A → Obs → (A → Obs → Prop) → Prop} {tmps : Array Value}

/-- Cells that read as a list of elements, one behind the other. -/
structure Flat (w : World) (ok : Nat → Prop) (sz : Nat) (es : List (List T)) (cells : List Value) : Prop where
  len : cells.length = es.length * sz
  wid : ∀ x, x ∈ es → x.length = sz
  rep : ∀ (i j : Nat) x t, es[i]? = some x → x[j]? = some t → ∃ v, cells[i * sz + j]? = some v ∧ Rep w ok v t
theorem Flat.one {sz : Nat} {es : List (List T)} {cells : List Value} (h : Flat w ok sz es cells) (hz : 0 < sz) : ∀ u ∈ cells, u.oneCell' = true := by
  intro u hu
  obtain ⟨k, hk⟩ := List.getElem?_of_mem hu
  have hlt : k < es.length * sz := by
    rw [← h.len]
    by_cases q : k < cells.length
    · exact q
    · rw [List.getElem?_eq_none (by omega)] at hk; cases hk
  have h1 : k / sz < es.length := Nat.div_lt_of_lt_mul (by rwa [Nat.mul_comm] at hlt)
  have hx := List.getElem?_eq_getElem h1
  have hl := h.wid _ (List.mem_of_getElem? hx)
  have h2 : k % sz < (es[k / sz]).length := by rw [hl]; exact Nat.mod_lt _ hz
  obtain ⟨v, hv, hr⟩ := h.rep (k / sz) (k % sz) _ _ hx (List.getElem?_eq_getElem h2)
  rw [show k / sz * sz + k % sz = k by rw [Nat.mul_comm]; exact Nat.div_add_mod k sz, hk] at hv
  injection hv with hv; subst hv
  exact hr.oneCell
theorem Flat.append {sz : Nat} {es ys : List (List T)} {c d : List Value} (h : Flat w ok sz es c) (k : Flat w ok sz ys d) : Flat w ok sz (es ++ ys) (c ++ d) where
  len := by simp [h.len, k.len, Nat.add_mul]
  wid x hx := by rcases List.mem_append.1 hx with q | q; exact h.wid x q; exact k.wid x q
  rep i j x t hx ht := by
    by_cases q : i < es.length
    · rw [List.getElem?_append_left q] at hx
      obtain ⟨v, hv, hr⟩ := h.rep i j x t hx ht
      have hlt : i * sz + j < c.length := by
        by_cases q2 : i * sz + j < c.length
        · exact q2
        · rw [List.getElem?_eq_none (by omega)] at hv; cases hv
      exact ⟨v, by rw [List.getElem?_append_left hlt]; exact hv, hr⟩
    · rw [List.getElem?_append_right (by omega)] at hx
      obtain ⟨v, hv, hr⟩ := k.rep (i - es.length) j x t hx ht
      have e : i * sz + j = c.length + ((i - es.length) * sz + j) := by
        have : i * sz = es.length * sz + (i - es.length) * sz := by rw [← Nat.add_mul, Nat.add_sub_cancel' (by omega)]
        rw [h.len]; omega
      refine ⟨v, ?_, hr⟩
      rw [e, List.getElem?_append_right (by omega), Nat.add_sub_cancel_left]
      exact hv
theorem Flat.nil (sz : Nat) : Flat w ok sz [] [] := ⟨by simp, by simp, by simp⟩
theorem Flat.mono {w' : World} {ok' : Nat → Prop} {sz : Nat} {es : List (List T)} {c : List Value} (h : Flat w ok sz es c) (hok : ∀ b, ok b → ok' b) (hw : ∀ b, ok b → w'.heap[b]? = w.heap[b]?) : Flat w' ok' sz es c :=
  ⟨h.len, h.wid, fun i j x t hx ht => let ⟨v, hv, hr⟩ := h.rep i j x t hx ht; ⟨v, hv, hr.mono hok hw⟩⟩

theorem rowR_flat {sz : Nat} {es : List (List T)} {c : Array Value} {cap : Nat} (g6 : c.size = cap * sz) (g7 : es.length ≤ cap) (g8 : ∀ x ∈ es, x.length = sz)
    (g9 : ∀ (i j : Nat) x t, es[i]? = some x → x[j]? = some t → ∃ v, c[i * sz + j]? = some v ∧ Rep w ok v t) : Flat w ok sz es (c.toList.take (es.length * sz)) where
  len := by
    have : es.length * sz ≤ cap * sz := Nat.mul_le_mul_right _ g7
    simp; omega
  wid := g8
  rep i j x t hx ht := by
    obtain ⟨v, hv, hr⟩ := g9 i j x t hx ht
    refine ⟨v, ?_, hr⟩
    have hi : i < es.length := by by_cases q : i < es.length; exact q; rw [List.getElem?_eq_none (by omega)] at hx; cases hx
    have hj : j < sz := by
      have := g8 x (List.mem_of_getElem? hx)
      by_cases q : j < sz; exact q; rw [List.getElem?_eq_none (by omega)] at ht; cases ht
    have : (i + 1) * sz ≤ es.length * sz := Nat.mul_le_mul_right _ hi
    rw [Nat.succ_mul] at this
    rw [List.getElem?_take_of_lt (by omega)]
    simpa using hv

theorem Flat.sub {sz : Nat} {es : List (List T)} {cells : List Value} (hF : Flat w ok sz es cells) {l h : Nat} (h1 : l ≤ h) (h2 : h ≤ es.length) : Flat w ok sz ((es.take h).drop l) ((cells.drop (l * sz)).take ((h - l) * sz)) where
  len := by
    have hle : l * sz + (h - l) * sz ≤ es.length * sz := by rw [← Nat.add_mul]; exact Nat.mul_le_mul_right _ (by omega)
    have := hF.len
    have e : ((es.take h).drop l).length = h - l := by simp; omega
    rw [e]; simp; omega
  wid x hx := hF.wid x (List.mem_of_mem_take (List.mem_of_mem_drop hx))
  rep i j x t hx ht := by
    have hi : i < h - l := by
      by_cases q : i < h - l
      · exact q
      · rw [List.getElem?_eq_none (by simp; omega)] at hx; cases hx
    rw [List.getElem?_drop, List.getElem?_take_of_lt (by omega)] at hx
    obtain ⟨v, hv, hr⟩ := hF.rep (l + i) j x t hx ht
    refine ⟨v, ?_, hr⟩
    have hj : j < sz := by
      rw [← hF.wid x (List.mem_of_getElem? hx)]
      by_cases q : j < x.length
      · exact q
      · rw [List.getElem?_eq_none (by omega)] at ht; cases ht
    have hle : (i + 1) * sz ≤ (h - l) * sz := Nat.mul_le_mul_right _ hi
    rw [Nat.succ_mul] at hle
    rw [List.getElem?_take_of_lt (by omega), List.getElem?_drop]
    rw [Nat.add_mul] at hv
    rwa [show l * sz + (i * sz + j) = l * sz + i * sz + j by omega]

theorem kind_of (hT : TabOk P tab) {u : Nat} (h : (isSlice tab u || isStr tab u) = true) : (∃ e', P.underlying u = some (.slice e')) ∨ P.underlying u = some .string := by
  rw [Bool.or_eq_true] at h
  rcases h with h | h
  · exact .inl (isSlice_und hT h)
  · exact .inr (isStr_und hT h)

theorem src_flat {sz u : Nat} {x : Value} {n c : Nat} {b off : Nat} {es : List (List T)} {cells : List Value} (hk : (∃ e', P.underlying u = some (.slice e')) ∨ P.underlying u = some .string) (hz : 0 < sz)
    (hx : x = .slice (some ⟨b, off, none⟩) n c) (hn : n = es.length) (hF : Flat w ok sz es cells) (hc : ∀ j v, cells[j]? = some v → w.cell? ⟨b, off + j, none⟩ = some v) : Src P sz u x es.length cells w := by
  subst hx; subst hn
  have hc' : ∀ j v, cells[j]? = some v → w.cell? ((⟨b, off, none⟩ : Addr).add j) = some v := fun j v h => by rw [Addr.add_mid]; exact hc j v h
  exact ⟨hk, fun _ => rfl, run_firstCells_some w sz es.length _ _ c cells hF.len hc', run_firstCells_some w.drew sz es.length _ _ c cells hF.len (by simpa using hc'), hF.len, hF.one hz⟩

theorem encB_len (l : List UInt8) : (encB l).length = l.length := by simp [encB]
theorem encB_wid {l : List UInt8} : ∀ x, x ∈ encB l → x.length = 1 := by
  intro x hx
  simp [encB] at hx
  obtain ⟨b, _, rfl⟩ := hx; rfl
theorem flat_bytes (s : ByteArray) : Flat w ok 1 (encB s.data.toList) (byteCells s) where
  len := by rw [byteCells_length, encB_len]; simp
  wid := encB_wid
  rep i j x t hx ht := by
    have hx' := hx
    simp only [encB, List.getElem?_map] at hx
    cases hb : s.data.toList[i]? with
    | none => rw [hb] at hx; cases hx
    | some b =>
      rw [hb] at hx; injection hx with hx; subst hx
      cases j with
      | succ j => simp at ht
      | zero =>
        simp at ht; subst ht
        refine ⟨.int .u8 b.toNat, ?_, ?_⟩
        · simp only [byteCells, List.getElem?_map, Nat.mul_one, Nat.add_zero, hb]; rfl
        · have := b.toNat_lt
          exact .int _ _ (by simp [IntKind.has, IntKind.min, IntKind.max, IntKind.signed, IntKind.bits]; omega)

theorem src_rel {sz u : Nat} {y : Operand} {yv : A} {ys : List (List T)} (R : Rel E ok hd tm ob a.tmps w) (hy : ev tm y = some yv) (hs : srcOf std ob (some yv) = some ys) (hw : ∀ x, x ∈ ys → x.length = sz) (hz : 0 < sz)
    (hk : (∃ e', P.underlying u = some (.slice e')) ∨ P.underlying u = some .string) : ∃ cells, Src P sz u (a.eval y) ys.length cells w ∧ Flat w ok sz ys cells := by
  have hnil : ∀ c, Src P sz u (.slice none 0 c) ([] : List (List T)).length [] w := fun c => ⟨hk, fun _ => rfl, run_firstCells_none w sz 0 0 c, run_firstCells_none w.drew sz 0 0 c, by simp, fun _ h => by cases h⟩
  unfold srcOf at hs
  split at hs
  · rename_i s heq
    injection heq with heq; subst heq
    injection hs with hs
    obtain ⟨v, hv, rfl, hb⟩ := ev_str R hy
    have hs : encB v.data.toList = ys := hs
    subst hs
    rw [hv, encB_len]
    by_cases hn : v.data.toList = []
    · have : v.size = 0 := by have := congrArg List.length hn; simpa using this
      rw [hn]
      refine ⟨[], ⟨hk, fun _ => by simp [Builtin.lenOf, this], by simp [Builtin.firstCells], by simp [Builtin.firstCells], by simp, fun _ h => by cases h⟩, Flat.nil _⟩
    · have h1 : sz = 1 := by
        cases hl : v.data.toList with
        | nil => exact absurd hl hn
        | cons b l => have := hw [.int .u8 b.toNat] (by rw [hl]; simp [encB]); simpa using this.symm
      subst h1
      have hsz : v.data.toList.length = v.size := by simp
      rw [hsz]
      exact ⟨_, ⟨hk, fun _ => rfl, firstCells_string v w, firstCells_string v w.drew, by rw [byteCells_length, Nat.mul_one], (flat_bytes (w := w) (ok := ok) v).one (by omega)⟩, flat_bytes v⟩
  · rename_i n g i j heq
    injection heq with heq; subst heq
    obtain ⟨sz1, es1, cur, tags, fz, h1, h2, _, h3⟩ := (ev_rel R hy).one_inv
    simp only [h1] at hs
    by_cases hg : eqB g cur = true
    rotate_left
    · rw [Bool.not_eq_true] at hg; rw [hg] at hs; cases hs
    rw [hg] at hs
    by_cases hsm : ltB sz1 1000000 = true
    rotate_left
    · rw [Bool.not_eq_true] at hsm; rw [hsm] at hs; cases hs
    rw [hsm] at hs
    have hsm := lt_of_ltB hsm
    have hs : some (std.sub es1 i j) = some ys := hs
    injection hs with hs
    have hs : (es1.take j.toNat).drop i.toNat = ys := hs
    rcases h3 (eq_of_eqB hg) with ⟨_, hi0, hj0, hv⟩ | ⟨b, len, cap, q1, q2, q3, q4, hv⟩
    · subst hi0; subst hj0; simp at hs; subst hs
      rw [hv]; exact ⟨[], hnil 0, Flat.nil _⟩
    · obtain ⟨_, hz1, hR⟩ := (ObR.small hsm).1 (R.obs n _ h1)
      rcases hR with ⟨he, hv0, _⟩ | ⟨b', c, e, fr, cap', g1, g2, g3, g4, g5, g6, g7, g7', g8, g9⟩
      · rw [hv0] at q1; injection q1 with q1; cases q1
      · rw [g1] at q1
        injection q1 with e1 e2 e3
        injection e1 with e1; injection e1 with e1
        subst e1; subst e2; subst e3
        have hlen : ys.length = j.toNat - i.toNat := by rw [← hs]; simp; omega
        rw [hv]
        by_cases he : ys = []
        · subst he
          have h0 : j.toNat - i.toNat = 0 := by rw [← hlen]; rfl
          rw [h0]
          refine ⟨[], ⟨hk, fun _ => rfl, by simp [Builtin.firstCells, loadCells, loadCellsFrom], by simp [Builtin.firstCells, loadCells, loadCellsFrom], by simp, fun _ h => by cases h⟩, Flat.nil _⟩
        · have hpos : 0 < ys.length := List.length_pos_iff.2 he
          have hsz' : sz1 = sz := by
            have hmem : ∀ x, x ∈ ys → x ∈ es1 := fun x hx => by rw [← hs] at hx; exact List.mem_of_mem_take (List.mem_of_mem_drop hx)
            have hx0 : ys[0] ∈ ys := List.getElem_mem hpos
            rw [← hw _ hx0]
            exact (g8 _ (hmem _ hx0)).symm
          subst hsz'
          have hF := (rowR_flat g6 g7 g8 g9).sub (l := i.toNat) (h := j.toNat) (by omega) (by omega)
          rw [hs] at hF
          rw [if_neg (by omega), ← hlen]
          refine ⟨_, src_flat hk hz rfl rfl hF fun k v hkv => ?_, hF⟩
          rw [cell_of g4]
          have hlt : k < (j.toNat - i.toNat) * sz1 := by
            by_cases q : k < (j.toNat - i.toNat) * sz1
            · exact q
            · rw [List.getElem?_take_eq_none (by omega)] at hkv; cases hkv
          have hle : i.toNat * sz1 + (j.toNat - i.toNat) * sz1 ≤ es1.length * sz1 := by rw [← Nat.add_mul]; exact Nat.mul_le_mul_right _ (by omega)
          rw [List.getElem?_take_of_lt hlt, List.getElem?_drop, List.getElem?_take_of_lt (by omega)] at hkv
          simpa using hkv
  · rename_i n g heq
    injection heq with heq; subst heq
    obtain ⟨sz1, es1, cur, tags, fz, h1, h2, _, h3⟩ := (ev_rel R hy).one_inv
    simp only [h1] at hs
    by_cases hg : eqB g cur = true
    · rw [hg] at hs
      by_cases hsm : ltB sz1 1000000 = true
      rotate_left
      · rw [Bool.not_eq_true] at hsm; rw [hsm] at hs; cases hs
      rw [hsm] at hs; simp at hs; subst hs
      have hsm := lt_of_ltB hsm
      rw [h3 (eq_of_eqB hg)]
      obtain ⟨_, hz1, hR⟩ := (ObR.small hsm).1 (R.obs n _ h1)
      rcases hR with ⟨he, hv, _⟩ | ⟨b', c, e, fr, cap', g1, g2, g3, g4, g5, g6, g7, g7', g8, g9⟩
      · rw [hv]; subst he; exact ⟨[], hnil 0, Flat.nil _⟩
      · rw [g1]
        by_cases he : es1 = []
        · subst he
          refine ⟨[], ⟨hk, fun _ => rfl, by simp [Builtin.firstCells, loadCells, loadCellsFrom], by simp [Builtin.firstCells, loadCells, loadCellsFrom], by simp, fun _ h => by cases h⟩, Flat.nil _⟩
        · have hsz' : sz1 = sz := by
            cases es1 with
            | nil => exact absurd rfl he
            | cons e es => rw [← g8 e (by simp), hw e (by simp)]
          subst hsz'
          have hF := rowR_flat g6 g7 g8 g9
          refine ⟨_, src_flat hk hz rfl rfl hF fun k v hkv => ?_, hF⟩
          rw [cell_of g4, Nat.zero_add]
          have hlt : k < es1.length * sz1 := by
            by_cases q : k < es1.length * sz1
            · exact q
            · rw [List.getElem?_take_eq_none (by omega)] at hkv; cases hkv
          rw [List.getElem?_take_of_lt hlt] at hkv
          simpa using hkv
    · rw [Bool.not_eq_true] at hg; rw [hg] at hs; cases hs
  · rename_i v hne1 hne hne2 heq
    injection heq with heq; subst heq
    split at hs
    · rename_i es hes
      injection hs with hs; subst hs
      have hv := (ev_rel R hy).one_inv
      cases v with
      | t c =>
        simp only [V.tree] at hes; injection hes with hes; subst hes
        have hv : Rep w ok (a.eval y) (.sl es) := hv
        generalize a.eval y = p at hv
        cases hv with
        | snil => exact ⟨[], hnil 0, Flat.nil _⟩
        | szero x => exact ⟨[], ⟨hk, fun _ => rfl, by simp [Builtin.firstCells, loadCells, loadCellsFrom], by simp [Builtin.firstCells, loadCells, loadCellsFrom], by simp, fun _ h => by cases h⟩, Flat.nil _⟩
        | sl b off cap sz0 _ vs hm hcap hsz hok hc hr =>
          by_cases he : es = []
          · subst he
            refine ⟨[], ⟨hk, fun _ => rfl, by simp [Builtin.firstCells, loadCells, loadCellsFrom], by simp [Builtin.firstCells, loadCells, loadCellsFrom], by simp, fun _ h => by cases h⟩, Flat.nil _⟩
          · have hsz' : sz0 = sz := by
              cases es with
              | nil => exact absurd rfl he
              | cons e es => rw [← hsz e (by simp), hw e (by simp)]
            subst hsz'
            let cells := (List.range (es.length * sz0)).map fun k => vs (k / sz0) (k % sz0)
            have hget : ∀ k, k < es.length * sz0 → cells[k]? = some (vs (k / sz0) (k % sz0)) := fun k hk => by simp [cells, hk]
            have hF : Flat w ok sz0 es cells := ⟨by simp [cells], hw, fun i j x t hx ht => by
              have hi : i < es.length := by by_cases q : i < es.length; exact q; rw [List.getElem?_eq_none (by omega)] at hx; cases hx
              have hj : j < sz0 := by
                have := hw x (List.mem_of_getElem? hx)
                by_cases q : j < sz0; exact q; rw [List.getElem?_eq_none (by omega)] at ht; cases ht
              have hlt : (i + 1) * sz0 ≤ es.length * sz0 := Nat.mul_le_mul_right _ hi
              rw [Nat.succ_mul] at hlt
              refine ⟨_, hget (i * sz0 + j) (by omega), ?_⟩
              have e1 : (i * sz0 + j) / sz0 = i := by rw [Nat.mul_comm, Nat.mul_add_div hz, Nat.div_eq_of_lt hj]; simp
              have e2 : (i * sz0 + j) % sz0 = j := by rw [Nat.mul_comm, Nat.mul_add_mod, Nat.mod_eq_of_lt hj]
              rw [e1, e2]
              exact hr i j x t hx ht⟩
            refine ⟨cells, src_flat hk hz rfl rfl hF fun k v hkv => ?_, hF⟩
            have hlt : k < es.length * sz0 := by
              by_cases q : k < es.length * sz0
              · exact q
              · rw [List.getElem?_eq_none (by simp [cells]; omega)] at hkv; cases hkv
            rw [hget k hlt] at hkv
            injection hkv with hkv; subst hkv
            have h1 : k / sz0 < es.length := Nat.div_lt_of_lt_mul (by rwa [Nat.mul_comm] at hlt)
            have := hc (k / sz0) (k % sz0) h1 (Nat.mod_lt _ hz)
            rwa [show off + k / sz0 * sz0 + k % sz0 = off + k by rw [Nat.add_assoc, Nat.mul_comm (k / sz0), Nat.div_add_mod]] at this
      | nil =>
        simp only [V.tree] at hes; injection hes with hes; injection hes with hes; subst hes
        have hv : a.eval y = .slice none 0 0 := hv
        rw [hv]
        exact ⟨[], hnil 0, Flat.nil _⟩
      | row n g => exact absurd rfl (hne2 n g)
      | ptr n off =>
        simp only [V.tree, Cap.tree] at hes
        split at hes
        · split at hes
          · injection hes with hes; cases hes
          · cases hes
        · cases hes
      | elt n g i j => cases hes
      | fn f first caps =>
        simp only [V.tree] at hes
        split at hes
        · injection hes with hes; cases hes
        · cases hes
      | bsl n m k => cases hes
      | part n g i j => cases hes
      | sub n g i j => cases hes
      | selt n g i j k => cases hes
      | any => cases hes
    · cases hs
  · cases hs

theorem flat_row {sz : Nat} {es : List (List T)} {cells rest : List Value} (hF : Flat w ok sz es cells) : ∀ (i j : Nat) x t, es[i]? = some x → x[j]? = some t → ∃ v, (cells.toArray ++ rest.toArray)[i * sz + j]? = some v ∧ Rep w ok v t := by
  intro i j x t hx ht
  obtain ⟨v, hv, hr⟩ := hF.rep i j x t hx ht
  have hlt : i * sz + j < cells.length := by
    by_cases q : i * sz + j < cells.length
    · exact q
    · rw [List.getElem?_eq_none (by omega)] at hv; cases hv
  exact ⟨v, by rw [Array.getElem?_append_left (by simpa using hlt)]; simpa using hv, hr⟩

/-- A new row. -/
theorem rel_row {n sz cap : Nat} {es : List (List T)} {cur : Nat} {tags : List Nat} {cells rest : List Value} {e : TypeId} {w0 : World} (R : Rel E ok hd tm ob tmps w) (hn : ob n = none) (hw0 : Ext w w0) (hs0 : w0.heap.size = w.heap.size)
    (hcur : cur ∈ tags) (hz : 0 < sz) (hsm : sz < 1000000) (hF : Flat w ok sz es cells) (hsz : cells.length + rest.length = cap * sz) (hcap : es.length ≤ cap) (hm : es.length ≤ 2 ^ 63 - 1) :
    Rel E ok (setF hd n (hdOf (.slice (some ⟨w.heap.size, 0, none⟩) es.length cap) [w.heap.size])) tm (setF ob n (some (.row sz es cur tags false))) tmps (w0.alloc (.cells (cells.toArray ++ rest.toArray) e (0, 0))) := by
  have hx := hw0.trans (alloc_ext w0 (.cells (cells.toArray ++ rest.toArray) e (0, 0)))
  refine R.newOb hn hx (fun b hb => by simp at hb; subst hb; simp; omega) ?_
  have hb := alloc_new w0 (.cells (cells.toArray ++ rest.toArray) e (0, 0))
  rw [hs0] at hb
  refine (ObR.small hsm).2 ⟨hcur, hz, .inr ⟨w.heap.size, _, e, (0, 0), cap, rfl, rfl, by simp, hb, .inl rfl, by simpa using hsz, hcap, hm, hF.wid, ?_⟩⟩
  exact flat_row (hF.mono (fun _ h => h) fun b hb => hx.block b (R.okLt b hb))
theorem ref_row {n sz g : Nat} {es : List (List T)} {cur : Nat} {tags : List Nat} {v : Value} {h : Hd} {x : Option Addr} {l c : Nat} (hg : g ∈ tags) (hv : h.v = v) (hs : v = .slice x l c) :
    VR w ok (setF hd n h) (setF ob n (some (.row sz es cur tags false))) v (.row n g) :=
  ⟨sz, es, cur, tags, false, setF_same _ _ _, hg, ⟨x, l, c, hs⟩, fun _ => by rw [setF_same]; exact hv.symm⟩

theorem rel_vrow {n sz : Nat} {cur : Nat} {tags : List Nat} (R : Rel E ok hd tm ob tmps w) (hn : ob n = none) (hcur : cur ∈ tags) (hz : 0 < wd sz) :
    Rel E ok (setF hd n (hdOf (.slice none 0 0) [])) tm (setF ob n (some (.row sz [] cur tags false))) tmps w := by
  refine R.newOb hn (Ext.refl w) (fun b hb => by cases hb) ⟨hcur, hz, ?_⟩
  cases hc : cls sz false with
  | s => exact .inl ⟨rfl, rfl, rfl⟩
  | d => exact .inl ⟨rfl, rfl⟩
  | p => exact .inl ⟨rfl, none, 0, rfl, fun _ => rfl⟩
  | f => exact absurd hc cls_false_f

theorem run_appendOp {c : Call} {x y : Operand} {t u : Nat} {v : Value} {w' : World} (ho : o.op = .call c) (hc : c.callee = .builtin .append) (hx : c.args.toList = [x, y]) (ht : c.argTypes.toList = [t, u])
    (h : (Builtin.append_ #[t, u] o.type #[a.eval x, a.eval y]).run P w = .ok v w') : (execOp a.eval o).run P w = .ok (.value v) w' := by
  have hx' : c.args = #[x, y] := by rw [← hx]
  have ht' : c.argTypes = #[t, u] := by rw [← ht]
  simp only [execOp, ho, resolve, hc, hx', ht', invoke, builtin, Sem.run_bind, Sem.run_pure, Result.andThen_ok]
  simp [h]

theorem le_tag {n sz : Nat} {es es' : List (List T)} {cur : Nat} {tags : List Nat} {fz fz' : Bool} {g : Nat} (hob : ob n = some (.row sz es cur tags fz)) {h : Hd} (hg : g ∉ tags ∧ g ≠ 7) :
    Le hd ob (setF hd n h) (setF ob n (some (.row sz es' g (g :: tags) fz'))) where
  box m cs2 fz2 hm := by
    have q : m ≠ n := fun q => by subst q; rw [hob] at hm; cases hm
    exact ⟨_, _, by rw [setF_ne _ _ _ _ q]; exact hm, by rw [setF_ne _ _ _ _ q]⟩
  row m sz2 es2 cur2 tags2 fz2 hm := by
    by_cases q : m = n
    · subst q
      rw [hob] at hm; injection hm with hm; injection hm with q1 q2 q3 q4 q5; subst q1; subst q3; subst q4
      exact ⟨_, _, _, _, setF_same _ _ _, fun _ h => by simp [h], .inr hg⟩
    · exact ⟨_, _, _, _, by rw [setF_ne _ _ _ _ q]; exact hm, fun _ h => h, .inl ⟨rfl, by rw [setF_ne _ _ _ _ q], by rw [setF_ne _ _ _ _ q]⟩⟩

theorem room_le {b : Nat} {es : List (List T)} (h : std.room b es) : es.length ≤ 2 ^ 46 ∧ es.length * b ≤ 2 ^ 46 := by
  have h : es.length * (b + 1) ≤ 2 ^ 46 := h
  rw [Nat.mul_add] at h
  omega

theorem zlen (z : Array Value) (n : Nat) : (Builtin.zeroCells z n).toList.length = n * z.size := by
  rw [Array.length_toList, size_zeroCells]

theorem append_nil {c : Call} {x y : Operand} {t u n m e : Nat} {i : TypeInfo} {zv : Value} {te : TI} {ys es : List (List T)} {cur : Nat} {tags : List Nat} {z : List V} {cells : List Value} (ho : o.op = .call c) (hc : c.callee = .builtin .append) (hx : c.args.toList = [x, y]) (ht : c.argTypes.toList = [t, u])
    (hu : P.underlying t = some (.slice e)) (hk : (∃ e', P.underlying u = some (.slice e')) ∨ P.underlying u = some .string) (hi : P.info? e = some i) (hzv : i.zero = some zv) (hsz : i.size = te.size) (hby : i.bytes = te.bytes) (hzs : zv.cells.size = z.length) (hzl : z.length = te.size) (hz : 0 < te.size) (hsm : te.size < 1000000)
    (R : Rel E ok hd tm ob a.tmps w) (hob : ob m = some (.row te.size es cur tags false)) (hnt : n ∉ tags ∧ n ≠ 7) (hS : Src P te.size u (a.eval y) ys.length cells w) (hF : Flat w ok te.size ys cells)
    (hxv : a.eval x = .slice none 0 0) (r1 : ([] : List (List T)).length + ys.length ≤ 2 ^ 46) (r2 : (([] : List (List T)).length + ys.length) * te.bytes ≤ 2 ^ 46) (h : K (.one (.row m n)) [(m, .row te.size (std.app [] ys) n (n :: tags) false)]) : Goes P E tm ob a.tmps K o a w := by
  have happ : std.app [] ys = ys := rfl
  rw [happ] at h
  by_cases hl : ys.length = 0
  · have hy0 : ys = [] := List.eq_nil_of_length_eq_zero hl
    subst hy0
    refine goes_value (ok' := ok) (v := .slice none 0 0) (w' := w) (hd' := setF hd m (hdOf (.slice none 0 0) [])) (run_appendOp ho hc hx ht ?_) h ?_ ?_
    · rw [hxv]
      rw [← hsz] at hS
      have hcell := hS.cells
      rcases hk with ⟨e', hk⟩ | hk <;> simp [Builtin.append_, run_underlying hu, run_underlying hk, sizeOf, typeInfo, hi, hS.len, show (Builtin.firstCells i.size 0 (a.eval y)).run P w = .ok cells.toArray w from hcell]
    · rw [updO_one]
      exact R.turn hob (Fr.refl _ _) (fun b hb => by cases hb) (le_tag hob hnt) ((ObR.small hsm).2 ⟨by simp, hz, .inl ⟨rfl, rfl, rfl⟩⟩)
    · rw [updO_one]; exact .one _ _ (ref_row (by simp) rfl rfl)
  · have hold : (Builtin.firstCells i.size 0 (.slice none 0 0)).run P w.drew = .ok (([] : List Value)).toArray w.drew := run_firstCells_none w.drew i.size 0 0 0
    have hrun := run_append_grow_src (P := P) w t u o.type e i zv hu hi hzv none 0 0 [] hold (a.eval y) ys.length cells (by rw [hsz]; exact hS) (by omega) (by omega) (by
      refine growslice_fits (by omega) ?_
      rw [hby]; simp at r2 ⊢; omega)
    simp only [Nat.zero_add, List.nil_append] at hrun
    have hcz : (Builtin.zeroCells zv.cells (grownCap w ys.length 0 e - ys.length)) = (Builtin.zeroCells zv.cells (grownCap w ys.length 0 e - ys.length)).toList.toArray := by simp
    rw [hcz] at hrun
    have hge := grownCap_ge w ys.length 0 e
    have hx1 := (drew_ext w).trans (alloc_ext w.drew (.cells (cells.toArray ++ (Builtin.zeroCells zv.cells (grownCap w ys.length 0 e - ys.length)).toList.toArray) e (0, 0)))
    refine goes_value (ok' := ok) (hd' := setF hd m (hdOf (.slice (some ⟨w.heap.size, 0, none⟩) ys.length (grownCap w ys.length 0 e)) [w.heap.size])) (run_appendOp ho hc hx ht (by rw [hxv]; exact hrun)) h ?_ ?_
    · rw [updO_one]
      refine R.turn hob (hx1.fr _) (fun b hb => by simp at hb; subst hb; simp) (le_tag hob hnt) ((ObR.small hsm).2 ⟨by simp, hz, .inr ⟨w.heap.size, _, e, (0, 0), grownCap w ys.length 0 e, rfl, rfl, by simp, alloc_new w.drew _, .inl rfl, ?_, hge, by omega, hF.wid, flat_row (hF.mono (fun _ h => h) fun b hb => hx1.block b (R.okLt b hb))⟩⟩)
      rw [Array.size_append, List.size_toArray, List.size_toArray, hF.len, zlen, hzs, hzl, ← Nat.add_mul]; congr 1; omega
    · rw [updO_one]; exact .one _ _ (ref_row (by simp) rfl rfl)

theorem append_mem {c : Call} {x y : Operand} {t u n m e : Nat} {i : TypeInfo} {zv : Value} {te : TI} {ys es es0 : List (List T)} {cur : Nat} {tags : List Nat} {z : List V} {cells : List Value} (ho : o.op = .call c) (hc : c.callee = .builtin .append) (hx : c.args.toList = [x, y]) (ht : c.argTypes.toList = [t, u])
    (hu : P.underlying t = some (.slice e)) (hk : (∃ e', P.underlying u = some (.slice e')) ∨ P.underlying u = some .string) (hi : P.info? e = some i) (hzv : i.zero = some zv) (hsz : i.size = te.size) (hby : i.bytes = te.bytes) (hzs : zv.cells.size = z.length) (hzl : z.length = te.size) (hz : 0 < te.size) (hsm : te.size < 1000000)
    (R : Rel E ok hd tm ob a.tmps w) (hob : ob m = some (.row te.size es cur tags false)) (hnt : n ∉ tags ∧ n ≠ 7) (hS : Src P te.size u (a.eval y) ys.length cells w) (hF : Flat w ok te.size ys cells) {b : Nat} {cb : Array Value} {eb : TypeId} {fr : Nat × Nat} {cap : Nat}
    (hxv : a.eval x = .slice (some ⟨b, 0, none⟩) es0.length cap) (hown : (hd m).own = [b]) (g4 : w.heap[b]? = some (.cells cb eb fr)) (g5 : Free cb.size fr) (g6 : cb.size = cap * te.size) (g7 : es0.length ≤ cap) (g8 : ∀ x ∈ es0, x.length = te.size)
    (g9 : ∀ (i j : Nat) x t, es0[i]? = some x → x[j]? = some t → ∃ v, cb[i * te.size + j]? = some v ∧ Rep w ok v t)
    (r1 : es0.length + ys.length ≤ 2 ^ 46) (r2 : (es0.length + ys.length) * te.bytes ≤ 2 ^ 46) (h : K (.one (.row m n)) [(m, .row te.size (std.app es0 ys) n (n :: tags) false)]) : Goes P E tm ob a.tmps K o a w := by
  have hne : ob m ≠ none := by rw [hob]; simp
  have hla : (std.app es0 ys).length = es0.length + ys.length := by show (es0 ++ ys).length = _; simp
  have hF0 := rowR_flat g6 g7 g8 g9
  have hFa := hF0.append hF
  by_cases hroom2 : es0.length + ys.length ≤ cap
  · -- room
    have hmul : (es0.length + ys.length) * te.size ≤ cap * te.size := Nat.mul_le_mul_right _ hroom2
    rw [Nat.add_mul] at hmul
    have hcl := hF.len
    have hrun := run_append_room_src (P := P) w t u o.type e i hu hi b 0 es0.length cap (a.eval y) ys.length cells (by rw [hsz]; exact hS) hroom2
      (fun j hj => by rw [cell_of g4]; rw [hsz]; simp; omega)
      (fun j hj => by
        have := g5.at (0 + es0.length * i.size + j) (by rw [hsz]; omega)
        simp only [World.frozen?, g4, Bool.and_eq_false_iff, decide_eq_false_iff_not]
        omega)
    rw [hsz, Nat.zero_add] at hrun
    obtain ⟨c', m1, m2, m3, m4⟩ := setCells_block cells (o := es0.length * te.size) g4 (by omega)
    have hokb : ∀ k, ok k → (w.setCells b (es0.length * te.size) cells).heap[k]? = w.heap[k]? := fun k hk => m4.block k (R.okLt k hk) fun q => by
      have : k = b := by simpa using q
      subst this
      exact (R.own m k hne (by rw [hown]; simp)).1 hk
    refine goes_value (ok' := ok) (hd' := setF hd m (hdOf (.slice (some ⟨b, 0, none⟩) (es0.length + ys.length) cap) [b])) (run_appendOp ho hc hx ht (by rw [hxv]; exact hrun)) h ?_ ?_
    · rw [updO_one]
      refine R.turn hob (by rw [hown]; exact m4) (fun b2 hb2 => ⟨.inl (by rw [hown]; exact hb2), by
        simp at hb2; subst hb2
        exact Nat.lt_of_lt_of_le (R.own m b2 hne (by rw [hown]; simp)).2 m4.size⟩) (le_tag hob hnt)
        ((ObR.small hsm).2 ⟨by simp, hz, .inr ⟨b, c', eb, fr, cap, by rw [hla], rfl, by simp, m1, by rw [m2]; exact g5, by rw [m2]; exact g6, by rw [hla]; exact hroom2, by rw [hla]; omega, hFa.wid, ?_⟩⟩)
      intro i' j' x' t' hx' ht'
      obtain ⟨v, hv, hr⟩ := hFa.rep i' j' x' t' hx' ht'
      refine ⟨v, ?_, hr.mono (fun _ h => h) hokb⟩
      rw [m3]
      have hl0 : (cb.toList.take (es0.length * te.size)).length = es0.length * te.size := by simp; omega
      by_cases q : i' * te.size + j' < es0.length * te.size
      · rw [if_neg (by omega)]
        rw [List.getElem?_append_left (by omega), List.getElem?_take_of_lt q] at hv
        simpa using hv
      · rw [List.getElem?_append_right (by omega), hl0] at hv
        have hlt : i' * te.size + j' - es0.length * te.size < cells.length := by
          by_cases q2 : i' * te.size + j' - es0.length * te.size < cells.length
          · exact q2
          · rw [List.getElem?_eq_none (by omega)] at hv; cases hv
        rw [if_pos (by omega)]; exact hv
    · rw [updO_one]; exact .one _ _ (ref_row (by simp) rfl rfl)
  · -- none
    have hold : (Builtin.firstCells i.size es0.length (.slice (some ⟨b, 0, none⟩) es0.length cap)).run P w.drew = .ok (cb.toList.take (es0.length * te.size)).toArray w.drew :=
      run_firstCells_some w.drew i.size es0.length _ _ _ _ (by rw [hsz]; exact hF0.len) (fun j v hj => by
        rw [Addr.add_mid, Nat.zero_add]
        have : w.drew.cell? ⟨b, j, none⟩ = w.cell? ⟨b, j, none⟩ := rfl
        rw [this, cell_of g4]
        have hlt : j < es0.length * te.size := by
          by_cases q : j < es0.length * te.size
          · exact q
          · rw [List.getElem?_take_eq_none (by omega)] at hj; cases hj
        rw [List.getElem?_take_of_lt hlt] at hj
        simpa using hj)
    have hrun := run_append_grow_src (P := P) w t u o.type e i zv hu hi hzv (some ⟨b, 0, none⟩) es0.length cap _ hold (a.eval y) ys.length cells (by rw [hsz]; exact hS) (by omega) (by omega) (by
      refine growslice_fits (by omega) ?_
      rw [hby]; omega)
    have hcz : (Builtin.zeroCells zv.cells (grownCap w (es0.length + ys.length) cap e - (es0.length + ys.length))) = (Builtin.zeroCells zv.cells (grownCap w (es0.length + ys.length) cap e - (es0.length + ys.length))).toList.toArray := by simp
    rw [hcz] at hrun
    have hge := grownCap_ge w (es0.length + ys.length) cap e
    have hx1 := (drew_ext w).trans (alloc_ext w.drew (.cells ((cb.toList.take (es0.length * te.size) ++ cells).toArray ++ (Builtin.zeroCells zv.cells (grownCap w (es0.length + ys.length) cap e - (es0.length + ys.length))).toList.toArray) e (0, 0)))
    refine goes_value (ok' := ok) (hd' := setF hd m (hdOf (.slice (some ⟨w.heap.size, 0, none⟩) (es0.length + ys.length) (grownCap w (es0.length + ys.length) cap e)) [w.heap.size])) (run_appendOp ho hc hx ht (by rw [hxv]; exact hrun)) h ?_ ?_
    · rw [updO_one]
      refine R.turn hob (hx1.fr _) (fun b hb => by simp at hb; subst hb; simp) (le_tag hob hnt) ((ObR.small hsm).2 ⟨by simp, hz, .inr ⟨w.heap.size, _, e, (0, 0), grownCap w (es0.length + ys.length) cap e, by rw [hla], rfl, by simp, alloc_new w.drew _, .inl rfl, ?_, by rw [hla]; exact hge, by rw [hla]; omega, hFa.wid, flat_row (hFa.mono (fun _ h => h) fun b hb => hx1.block b (R.okLt b hb))⟩⟩)
      rw [Array.size_append, List.size_toArray, List.size_toArray, hFa.len, zlen, hzs, hzl, ← Nat.add_mul, List.length_append]; congr 1; omega
    · rw [updO_one]; exact .one _ _ (ref_row (by simp) rfl rfl)

theorem op_append {c : Call} {x y : Operand} {t u n : Nat} (ho : o.op = .call c) (hc : c.callee = .builtin .append) (hx : c.args.toList = [x, y]) (ht : c.argTypes.toList = [t, u]) (hT : TabOk P tab) (R : Rel E ok hd tm ob a.tmps w)
    (h7 : n ≠ 7) (h : (sAppend std tab t u n ob (ev tm x) (ev tm y)).holds std cl K) : Goes P E tm ob a.tmps K o a w := by
  unfold sAppend at h
  split at h
  rotate_left
  · exact h.elim
  rename_i e he
  have hu := sliceOf_und hT he
  split at h
  rotate_left
  · exact h.elim
  rename_i te ys hte hys
  obtain ⟨hb, h⟩ := bif_inv h
  rw [Bool.and_eq_true, Bool.and_eq_true] at hb
  have hk := kind_of hT hb.1.1
  have hz : 0 < te.size := le_of_leB hb.1.2
  have hsm := (hT e te hte).small
  obtain ⟨z, hzz⟩ := Option.isSome_iff_exists.1 hb.2
  obtain ⟨i, hi, hsz, hby, hzero⟩ := (hT e te hte).info
  obtain ⟨zv, hzv, hzs, hzl, _⟩ := hzero z hzz
  have hyv : ∃ yv, ev tm y = some yv := by
    cases hq : ev tm y with
    | none => rw [hq] at hys; cases hys
    | some yv => exact ⟨yv, rfl⟩
  obtain ⟨yv, hyv⟩ := hyv
  rw [hyv] at hys
  split at h
  · -- onto nil
    rename_i hxn
    obtain ⟨⟨hroom, hwid⟩, h⟩ := h
    obtain ⟨cells, hS, hF⟩ := src_rel (u := u) R hyv hys hwid hz hk
    obtain ⟨r1, r2⟩ := room_le hroom
    have hxv : a.eval x = .slice none 0 0 := (ev_rel R hxn).one_inv
    unfold SR.new at h
    split at h
    rotate_left
    · exact h.elim
    rename_i hn
    by_cases hl : ys.length = 0
    · have hy0 : ys = [] := List.eq_nil_of_length_eq_zero hl
      subst hy0
      refine goes_value (v := .slice none 0 0) (w' := w) (run_appendOp ho hc hx ht ?_) h (by rw [updO_one]; exact rel_vrow R hn (by simp) (by rw [wd_small hsm]; exact hz)) (by rw [updO_one]; exact .one _ _ (ref_row (by simp) rfl rfl))
      rw [hxv]
      rw [← hsz] at hS
      have hcell := hS.cells
      have hnl : cells = [] := by have := hS.newsLen; simpa using this
      rcases hk with ⟨e', hk⟩ | hk <;> simp [Builtin.append_, run_underlying hu, run_underlying hk, sizeOf, typeInfo, hi, hS.len, show (Builtin.firstCells i.size 0 (a.eval y)).run P w = .ok cells.toArray w from hcell]
    · have hold : (Builtin.firstCells i.size 0 (.slice none 0 0)).run P w.drew = .ok (([] : List Value)).toArray w.drew := run_firstCells_none w.drew i.size 0 0 0
      have hrun := run_append_grow_src (P := P) w t u o.type e i zv hu hi hzv none 0 0 [] hold (a.eval y) ys.length cells (by rw [hsz]; exact hS) (by omega) (by omega) (by
        refine growslice_fits (by omega) ?_
        rw [hby]; simp; omega)
      simp only [Nat.zero_add, List.nil_append] at hrun
      have hcz : (Builtin.zeroCells zv.cells (grownCap w ys.length 0 e - ys.length)) = (Builtin.zeroCells zv.cells (grownCap w ys.length 0 e - ys.length)).toList.toArray := by simp
      rw [hcz] at hrun
      have hge := grownCap_ge w ys.length 0 e
      have R' := rel_row (n := n) (cap := grownCap w ys.length 0 e) (cur := n) (tags := [n]) (rest := (Builtin.zeroCells zv.cells (grownCap w ys.length 0 e - ys.length)).toList) (e := e) (w0 := w.drew) R hn (drew_ext w) rfl (by simp) hz hsm hF
        (by rw [hF.len, zlen, hzs, hzl, ← Nat.add_mul]; congr 1; omega) hge (by omega)
      exact goes_value (run_appendOp ho hc hx ht (by rw [hxv]; exact hrun)) h (by rw [updO_one]; exact R') (by rw [updO_one]; exact .one _ _ (ref_row (by simp) rfl rfl))
  · -- onto an own row
    rename_i m g hxn
    split at h
    rotate_left
    · exact h.elim
    rename_i sz es cur tags hob
    obtain ⟨hb2, h⟩ := bif_inv h
    rw [Bool.and_eq_true, Bool.and_eq_true] at hb2
    have hg := eq_of_eqB hb2.1.1
    have hse := eq_of_eqB hb2.1.2
    have hnt : n ∉ tags ∧ n ≠ 7 := ⟨by have := hb2.2; simpa using this, h7⟩
    obtain ⟨⟨hroom, hwid⟩, h⟩ := h
    obtain ⟨cells, hS, hF⟩ := src_rel (u := u) R hyv hys hwid hz hk
    obtain ⟨r1, r2⟩ := room_le hroom
    have hla : (std.app es ys).length = es.length + ys.length := by show (es ++ ys).length = _; simp
    rw [hla] at r1 r2
    obtain ⟨sz', es', cur', tags', fz', p1, p2, _, p3⟩ := (ev_rel R hxn).one_inv
    rw [hob] at p1; injection p1 with p1; injection p1 with q1 q2 q3 q4 q5; subst q1; subst q2; subst q3; subst q4; subst q5
    have hxv := p3 hg
    obtain ⟨hcur, hz0, hR⟩ := (ObR.small (by rw [hse]; exact hsm)).1 (R.obs m _ hob)
    have hne : ob m ≠ none := by rw [hob]; simp
    subst hse
    rcases hR with ⟨hes, hv0, hown0⟩ | ⟨b, cb, eb, fr, cap, g1, g2, g3, g4, g5, g6, g7, g7', g8, g9⟩
    · -- no memory as yet
      subst hes
      rw [hv0] at hxv
      exact append_nil (es := []) ho hc hx ht hu hk hi hzv hsz hby hzs hzl hz hsm R hob hnt hS hF hxv (by simpa using r1) (by simpa using r2) h
    · -- a row in memory
      rw [g1] at hxv
      exact append_mem (es := es) ho hc hx ht hu hk hi hzv hsz hby hzs hzl hz hsm R hob hnt hS hF hxv (by simpa using g2) g4 g5 g6 g7 g8 g9 r1 r2 h
  · -- onto a part of an own row
    rename_i m g pi pj hxn
    split at h
    rotate_left
    · exact h.elim
    rename_i sz es cur tags hob
    obtain ⟨hb2, h'⟩ := bif_inv h
    clear h
    rw [Bool.and_eq_true, Bool.and_eq_true, Bool.and_eq_true] at hb2
    have hg := eq_of_eqB hb2.1.1.1
    have hse := eq_of_eqB hb2.1.1.2
    have hnt : n ∉ tags ∧ n ≠ 7 := ⟨by have := hb2.1.2; simpa using this, h7⟩
    have hpi : pi = 0 := of_decide_eq_true hb2.2
    subst hpi
    obtain ⟨⟨hroom, hwid⟩, h⟩ := h'
    obtain ⟨cells, hS, hF⟩ := src_rel (u := u) R hyv hys hwid hz hk
    obtain ⟨r1, r2⟩ := room_le hroom
    obtain ⟨sz', es', cur', tags', fz', p1, p2, _, p3⟩ := (ev_rel R hxn).one_inv
    rw [hob] at p1; injection p1 with p1; injection p1 with q1 q2 q3 q4 q5; subst q1; subst q2; subst q3; subst q4; subst q5
    obtain ⟨hcur, hz0, hR⟩ := (ObR.small (by rw [hse]; exact hsm)).1 (R.obs m _ hob)
    subst hse
    have hla : (std.app (std.sub es 0 pj) ys).length = (std.sub es 0 pj).length + ys.length := by show (_ ++ ys).length = _; simp
    rw [hla] at r1 r2
    rcases p3 hg with ⟨hv0, _, hj0, hxv⟩ | ⟨b, len, cap, q1, q2, q3, q4, hxv⟩
    · subst hj0
      have he : std.sub es 0 0 = [] := by show (es.take 0).drop 0 = []; simp
      rw [he] at h r1 r2
      exact append_nil (es := es) ho hc hx ht hu hk hi hzv hsz hby hzs hzl hz hsm R hob hnt hS hF hxv r1 r2 h
    · rcases hR with ⟨hes, hv0, hown0⟩ | ⟨b', cb, eb, fr, cap', g1, g2, g3, g4, g5, g6, g7, g7', g8, g9⟩
      · rw [hv0] at q1; injection q1 with q1; cases q1
      · rw [g1] at q1
        injection q1 with e1 e2 e3
        injection e1 with e1; injection e1 with e1
        subst e1; subst e2; subst e3
        have he : std.sub es 0 pj = es.take pj.toNat := by show (es.take pj.toNat).drop 0 = _; simp
        have hel : (es.take pj.toNat).length = pj.toNat := by simp; omega
        rw [he] at h r1 r2
        have hxv2 : a.eval x = .slice (some ⟨b', 0, none⟩) (es.take pj.toNat).length cap' := by
          rw [hxv, hel]
          by_cases q : cap' = 0
          · subst q; simp
          · rw [if_neg (by simpa using q)]; simp
        exact append_mem (es := es) ho hc hx ht hu hk hi hzv hsz hby hzs hzl hz hsm R hob hnt hS hF hxv2 (by simpa using g2) g4 g5 g6 (by omega) (fun x hx => g8 x (List.mem_of_mem_take hx)) (fun i j x t hx ht => by
          have hi : i < pj.toNat := by
            by_cases q : i < pj.toNat
            · exact q
            · rw [List.getElem?_eq_none (by omega)] at hx; cases hx
          rw [List.getElem?_take_of_lt hi] at hx
          exact g9 i j x t hx ht) r1 r2 h
  · exact h.elim

end Go.TL

/- TlN -/
namespace Go.TL
open Go

variable {P : Program} {E : Env P} {ok : Nat → Prop} {hd : HF} {tm : Nat → Option A} {ob : OF} {w : World} {a : Act} {K : A → Obs → Prop} {o : Oper} {tab : TF} {cl : Nat → List A → Obs → (A → Obs → Prop) → Prop} {tmps : Array Value}

/-- A new row in a world that has its block. -/
theorem rel_rowAt {n sz cap : Nat} {es : List (List T)} {cur : Nat} {tags : List Nat} {c : Array Value} {e : TypeId} {fr : Nat × Nat} {w' : World} (R : Rel E ok hd tm ob tmps w) (hn : ob n = none) (hx : Ext w w') (hlt : w.heap.size < w'.heap.size)
    (hb : w'.heap[w.heap.size]? = some (.cells c e fr)) (hfr : Free c.size fr) (hcur : cur ∈ tags) (hz : 0 < sz) (hsm : sz < 1000000) (hsz : c.size = cap * sz) (hcap : es.length ≤ cap) (hm : es.length ≤ 2 ^ 63 - 1) (hw : ∀ x ∈ es, x.length = sz)
    (hr : ∀ (i j : Nat) x t, es[i]? = some x → x[j]? = some t → ∃ v, c[i * sz + j]? = some v ∧ Rep w ok v t) :
    Rel E ok (setF hd n (hdOf (.slice (some ⟨w.heap.size, 0, none⟩) es.length cap) [w.heap.size])) tm (setF ob n (some (.row sz es cur tags false))) tmps w' := by
  refine R.newOb hn hx (fun b hb => by simp at hb; subst hb; omega) ?_
  refine (ObR.small hsm).2 ⟨hcur, hz, .inr ⟨w.heap.size, c, e, fr, cap, rfl, rfl, by simp, hb, hfr, hsz, hcap, hm, hw, fun i j x t p q => ?_⟩⟩
  obtain ⟨v, hv, hr⟩ := hr i j x t p q
  exact ⟨v, hv, hr.mono (fun _ h => h) fun b hb => hx.block b (R.okLt b hb)⟩

theorem zeroR.rep {v : Value} {x : V} {t : T} (h : zeroR v x) (ht : treesC [x] = some [t]) : Rep w ok v t := by
  have hv := h.vr w ok (fun _ => hdOf undef []) (fun _ => none)
  obtain ⟨_, h2⟩ := treesC_rel (cvs := [v]) ht rfl (fun i c y p q => by
    cases i with
    | zero => simp at p q; subst p; subst q; exact hv
    | succ i => simp at p)
  exact h2 0 v t rfl rfl

theorem op_makeSlice {t n : Nat} {x y : Operand} (ho : o.op = .makeSlice t x y) (hT : TabOk P tab) (R : Rel E ok hd tm ob a.tmps w)
    (h : (sMake std tab t n ob (ev tm x) (ev tm y)).holds std cl K) : Goes P E tm ob a.tmps K o a w := by
  unfold sMake at h
  split at h
  rotate_left
  · exact h.elim
  rename_i l c hxl hyc
  split at h
  rotate_left
  · exact h.elim
  rename_i ti hti
  split at h
  rotate_left
  · exact h.elim
  rename_i e hk
  split at h
  rotate_left
  · exact h.elim
  rename_i te hte
  split at h
  rotate_left
  · exact h.elim
  rename_i z hz
  split at h
  rotate_left
  · exact h.elim
  rename_i zt hzt
  obtain ⟨h1', h'⟩ := bif_inv h
  clear h
  have h1 : 0 < te.size := le_of_leB h1'
  obtain ⟨⟨hlc, hroom⟩, h⟩ := h'
  subst hlc
  obtain ⟨hl0, hl1⟩ : 0 ≤ l ∧ l * ((te.bytes : Int) + 1) ≤ 2 ^ 46 := hroom
  unfold SR.new at h
  split at h
  rotate_left
  · exact h.elim
  rename_i hn
  obtain ⟨d, hu, hkd, _⟩ := (hT t ti hti).kd
  rw [hk] at hkd
  have hkd : d = .slice e := hkd
  subst hkd
  obtain ⟨i, hi, hsz, hby, hzero⟩ := (hT e te hte).info
  obtain ⟨zv, hzv, hzs, hzl, hzr⟩ := hzero z hz
  obtain ⟨ex, _⟩ := ev_int R hxl
  obtain ⟨ey, _⟩ := ev_int R hyc
  have hlb : l * (te.bytes : Int) ≤ 2 ^ 46 := by rw [Int.mul_add] at hl1; omega
  have hl2 : l ≤ 2 ^ 46 := by
    have : 0 ≤ l * (te.bytes : Int) := Int.mul_nonneg hl0 (by omega)
    rw [Int.mul_add] at hl1; omega
  have hrun := run_make (P := P) w t e i zv hu hi hzv .i64 .i64 l l hl0 (Int.le_refl _) (by rw [hby, Int.mul_comm]; omega) (by omega)
  have hzt' : zt.length = te.size := by
    have := treesC_rel (w := w) (ok := ok) (hd := hd) (ob := ob) (cvs := zv.cells.toList) hzt (by simpa using hzs) (fun i c x p q => (hzr i c x (by simpa using p) q).vr _ _ _ _)
    rw [← this.1]; simp; omega
  have hRep : ∀ (j : Nat) t, zt[j]? = some t → ∃ v, zv.cells[j]? = some v ∧ Rep w ok v t := by
    intro j t ht
    obtain ⟨h2, h3⟩ := treesC_rel (w := w) (ok := ok) (hd := hd) (ob := ob) (cvs := zv.cells.toList) hzt (by simpa using hzs) (fun i c x p q => (hzr i c x (by simpa using p) q).vr _ _ _ _)
    have hj : j < zt.length := by by_cases q : j < zt.length; exact q; rw [List.getElem?_eq_none (by omega)] at ht; cases ht
    have : zv.cells.toList[j]? = some (zv.cells.toList[j]'(by omega)) := List.getElem?_eq_getElem (by omega)
    exact ⟨_, by simp, h3 j _ t this ht⟩
  have R' := rel_rowAt (n := n) (sz := te.size) (cap := l.toNat) (es := std.rep l zt) (cur := n) (tags := [n]) R hn (alloc_ext w _) (by simp) (alloc_new w (.cells (madeCells zv.cells (l.toNat * i.size)) e (0, 0))) (.inl rfl) (by simp) h1 (hT _ _ hte).small
    (by rw [size_madeCells, hsz]) (by simp [std]) (by simp [std]; omega) (by intro x hx; simp [std] at hx; rw [hx.2]; exact hzt') (by
      intro i' j x t hx ht
      have hi' : i' < l.toNat := by
        by_cases q : i' < l.toNat
        · exact q
        · rw [List.getElem?_eq_none (by simp [std]; omega)] at hx; cases hx
      have hx' : x = zt := by simp [std, hi'] at hx; exact hx.symm
      subst hx'
      have hj : j < te.size := by by_cases q : j < te.size; exact q; rw [List.getElem?_eq_none (by omega)] at ht; cases ht
      obtain ⟨v, hv, hr⟩ := hRep j t ht
      refine ⟨v, ?_, hr⟩
      have hlt : (i' + 1) * te.size ≤ l.toNat * te.size := Nat.mul_le_mul_right _ hi'
      rw [Nat.succ_mul] at hlt
      have e2 : (i' * te.size + j) % te.size = j := by rw [Nat.mul_comm, Nat.mul_add_mod, Nat.mod_eq_of_lt hj]
      simp only [madeCells, hsz, Array.getElem?_map]
      rw [Array.getElem?_range, if_pos (by omega)]
      simp only [Option.map_some, hzs, hzl, e2]
      rw [getElem!_def, hv])
  have hlen : (std.rep l zt).length = l.toNat := by simp [std]
  rw [hlen] at R'
  refine goes_value (v := .slice (some ⟨w.heap.size, 0, none⟩) l.toNat l.toNat) ?_ h (by rw [updO_one]; exact R') (by rw [updO_one]; exact .one _ _ (ref_row (by simp) rfl rfl))
  simp [execOp, ho, ex, ey, hrun]

theorem zerosV_get {k : IntKind} : ∀ {z : List V}, zerosV k z = true → ∀ (j : Nat) x, z[j]? = some x → x = .t (.int k 0)
  | [], _, j, x, h => by simp at h
  | v :: r, hb, j, x, h => by
    unfold zerosV at hb
    split at hb
    · rename_i heq; cases heq
    · rename_i k' n r' heq
      injection heq with e1 e2
      subst e1; subst e2
      obtain ⟨h1, h2⟩ : (decide (k' = k) && decide (n = 0)) = true ∧ zerosV k r = true := by
        cases hq : (decide (k' = k) && decide (n = 0)) with
        | true => rw [hq] at hb; exact ⟨rfl, hb⟩
        | false => rw [hq] at hb; cases hb
      rw [Bool.and_eq_true, decide_eq_true_eq, decide_eq_true_eq] at h1
      cases j with
      | zero => simp at h; rw [← h, h1.1, h1.2]
      | succ j => exact zerosV_get h2 j x (by simpa using h)
    · cases hb
theorem op_allocArr {t n : Nat} (ho : o.op = .alloc t) (hT : TabOk P tab) (R : Rel E ok hd tm ob a.tmps w)
    (h : (sAllocArr std tab t n ob).holds std cl K) : Goes P E tm ob a.tmps K o a w := by
  unfold sAllocArr at h
  split at h
  rotate_left
  · exact h.elim
  rename_i ti hti
  split at h
  rotate_left
  · exact h.elim
  rename_i m e z hk hz
  split at h
  rotate_left
  · exact h.elim
  rename_i te hte
  split at h
  rotate_left
  · exact h.elim
  rename_i k hkk
  obtain ⟨hb, h'⟩ := bif_inv h
  clear h
  simp only [Bool.and_eq_true] at hb
  have hm1 := le_of_leB hb.2.1
  have hm2 := le_of_leB hb.2.2.1
  have hzl := eq_of_eqB hb.2.2.2.1
  have hzz := hb.2.2.2.2
  unfold SR.new at h'
  split at h'
  rotate_left
  · exact h'.elim
  rename_i hn
  obtain ⟨zv, h1, h2, h3, h4⟩ := tz (w := w) hT hti hz
  have hlen : (std.rep (Int.ofNat m) [T.int k 0]).length = m := by simp [std]
  have R' := rel_rowAt (n := n) (sz := 1) (cap := m) (es := std.rep (Int.ofNat m) [.int k 0]) (cur := n) (tags := [n]) R hn (alloc_ext w _) (by simp) (alloc_new w (.cells zv.cells t (0, 0))) (.inl rfl) (by simp) (by decide) (by decide)
    (by rw [h2, hzl, Nat.mul_one]) (by rw [hlen]; exact Nat.le_refl _) (by rw [hlen]; omega) (by intro x hx; simp [std] at hx; rw [hx.2]; rfl) (by
      intro i j x t hx ht
      have hi : i < m := by
        by_cases q : i < m
        · exact q
        · rw [List.getElem?_eq_none (by rw [hlen]; omega)] at hx; cases hx
      have hx' : x = [.int k 0] := by simp [std, hi] at hx; exact hx.symm
      subst hx'
      have hj : j = 0 := by
        cases j with
        | zero => rfl
        | succ j => simp at ht
      subst hj
      have ht : T.int k 0 = t := by simpa using ht
      subst ht
      have hv : zv.cells[i]? = some (zv.cells[i]'(by omega)) := Array.getElem?_eq_getElem (by omega)
      have hzi : z[i]? = some (z[i]'(by omega)) := List.getElem?_eq_getElem (by omega)
      have hzr := h4 i _ _ hv hzi
      rw [zerosV_get hzz i _ hzi] at hzr
      refine ⟨_, by rw [Nat.mul_one, Nat.add_zero]; exact hv, ?_⟩
      exact (zeroR.vr hzr w ok hd ob))
  rw [hlen] at R'
  refine goes_value (ok' := ok) (w' := w.alloc (.cells zv.cells t (0, 0))) (v := .pointer (some ⟨w.heap.size, 0, none⟩)) ?_ h' (by rw [updO_one]; exact R') ?_
  · simp [execOp, ho, Instr.alloc, h1, newVar, newRow]
  · rw [updO_one]
    exact .one _ _ ⟨1, _, n, [n], false, setF_same _ _ _, by simp, ⟨_, rfl⟩, fun _ => ⟨Int.le_refl _, w.heap.size, m, m, by rw [setF_same], by simp⟩⟩

theorem op_min {c : Call} {x y : Operand} {m n : Int} (ho : o.op = .call c) (hc : c.callee = .builtin .min) (hx : c.args.toList = [x, y]) (R : Rel E ok hd tm ob a.tmps w)
    (h1 : ev tm x = some (.one (.t (.int .i64 m)))) (h2 : ev tm y = some (.one (.t (.int .i64 n)))) (h : IntKind.i64.has m ∧ IntKind.i64.has n → K (.one (.t (.int .i64 (std.imin m n)))) []) : Goes P E tm ob a.tmps K o a w := by
  obtain ⟨e1, b1⟩ := ev_int R h1
  obtain ⟨e2, b2⟩ := ev_int R h2
  have hx' : c.args = #[x, y] := by rw [← hx]
  refine goes_t R (v := .int .i64 (std.imin m n)) ?_ (h ⟨b1, b2⟩) (.int _ _ (by simp only [std]; split <;> assumption))
  simp only [execOp, ho, resolve, hc, hx', invoke, builtin, Sem.run_bind, Sem.run_pure, Result.andThen_ok]
  simp [Builtin.min_, e1, e2, Builtin.min2, std]
theorem op_max {c : Call} {x y : Operand} {m n : Int} (ho : o.op = .call c) (hc : c.callee = .builtin .max) (hx : c.args.toList = [x, y]) (R : Rel E ok hd tm ob a.tmps w)
    (h1 : ev tm x = some (.one (.t (.int .i64 m)))) (h2 : ev tm y = some (.one (.t (.int .i64 n)))) (h : IntKind.i64.has m ∧ IntKind.i64.has n → K (.one (.t (.int .i64 (std.imax m n)))) []) : Goes P E tm ob a.tmps K o a w := by
  obtain ⟨e1, b1⟩ := ev_int R h1
  obtain ⟨e2, b2⟩ := ev_int R h2
  have hx' : c.args = #[x, y] := by rw [← hx]
  refine goes_t R (v := .int .i64 (std.imax m n)) ?_ (h ⟨b1, b2⟩) (.int _ _ (by simp only [std]; split <;> assumption))
  simp only [execOp, ho, resolve, hc, hx', invoke, builtin, Sem.run_bind, Sem.run_pure, Result.andThen_ok]
  simp [Builtin.max_, e1, e2, Builtin.max2, std]

end Go.TL

/- TlO -/
namespace Go.TL
open Go

variable {P : Program} {E : Env P} {ok : Nat → Prop} {hd : HF} {tm : Nat → Option A} {ob : OF} {w : World} {a : Act} {K : A → Obs → Prop} {o : Oper} {tab : TF} {cl : Nat → List A → Obs → (A → Obs → Prop) → Prop} {tmps : Array Value}

/-- A bound that is given, or the one that stands for it. -/
theorem bnd_rel (R : Rel E ok hd tm ob a.tmps w) {x : Option Operand} {d i : Int} (h : bnd (ev tm) x d = some i) : (x = none ∧ i = d) ∨ ∃ y k, x = some y ∧ a.eval y = .int k i := by
  unfold bnd at h
  split at h
  · injection h with h; exact .inl ⟨rfl, h.symm⟩
  · rename_i y
    split at h
    · rename_i k i' hy
      injection h with h; subst h
      exact .inr ⟨y, k, rfl, (ev_int R hy).1⟩
    · cases h

theorem run_bound {k : IntKind} {i : Int} {m : Nat} {c : BoundsCode} (h0 : 0 ≤ i) (h1 : i ≤ m) : (Instr.sliceBound (.int k i) m c).run P w = .ok i.toNat w := by
  simp [Instr.sliceBound, asIntOf, h0, h1]

/-- The bounds of a slice's piece. -/
theorem run_bounds (R : Rel E ok hd tm ob a.tmps w) {lo hi mx : Option Operand} {l h : Int} {len cap : Nat} (hl : bnd (ev tm) lo 0 = some l) (hh : bnd (ev tm) hi len = some h) (h0 : 0 ≤ l) (h1 : l ≤ h) (h2 : h ≤ len) (hc : len ≤ cap)
    (hm : mx = none ∨ ∃ x m, mx = some x ∧ (∃ y, hi = some y) ∧ bnd (ev tm) (some x) 0 = some m ∧ h ≤ m ∧ m ≤ len) :
    ∃ m : Nat, (Instr.sliceBounds true len cap (lo.map a.eval) (hi.map a.eval) (mx.map a.eval)).run P w = .ok (l.toNat, h.toNat, m) w ∧ h.toNat ≤ m ∧ m ≤ cap ∧ (mx = none → m = cap) := by
  have lowRun : ∀ (c : BoundsCode), ∀ x, lo = some x → (Instr.sliceBound (a.eval x) h.toNat c).run P w = .ok l.toNat w := by
    intro c x e
    rcases bnd_rel R hl with ⟨e2, _⟩ | ⟨y, k, e2, ev⟩
    · rw [e] at e2; cases e2
    · rw [e] at e2; injection e2 with e2; subst e2; rw [ev]; exact run_bound h0 (by omega)
  have lowNone : lo = none → l = 0 := by
    intro e
    rcases bnd_rel R hl with ⟨_, e3⟩ | ⟨y, k, e2, ev⟩
    · exact e3
    · rw [e] at e2; cases e2
  have hiNone : hi = none → h = len := by
    intro e
    rcases bnd_rel R hh with ⟨_, e3⟩ | ⟨y, k, e2, ev⟩
    · exact e3
    · rw [e] at e2; cases e2
  have hiRun : ∀ (c : BoundsCode) (m : Nat), h ≤ m → ∀ x, hi = some x → (Instr.sliceBound (a.eval x) m c).run P w = .ok h.toNat w := by
    intro c m hm x e
    rcases bnd_rel R hh with ⟨e2, _⟩ | ⟨y, k, e2, ev⟩
    · rw [e] at e2; cases e2
    · rw [e] at e2; injection e2 with e2; subst e2; rw [ev]; exact run_bound (by omega) hm
  rcases hm with rfl | ⟨x, m, rfl, ⟨y, rfl⟩, hmx, hm1, hm2⟩
  · refine ⟨cap, ?_, by omega, Nat.le_refl _, fun _ => rfl⟩
    cases hi with
    | none =>
      have := hiNone rfl
      subst this
      cases lo with
      | none => have := lowNone rfl; subst this; simp [Instr.sliceBounds]
      | some x => have := lowRun .sliceB x rfl; simp at this; simp [Instr.sliceBounds, this]
    | some y =>
      have h3 := hiRun .sliceAcap cap (by omega) y rfl
      cases lo with
      | none => have := lowNone rfl; subst this; simp [Instr.sliceBounds, h3]
      | some x => have := lowRun .sliceB x rfl; simp [Instr.sliceBounds, h3, this]
  · have hmr : (Instr.sliceBound (a.eval x) cap .slice3Acap).run P w = .ok m.toNat w := by
      rcases bnd_rel R hmx with ⟨e2, _⟩ | ⟨y', k, e2, ev⟩
      · cases e2
      · injection e2 with e2; subst e2; rw [ev]; exact run_bound (by omega) (by omega)
    have h3 := hiRun .slice3B m.toNat (by omega) y rfl
    refine ⟨m.toNat, ?_, by omega, by omega, fun h => by cases h⟩
    cases lo with
    | none => have := lowNone rfl; subst this; simp [Instr.sliceBounds, hmr, h3]
    | some x' => have := lowRun .slice3C x' rfl; simp [Instr.sliceBounds, hmr, h3, this]

theorem rep_sub {b off sz : Nat} {es : List (List T)} {vs : Nat → Nat → Value} {l h m : Nat} (hm : es.length ≤ 2 ^ 63 - 1) (hsz : ∀ e ∈ es, e.length = sz) (hok : ok b)
    (hc : ∀ i j, i < es.length → j < sz → w.cell? ⟨b, off + i * sz + j, none⟩ = some (vs i j)) (hr : ∀ (i j : Nat) (e : List T) (t : T), es[i]? = some e → e[j]? = some t → Rep w ok (vs i j) t)
    (h1 : l ≤ h) (h2 : h ≤ es.length) (hm2 : h ≤ m) : Rep w ok (.slice (some (if m = l then ⟨b, off, none⟩ else ⟨b, off + l * sz, none⟩)) (h - l) (m - l)) (.sl ((es.take h).drop l)) := by
  have hlen : ((es.take h).drop l).length = h - l := by simp; omega
  by_cases e : m = l
  · have hl0 : h = l := by omega
    subst hl0
    have he : (es.take h).drop h = [] := by apply List.drop_eq_nil_of_le; simp; omega
    rw [if_pos e, he]
    have := Rep.sl (w := w) (ok := ok) b off (m - h) sz [] (fun _ _ => undef) (by simp) (by simp) (by simp) hok (by simp) (by simp)
    simpa using this
  · rw [if_neg e]
    have hget : ∀ (i : Nat) (x : List T), ((es.take h).drop l)[i]? = some x → es[l + i]? = some x := by
      intro i x hx
      rw [List.getElem?_drop] at hx
      by_cases q : l + i < h
      · rwa [List.getElem?_take_of_lt q] at hx
      · rw [List.getElem?_take_eq_none (by omega)] at hx; cases hx
    have := Rep.sl (w := w) (ok := ok) b (off + l * sz) (m - l) sz ((es.take h).drop l) (fun i j => vs (l + i) j) (by omega) (by omega) (fun x hx => by
      obtain ⟨i, hi⟩ := List.getElem?_of_mem hx
      exact hsz x (List.mem_of_getElem? (hget i x hi))) hok (fun i j hi hj => by
      have := hc (l + i) j (by omega) hj
      rwa [show off + (l + i) * sz + j = off + l * sz + i * sz + j by rw [Nat.add_mul]; omega] at this) (fun i j x t hx ht => hr (l + i) j x t (hget i x hx) ht)
    rwa [hlen] at this

theorem op_sliceT {t : Nat} {x : Operand} {lo hi mx : Option Operand} {es : List (List T)} {wr : Obs} {ok' : Nat → Prop} {hd' : HF} (ho : o.op = .slice t x lo hi mx) (hT : TabOk P tab) (R0 : Rel E ok hd tm ob a.tmps w)
    (R : Rel E ok' hd' tm (updO ob wr) a.tmps w) (hx : Rep w ok' (a.eval x) (.sl es)) (h : (sSliceT std tab t (ev tm) lo hi mx wr es).holds std cl K) : Goes P E tm ob a.tmps K o a w := by
  unfold sSliceT at h
  split at h
  rotate_left
  · exact h.elim
  rename_i e he
  have hu := sliceOf_und hT he
  split at h
  rotate_left
  · exact h.elim
  rename_i te hte
  have hse := cellsOf_size (w := w) hT hte
  revert h
  intro hyp
  have main : ∀ (l h : Int), bnd (ev tm) lo 0 = some l → bnd (ev tm) hi es.length = some h → std.insub l h es → std.wid te.size es →
      (mx = none ∨ ∃ x m, mx = some x ∧ (∃ y, hi = some y) ∧ bnd (ev tm) (some x) 0 = some m ∧ h ≤ m ∧ m ≤ es.length) → K (.one (.t (.sl (std.sub es l h)))) wr → Goes P E tm ob a.tmps K o a w := by
    intro l h hl hh hin hw hm hk
    obtain ⟨h0, h1, h2⟩ : 0 ≤ l ∧ l ≤ h ∧ h ≤ es.length := hin
    generalize hp : a.eval x = p at hx
    cases hx with
    | snil =>
      simp at h2
      have hl0 : l = 0 := by omega
      have hh0 : h = 0 := by omega
      subst hl0; subst hh0
      obtain ⟨m, hrun, hm1, hm2, hm3⟩ := run_bounds (P := P) (w := w) R0 hl hh (by omega) (by omega) (by simp) (Nat.le_refl _) hm
      have hm0 : m = 0 := by simpa using hm2
      subst hm0
      refine goes_value (ok' := ok') (hd' := hd') (v := .slice none 0 0) (w' := w) ?_ hk R (.one _ _ .snil)
      simp [execOp, ho, hp, Instr.sliceAt, Instr.slice, run_underlying hu, show (Instr.sliceBounds true 0 0 (lo.map a.eval) (hi.map a.eval) (mx.map a.eval)).run P w = _ from hrun, hse]
    | szero z zn =>
      simp at h2
      have hl0 : l = 0 := by omega
      have hh0 : h = 0 := by omega
      subst hl0; subst hh0
      obtain ⟨m, hrun, hm1, hm2, hm3⟩ := run_bounds (P := P) (w := w) (cap := zn) R0 hl hh (by omega) (by omega) (by simp) (by simp) hm
      refine goes_value (ok' := ok') (hd' := hd') (v := .slice (some (if m = 0 then z else z.add (0 * te.size))) 0 m) (w' := w) ?_ hk R (.one _ _ (.szero _ _))
      simp only [execOp, ho, hp, Instr.sliceAt, Instr.slice, Sem.run_bind, run_underlying hu, Result.andThen_ok]
      rw [show (Instr.sliceBounds true 0 zn (lo.map a.eval) (hi.map a.eval) (mx.map a.eval)).run P w = _ from hrun]
      simp only [Result.andThen_ok, Sem.run_bind, hse]
      by_cases q : m = 0
      · simp [q]
      · simp [q]
    | sl b off cap sz _ vs hmm hcap hsz hok hc hr =>
      obtain ⟨m, hrun, hm1, hm2, hm3⟩ := run_bounds (P := P) (w := w) (cap := cap) R0 hl hh h0 h1 h2 hcap hm
      have hsz' : ∀ e ∈ es, e.length = te.size := hw
      have hc' : ∀ i j, i < es.length → j < te.size → w.cell? ⟨b, off + i * te.size + j, none⟩ = some (vs i j) := by
        intro i j hi hj
        have he := List.getElem?_eq_getElem hi
        have e1 : te.size = sz := by rw [← hsz' _ (List.mem_of_getElem? he), hsz _ (List.mem_of_getElem? he)]
        rw [e1] at hj ⊢
        exact hc i j hi hj
      have hrep := rep_sub (w := w) (ok := ok') (l := l.toNat) (h := h.toNat) (m := m) hmm hsz' hok hc' hr (by omega) (by omega) hm1
      refine goes_value (ok' := ok') (hd' := hd') (v := .slice (some (if m = l.toNat then ⟨b, off, none⟩ else ⟨b, off + l.toNat * te.size, none⟩)) (h.toNat - l.toNat) (m - l.toNat)) (w' := w) ?_ hk R (.one _ _ hrep)
      simp only [execOp, ho, hp, Instr.sliceAt, Instr.slice, Sem.run_bind, run_underlying hu, Result.andThen_ok, hrun, hse]
      by_cases q : m = l.toNat
      · simp [q]
      · simp [q, Addr.add_mid]
  split at hyp
  · rename_i l hh' hl hh
    exact main l hh' hl hh hyp.1.1 hyp.1.2 (.inl rfl) hyp.2
  · rename_i l hh' m hl hh
    split at hyp
    · rename_i y k hm
      exact main l hh' hl hh hyp.1.1 hyp.1.2.2 (.inr ⟨m, k, rfl, ⟨y, rfl⟩, hm, hyp.1.2.1.2.1, hyp.1.2.1.2.2⟩) hyp.2
    · exact hyp.elim
  · exact hyp.elim

theorem op_slicePart {t : Nat} {x : Operand} {lo hi mx : Option Operand} (ho : o.op = .slice t x lo hi mx) (hT : TabOk P tab) (R : Rel E ok hd tm ob a.tmps w)
    (h : (sPart std tab t ob (ev tm) lo hi mx (ev tm x)).holds std cl K) : Goes P E tm ob a.tmps K o a w := by
  unfold sPart at h
  split at h
  rotate_left
  · exact h.elim
  rename_i n g hx
  split at h
  rotate_left
  · exact h.elim
  rename_i e sz es cur tags fz he hob
  split at h
  rotate_left
  · exact h.elim
  rename_i te l hh hte hl hhi
  obtain ⟨hb, h'⟩ := bif_inv h
  clear h
  rw [Bool.and_eq_true] at hb
  have hg := eq_of_eqB hb.1
  have hs := eq_of_eqB hb.2
  obtain ⟨⟨h0, h1, h2⟩, hk⟩ := h'
  have h0 : 0 ≤ l := h0
  have h1 : l ≤ hh := h1
  have h2 : hh ≤ (es.length : Int) := h2
  have hhi : bnd (ev tm) hi (es.length : Int) = some hh := hhi
  have hu := sliceOf_und hT he
  have hse := cellsOf_size (w := w) hT hte
  obtain ⟨sz', es', cur', tags', fz', p1, p2, p2', p3⟩ := (ev_rel R hx).one_inv
  rw [hob] at p1; injection p1 with p1; injection p1 with q1 q2 q3 q4 q5; subst q1; subst q2; subst q3; subst q4; subst q5
  have hxv := p3 hg
  obtain ⟨_, _, hR⟩ := (ObR.small (by rw [← hs]; exact (hT _ _ hte).small)).1 (R.obs n _ hob)
  rcases hR with ⟨hes, hv0, _⟩ | ⟨b', c, e', fr, cap', g1, g2, g3, g4, g5, g6, g7, g7', g8, g9⟩
  · subst hes
    simp at h2
    have hl0 : l = 0 := by omega
    have hh0 : hh = 0 := by omega
    subst hl0; subst hh0
    obtain ⟨m, hrun, hm1, hm2, hm3⟩ := run_bounds (P := P) (w := w) (cap := 0) (mx := none) R hl hhi (by omega) (by omega) (by simp) (Nat.le_refl _) (.inl rfl)
    have hm0 : m = 0 := by simpa using hm2
    subst hm0
    rw [hv0] at hxv
    refine goes_value (v := .slice none 0 0) (w' := w) ?_ hk R (.one _ _ ⟨sz, [], cur, tags, fz, hob, p2, ⟨_, _, _, rfl⟩, fun _ => .inl ⟨hv0, rfl, rfl, rfl⟩⟩)
    simp [execOp, ho, hxv, Instr.sliceAt, Instr.slice, run_underlying hu, show (Instr.sliceBounds true 0 0 (lo.map a.eval) (hi.map a.eval) none).run P w = _ from hrun, hse]
  · rw [g1] at hxv
    obtain ⟨m, hrun, hm1, hm2, hm3⟩ := run_bounds (P := P) (w := w) (cap := cap') (mx := none) R hl hhi h0 h1 h2 g7 (.inl rfl)
    have hm : m = cap' := hm3 rfl
    refine goes_value (v := .slice (some (if m = l.toNat then ⟨b', 0, none⟩ else ⟨b', 0 + l.toNat * te.size, none⟩)) (hh.toNat - l.toNat) (m - l.toNat)) (w' := w) ?_ hk R (.one _ _ ⟨sz, es, cur, tags, fz, hob, p2, ⟨_, _, _, rfl⟩, fun _ => .inr ⟨b', _, cap', g1, h0, h1, h2, ?_⟩⟩)
    · simp only [execOp, ho, hxv, Instr.sliceAt, Instr.slice, Sem.run_bind, run_underlying hu, Result.andThen_ok, Option.map_none]
      rw [show (Instr.sliceBounds true es.length cap' (lo.map a.eval) (hi.map a.eval) none).run P w = _ from hrun]
      simp only [Result.andThen_ok, Sem.run_bind, hse]
      by_cases q : m = l.toNat
      · simp [q]
      · simp [q, Addr.add_mid]
    · rw [hm, hs, Nat.zero_add]

theorem op_slice {t : Nat} {x : Operand} {lo hi mx : Option Operand} (ho : o.op = .slice t x lo hi mx) (hT : TabOk P tab) (R : Rel E ok hd tm ob a.tmps w)
    (h : (sSlice std tab t ob (ev tm) lo hi mx (ev tm x)).holds std cl K) : Goes P E tm ob a.tmps K o a w := by
  unfold sSlice at h
  split at h
  · -- a text
    rename_i s hx
    split at h
    · rename_i l hh hl hhi
      obtain ⟨hs, h'⟩ := bif_inv h
      clear h
      have hu := isStr_und hT hs
      obtain ⟨⟨h0, h1, h2⟩, h⟩ := h'
      obtain ⟨u, hv, rfl, hb⟩ := ev_str R hx
      have h0 : 0 ≤ l := h0
      have h1 : l ≤ hh := h1
      have h2 : hh ≤ (u.data.toList.length : Int) := h2
      have h2' : hh ≤ (u.size : Int) := by simpa using h2
      have hrun : (Instr.sliceBounds false u.size u.size (lo.map a.eval) (hi.map a.eval) none).run P w = .ok (l.toNat, hh.toNat, u.size) w := by
        rcases bnd_rel R hl with ⟨e2, e3⟩ | ⟨y, k, e2, ev⟩ <;> rcases bnd_rel R hhi with ⟨f2, f3⟩ | ⟨z, k', f2, ev'⟩ <;> subst e2 <;> subst f2
        · subst e3; subst f3
          have : (std.slen u.data.toList).toNat = u.size := by simp [std]
          simp [Instr.sliceBounds, this]
        · subst e3
          simp [Instr.sliceBounds, ev', run_bound (P := P) (w := w) (k := k') (c := .sliceAlen) (show 0 ≤ hh by omega) h2']
        · subst f3
          have : std.slen u.data.toList = (u.size : Int) := by simp [std]
          rw [this] at h1 ⊢
          simp [Instr.sliceBounds, ev, run_bound (P := P) (w := w) (k := k) (c := .sliceB) h0 h1]
        · simp [Instr.sliceBounds, ev, ev', run_bound (P := P) (w := w) (k := k') (c := .sliceAlen) (show 0 ≤ hh by omega) h2', run_bound (P := P) (w := w) (k := k) (m := hh.toNat) (c := .sliceB) h0 (by omega)]
      refine goes_t R (v := .string (u.extract l.toNat hh.toNat)) ?_ h ?_
      · simp only [execOp, ho, hv, Instr.sliceAt, Instr.slice, Sem.run_bind, run_underlying hu, Result.andThen_ok, Option.map_none, Option.isSome_none, Bool.false_eq_true, if_false]
        rw [hrun]
        rfl
      · have := Rep.str (w := w) (ok := ok) (u.extract l.toNat hh.toNat) (by simp; omega)
        have e : (u.extract l.toNat hh.toNat).data.toList = std.ssub u.data.toList l hh := by
          show _ = (u.data.toList.take hh.toNat).drop l.toNat
          simp [ByteArray.data_extract, List.extract_eq_take_drop, List.drop_take]
        rwa [e] at this
    · exact h.elim
  · rename_i v hne hx
    split at h
    · rename_i es hes
      have hv := (ev_rel R hx).one_inv
      have R' := R.freeze v.refs
      rw [← updO_frz] at R'
      have hrep : Rep w (frzK ok hd ob v.refs) (a.eval x) (.sl es) := by
        have hv' := hv.mono (ok' := frzK ok hd ob v.refs) (w' := w) (fun _ h => .inl h) (fun _ _ => rfl) (le_frz (hd := hd) (ob := ob) v.refs)
        refine VR.rep (R.toORel.freeze v.refs) hv' ?_ (allFr_frzO ob _)
        rw [← tree_frz]; exact hes
      exact op_sliceT ho hT R R' hrep h
    · exact h.elim
  · exact h.elim

end Go.TL

/- TlQ -/
namespace Go.TL
open Go

variable {P : Program} {E : Env P} {ok : Nat → Prop} {hd : HF} {tm : Nat → Option A} {ob : OF} {w : World} {a : Act} {K : A → Obs → Prop} {o : Oper} {tab : TF} {cl : Nat → List A → Obs → (A → Obs → Prop) → Prop} {tmps : Array Value}

theorem bytesWorld_ext (w : World) (e : TypeId) (s : ByteArray) : Ext w (Lib.bytesWorld w e s) where
  os := rfl
  tape := rfl
  output := rfl
  size := by rw [Lib.bytesWorld_size]; omega
  block b hb := Lib.bytesWorld_at_old w e s b hb

theorem grown_le (w : World) (n : Nat) (e : TypeId) : n ≤ grownCap w n 0 e := by
  have := grownCap_ge w n 0 e
  exact this

/-- Bytes that stood in the text, marked as such. -/
theorem op_mark {src n g sz e : Nat} {x : Operand} {es : List (List T)} {cur : Nat} {tags : List Nat} (ho : o.op = .convert src src x) (hu : P.underlying src = some (.slice e)) (he : P.underlying e = some (.int .u8)) (R : Rel E ok hd tm ob a.tmps w)
    (hx : ev tm x = some (.one (.row n g))) (hob : ob n = some (.row sz es cur tags false)) (hg : g = cur) (hsm : sz < 1000000) (hin : std.inb 0 es) (hk : K (.one (.row n g)) [(n, .row sz es cur tags false)]) : Goes P E tm ob a.tmps K o a w := by
  obtain ⟨h0, h1⟩ := index_inv hin
  have hxv := ev_rel R hx
  obtain ⟨sz', es', cur', tags', fz', p1, p2, _, p3⟩ := hxv.one_inv
  rw [hob] at p1; injection p1 with p1; injection p1 with q1 q2 q3 q4 q5; subst q1; subst q2; subst q3; subst q4; subst q5
  replace p3 := p3 hg
  obtain ⟨hcur, hz, hR⟩ := (ObR.small hsm).1 (R.obs n _ hob)
  rcases hR with ⟨he, _⟩ | ⟨b, c, el, fr, cap, g1, g2, g3, g4, g5, g6, g7, g7', g8, g9⟩
  · subst he; simp at h1
  have hown : (hd n).own = [b] := by simpa using g2
  rw [g1] at p3
  have hblt : b < w.heap.size := (R.own n b (by rw [hob]; simp) (by rw [hown]; simp)).2
  have hm : (w.freeze ⟨b, c.size, none⟩ 1).heap[b]? = some (.cells c el (if fr.1 == fr.2 then (c.size, c.size + 1) else (min fr.1 c.size, max fr.2 (c.size + 1)))) := by
    obtain ⟨f1, f2⟩ := fr
    show (w.heap.modify b _)[b]? = _
    rw [Array.getElem?_modify, if_pos rfl, g4]; rfl
  have hfr : Fr (hd n).own w (w.freeze ⟨b, c.size, none⟩ 1) := by
    rw [hown]
    refine ⟨by simp [World.freeze], by simp [World.freeze], by simp [World.freeze], by simp [World.freeze], fun k hk hb => ?_⟩
    have hne : k ≠ b := by simpa using hb
    simp [World.freeze, Array.getElem?_modify, Ne.symm hne]
  have hshape : w.shape? b = some (el, c.size) := by simp [World.shape?, g4]
  refine goes_value (w' := w.freeze ⟨b, c.size, none⟩ 1) (v := a.eval x) (ok' := ok) (hd' := setF hd n (hd n)) ?_ hk ?_ ?_
  · simp [execOp, ho, p3, convert, run_underlying hu, run_underlying he, markStringish, hshape]
  · rw [updO_one]
    refine R.turn hob hfr (fun b2 hb2 => ⟨.inl hb2, Nat.lt_of_lt_of_le (R.own n b2 (by rw [hob]; simp) hb2).2 hfr.size⟩) (le_row hob rfl rfl) ?_
    refine (ObR.small hsm).2 ⟨hcur, hz, .inr ⟨b, c, el, _, cap, g1, g2, g3, hm, ?_, g6, g7, g7', g8, ?_⟩⟩
    · by_cases q : fr.1 = fr.2
      · rw [if_pos (by simpa using q)]; exact .inr (Nat.le_refl _)
      · rw [if_neg (by simpa using q)]
        rcases g5 with g5 | g5
        · exact absurd g5 q
        · exact .inr (by simp only; omega)
    · intro i j x t h1 h2
      obtain ⟨v, r1, r2⟩ := g9 i j x t h1 h2
      exact ⟨v, r1, r2.mono (fun _ h => h) fun k hk => hfr.block k (R.okLt k hk) fun q => (R.own n k (by rw [hob]; simp) q).1 hk⟩
  · rw [updO_one]
    exact .one _ _ (ref_row p2 (by rw [p3, g1]) p3)

theorem op_convert {src dst n : Nat} {x : Operand} (ho : o.op = .convert src dst x) (hT : TabOk P tab) (R : Rel E ok hd tm ob a.tmps w)
    (h : (sConv std tab n dst src ob (ev tm x)).holds std cl K) : Goes P E tm ob a.tmps K o a w := by
  unfold sConv at h
  split at h
  rotate_left
  · exact h.elim
  rename_i ti ti' v hs hd' hx
  obtain ⟨d, hu, hkd, _⟩ := (hT src ti hs).kd
  obtain ⟨d', hu', hkd', _⟩ := (hT dst ti' hd').kd
  have hv := (ev_rel R hx).one_inv
  split at h
  · -- numbers
    rename_i k0 k e1 e2
    rw [e1] at hkd; rw [e2] at hkd'
    have hkd : d = .int k0 := hkd
    have hkd' : d' = .int k := hkd'
    subst hkd; subst hkd'
    split at h
    · rename_i k1 m
      obtain ⟨hm, hb⟩ := hv.int_inv
      refine goes_t R (v := .int k (k.wrap m)) ?_ (h hb) (.int _ _ (wrap_has _ _))
      simp [execOp, ho, hm, convert, run_underlying hu, run_underlying hu', Conv.intToInt]
    · exact h.elim
  · rename_i e1 e2
    rw [e1] at hkd; rw [e2] at hkd'
    have hkd : d = .string := hkd
    have hkd' : d' = .string := hkd'
    subst hkd; subst hkd'
    split at h
    · rename_i s
      obtain ⟨u, hm, hs, hb⟩ := hv.str_inv
      subst hs
      refine goes_t R (v := .string u) ?_ h (.str _ hb)
      simp [execOp, ho, hm, convert, run_underlying hu, run_underlying hu']
    · exact h.elim
  · -- a text's bytes
    rename_i e e1 e2
    rw [e1] at hkd; rw [e2] at hkd'
    have hkd : d = .string := hkd
    have hkd' : d' = .slice e := hkd'
    subst hkd; subst hkd'
    split at h
    rotate_left
    · exact h.elim
    rename_i s te hte
    split at h
    rotate_left
    · exact h.elim
    rename_i e3
    obtain ⟨d2, hu2, hkd2, _⟩ := (hT e te hte).kd
    rw [e3] at hkd2
    have hkd2 : d2 = .int .u8 := hkd2
    subst hkd2
    obtain ⟨hbig, h⟩ := h
    unfold SR.new at h
    split at h
    rotate_left
    · exact h.elim
    rename_i hn
    obtain ⟨u, hm, hs', hb⟩ := hv.str_inv
    subst hs'
    have hbig' : u.size ≤ 2 ^ 46 := by have : u.data.toList.length ≤ 2 ^ 46 := hbig; simpa using this
    have hg := grown_le w u.size e
    have hcs : (Lib.bytesCells w e u).size = grownCap w u.size 0 e := by
      simp [Lib.bytesCells]; omega
    have hes : (std.ofStr u.data.toList) = encB u.data.toList := rfl
    rw [hes] at h
    have hlen : (encB u.data.toList).length = u.size := by simp [encB]
    have R' := rel_rowAt (n := n) (sz := 1) (cap := grownCap w u.size 0 e) (es := encB u.data.toList) (cur := n) (tags := [n]) R hn (bytesWorld_ext w e u) (by rw [Lib.bytesWorld_size]; omega)
      (Lib.bytesWorld_at_new w e u) (.inr (Nat.le_refl _)) (by simp) (by omega) (by omega) (by rw [hcs]; simp) (by rw [hlen]; exact hg) (by rw [hlen]; omega) encB_wid (by
        intro i j x t hx ht
        obtain ⟨v, h1, h2⟩ := (flat_bytes (w := w) (ok := ok) u).rep i j x t hx ht
        have hi : i < u.size := by
          by_cases q : i < (encB u.data.toList).length
          · omega
          · rw [List.getElem?_eq_none (by omega)] at hx; cases hx
        have hj : j = 0 := by
          have := encB_wid x (List.mem_of_getElem? hx)
          by_cases q : j < x.length
          · omega
          · rw [List.getElem?_eq_none (by omega)] at ht; cases ht
        subst hj
        refine ⟨v, ?_, h2⟩
        rw [← h1]
        simp only [Lib.bytesCells, byteCells]
        rw [Array.getElem?_append_left (by simpa using hi)]
        simp)
    rw [hlen] at R'
    refine goes_value (v := .slice (some ⟨w.heap.size, 0, none⟩) u.size (grownCap w u.size 0 e)) ?_ h (by rw [updO_one]; exact R') (by rw [updO_one]; exact .one _ _ (ref_row (by simp) rfl rfl))
    simp [execOp, ho, hm, Lib.run_convert_string_bytes w src dst e u hu hu' hu2]
  · -- bytes that stood in the text
    rename_i e e' e1 e2
    rw [e1] at hkd; rw [e2] at hkd'
    have hkd : d = .slice e := hkd
    subst hkd
    unfold sMark at h
    split at h
    rotate_left
    · exact h.elim
    rename_i n g
    split at h
    rotate_left
    · exact h.elim
    rename_i te hte
    split at h
    rotate_left
    · exact h.elim
    rename_i e3
    split at h
    rotate_left
    · exact h.elim
    rename_i sz es cur tags hob
    obtain ⟨hb, h'⟩ := bif_inv h
    rw [Bool.and_eq_true] at hb
    obtain ⟨hb1, hb2⟩ := hb
    have hds := eq_of_eqB hb1
    subst hds
    obtain ⟨d2, hu2, hkd2, _⟩ := (hT e te hte).kd
    rw [e3] at hkd2
    have hkd2 : d2 = .int .u8 := hkd2
    subst hkd2
    rw [Bool.and_eq_true] at hb2
    exact op_mark ho hu hu2 R hx hob (eq_of_eqB hb2.1) (by rw [eq_of_eqB hb2.2]; decide) h'.1 h'.2
  · -- bytes as a text
    rename_i e e1 e2
    rw [e1] at hkd; rw [e2] at hkd'
    have hkd : d = .slice e := hkd
    have hkd' : d' = .string := hkd'
    subst hkd; subst hkd'
    split at h
    rotate_left
    · exact h.elim
    rename_i es te hes hte
    split at h
    rotate_left
    · exact h.elim
    rename_i e3
    obtain ⟨d2, hu2, hkd2, _⟩ := (hT e te hte).kd
    rw [e3] at hkd2
    have hkd2 : d2 = .int .u8 := hkd2
    subst hkd2
    obtain ⟨l, rfl, h⟩ := h
    have hrep : Rep w (frzK ok hd ob v.refs) (a.eval x) (.sl (encB l)) := by
      have hv' := hv.mono (ok' := frzK ok hd ob v.refs) (w' := w) (fun _ h => .inl h) (fun _ _ => rfl) (le_frz (hd := hd) (ob := ob) v.refs)
      refine VR.rep (R.toORel.freeze v.refs) hv' ?_ (allFr_frzO ob _)
      rw [← tree_frz]; exact hes
    have hsz := hrep.slice_inv
    obtain ⟨_, _, _, hsz⟩ := hsz
    rw [encB_len] at hsz
    have key : (convert src dst (a.eval x)).run P w = .ok (.string ⟨l.toArray⟩) w := by
      generalize a.eval x = p at hrep
      generalize hq : encB l = es at hrep
      cases hrep with
      | snil =>
        have : l = [] := by cases l with | nil => rfl | cons => simp [encB] at hq
        subst this
        rw [run_convert_bytes_nil w src e hu hu2 0 0 dst hu']
        rfl
      | szero z zn =>
        have : l = [] := by cases l with | nil => rfl | cons => simp [encB] at hq
        subst this
        rw [run_convert_bytes_string w src dst e _ 0 zn hu hu2 hu', run_bytesToString w z 0 zn [] (by simp [loadCells, loadCellsFrom])]
        rfl
      | sl b off cap sz _ vs hm hcap hsz' hok hc hr =>
        subst hq
        have hs1 : l ≠ [] → sz = 1 := by
          intro hne
          cases l with
          | nil => exact absurd rfl hne
          | cons b0 l => exact (hsz' [.int .u8 b0.toNat] (by simp [encB])).symm
        have hx := run_convert_bytes_arg (P := P) w src e hu hu2 b off (encB l).length cap (l.map fun b => (b.toNat : Int)) (by simp [encB]) (fun i hi => by
          have hi' : i < l.length := by simpa [encB] using hi
          have h1 : sz = 1 := hs1 (by intro e; subst e; simp at hi')
          have hget : (encB l)[i]? = some [.int .u8 (l[i].toNat)] := by simp [encB, List.getElem?_eq_getElem hi']
          have h3 := hc i 0 (by simpa [encB] using hi') (by omega)
          have h4 := hr i 0 _ _ hget rfl
          rw [h1, Nat.mul_one, Nat.add_zero] at h3
          rw [h3]
          generalize vs i 0 = q at h4
          cases h4
          simp [List.getD, hi']) dst hu'
        rw [hx]
        congr 2
        simp [strOfNums, List.map_map]
        conv => rhs; rw [← List.map_id l]
        apply List.map_congr_left
        intro b _
        simp
    refine goes_t R (v := .string ⟨l.toArray⟩) ?_ h ?_
    · simp [execOp, ho, key]
    · have := Rep.str (w := w) (ok := ok) ⟨l.toArray⟩ (by show l.toArray.size ≤ _; simp; omega)
      simpa using this
  · exact h.elim

end Go.TL

/- TlR -/
namespace Go.TL
open Go

variable {P : Program} {E : Env P} {ok : Nat → Prop} {hd : HF} {tm : Nat → Option A} {ob : OF} {w : World} {a : Act} {K : A → Obs → Prop} {o : Oper} {tab : TF} {cl : Nat → List A → Obs → (A → Obs → Prop) → Prop} {tmps : Array Value}

theorem bif_and {c d : Bool} (h : (c && d) = true) : c = true ∧ d = true := by simpa using h

/-- Where the fields lie. -/
theorem places_ok (P : Program) : ∀ (l : List Field), (∀ f ∈ l, P.cellsOf f.type ≠ 0) → ∃ pl, l.mapM (fun f => (P.info? f.type).map fun i => (f.offset, i.size)) = some pl ∧
    ∀ (i : Nat) off u, (l.map (fun f => (f.offset, f.type)))[i]? = some (off, u) → ∃ inf, P.info? u = some inf ∧ pl[i]? = some (off, inf.size)
  | [], _ => ⟨[], rfl, by simp⟩
  | f :: l, h => by
    obtain ⟨pl, h1, h2⟩ := places_ok P l (fun g hg => h g (by simp [hg]))
    have hf := h f (by simp)
    cases hi : P.info? f.type with
    | none => simp [Program.cellsOf, hi] at hf
    | some inf =>
      refine ⟨(f.offset, inf.size) :: pl, ?_, ?_⟩
      · simp [List.mapM_cons, hi, h1]
      · intro i off u hx
        cases i with
        | zero => simp at hx; obtain ⟨rfl, rfl⟩ := hx; exact ⟨inf, hi, rfl⟩
        | succ i => simp only [List.map_cons, List.getElem?_cons_succ] at hx ⊢; exact h2 i off u hx

theorem fill_rel (hT : TabOk P tab) (R : Rel E ok hd tm ob a.tmps w) {fs : List (Nat × Nat)} {pf : Nat → Option (Nat × Nat)} (hpl : ∀ (i : Nat) off u, fs[i]? = some (off, u) → ∃ inf, P.info? u = some inf ∧ pf i = some (off, inf.size)) :
    ∀ (ps : List (Nat × Operand)) (cs cs' : List V) (cells : Array Value), fillS tab fs cs (ps.map fun p => (p.1, ev tm p.2)) = some cs' → cells.size = cs.length → (∀ (j : Nat) v x, cells[j]? = some v → cs[j]? = some x → VR w ok hd ob v x) →
      ∃ cells', Instr.fill pf cells (ps.map fun p => (p.1, a.eval p.2)) = some cells' ∧ cells'.size = cs'.length ∧ ∀ (j : Nat) v x, cells'[j]? = some v → cs'[j]? = some x → VR w ok hd ob v x := by
  intro ps
  induction ps with
  | nil => intro cs cs' cells h hl hr; simp [fillS] at h; subst h; exact ⟨cells, rfl, hl, hr⟩
  | cons p ps ih =>
    intro cs cs' cells h hl hr
    obtain ⟨i, x⟩ := p
    simp only [List.map_cons] at h ⊢
    cases hx : ev tm x with
    | none => rw [hx] at h; simp [fillS] at h
    | some av =>
      rw [hx] at h
      simp only [fillS] at h
      split at h
      rotate_left
      · cases h
      rename_i off u vs hf hvs
      split at h
      rotate_left
      · cases h
      rename_i ti hti
      obtain ⟨hc, h⟩ := (show (eqB vs.length ti.size && leB (off + vs.length) cs.length) = true ∧ _ from by
        cases hb : (eqB vs.length ti.size && leB (off + vs.length) cs.length) with
        | true => rw [hb] at h; exact ⟨rfl, h⟩
        | false => rw [hb] at h; cases h)
      obtain ⟨hc1, hc2⟩ := bif_and hc
      have hc1 := eq_of_eqB hc1
      have hc2 := le_of_leB hc2
      obtain ⟨inf, hinf, hplace⟩ := hpl i off u hf
      obtain ⟨inf', hinf', hsz, _⟩ := (hT u ti hti).info
      rw [hinf] at hinf'; injection hinf' with hinf'; subst hinf'
      obtain ⟨hs, hvr⟩ := (ev_rel R hx).cells hvs
      obtain ⟨g1, g2⟩ := Great.foldl_set off (a.eval x).cells.toList 0 cells
      obtain ⟨cells', r1, r2, r3⟩ := ih (setAt cs off vs) cs' ((a.eval x).cells.toList.zipIdx.foldl (fun cs (x : Value × Nat) => cs.setIfInBounds (off + x.2) x.1) cells) h (by rw [g1, hl, length_setAt]) (fun j v y hv hy => by
        rw [g2 j] at hv
        rw [getElem?_setAt _ _ _ _ (by omega)] at hy
        have hs' : (a.eval x).cells.toList.length = vs.length := by simpa using hs
        rw [hs', Nat.add_zero] at hv
        by_cases q : off ≤ j ∧ j < off + vs.length
        · rw [if_pos q] at hy
          rw [if_pos ⟨q.1, q.2, by omega⟩] at hv
          exact hvr _ v y (by simpa using hv) hy
        · rw [if_neg q] at hy
          rw [if_neg (by omega)] at hv
          exact hr j v y hv hy)
      refine ⟨cells', ?_, r2, r3⟩
      unfold Instr.fill
      simp only [hplace]
      rw [if_neg (by simp; omega)]
      rw [← r1]
      congr 1
      rw [← Array.foldl_toList, Array.toList_zipIdx]

theorem arrP_get : ∀ (m e j : Nat), (arrP m e)[j]? = if j < m then some (j, e) else none := by
  intro m e j
  unfold arrP
  rw [List.getElem?_map]
  by_cases h : j < m
  · rw [List.getElem?_range h, if_pos h]; rfl
  · rw [List.getElem?_eq_none (by simp; omega), if_neg h]; rfl
theorem setAt_mid {v y : V} {rest : List V} : ∀ (pre : List V), setAt (pre ++ y :: rest) pre.length [v] = pre ++ v :: rest
  | [] => by simp [setAt]
  | a :: pre => by
    simp only [List.cons_append, List.length_cons, setAt]
    rw [setAt_mid pre]
theorem fillS_row {m e : Nat} {te : TI} (hte : tab e = some te) (hs : te.size = 1) : ∀ (ps : List (Nat × Option A)) (k : Nat) (pre rest cs : List V), cellsL 1 k ps = some cs → pre.length = k → cs.length ≤ rest.length → k + cs.length ≤ m →
    fillS tab (arrP m e) (pre ++ rest) ps = some (pre ++ cs ++ rest.drop cs.length)
  | [], k, pre, rest, cs, h, _, _, _ => by simp [cellsL] at h; subst h; simp [fillS]
  | (i, none) :: r, k, pre, rest, cs, h, _, _, _ => by simp [cellsL] at h
  | (i, some a) :: r, k, pre, rest, cs, h, hp, hl, hm => by
    simp only [cellsL] at h
    split at h
    rotate_left
    · cases h
    rename_i vs ls hvs hls
    cases hb : (eqB i k && eqB vs.length 1) with
    | false => rw [hb] at h; cases h
    | true =>
      rw [hb] at h
      injection h with h
      obtain ⟨h1, h2⟩ := bif_and hb
      have h1 := eq_of_eqB h1
      have h2 := eq_of_eqB h2
      subst h1
      match vs, h2 with
      | [v], _ =>
        subst h
        match rest, hl with
        | y :: rest, hl =>
          have hl2 : ls.length ≤ rest.length := by simp at hl; omega
          have hm2 : i + 1 + ls.length ≤ m := by simp at hm; omega
          have ih := fillS_row hte hs r (i + 1) (pre ++ [v]) rest ls hls (by simp [hp]) hl2 hm2
          have hc : (eqB [v].length te.size && leB (i + [v].length) (pre ++ y :: rest).length) = true := by
            rw [Bool.and_eq_true, eqB_iff, leB_iff]
            simp [hs]; omega
          simp only [fillS]
          rw [arrP_get, if_pos (show i < m by omega), hvs]
          simp only [hte, hc, cond_true]
          have hsm := setAt_mid (v := v) (y := y) (rest := rest) pre
          rw [hp] at hsm
          rw [hsm, show pre ++ v :: rest = (pre ++ [v]) ++ rest by simp, ih]
          simp
theorem op_build {t : Nat} {parts : Array (Nat × Operand)} (ho : o.op = .build t parts) (hT : TabOk P tab) (R : Rel E ok hd tm ob a.tmps w)
    (h : (sBuild tab t (parts.toList.map fun p => (p.1, ev tm p.2))).holds std cl K) : Goes P E tm ob a.tmps K o a w := by
  unfold sBuild at h
  split at h
  rotate_left
  · exact h.elim
  rename_i ti hti
  split at h
  rotate_left
  · rename_i m e z hk hz
    split at h
    rotate_left
    · exact h.elim
    rename_i te hte
    split at h
    rotate_left
    · exact h.elim
    rename_i cs hcl
    obtain ⟨hb, h'⟩ := bif_inv h
    clear h
    simp only [Bool.and_eq_true] at hb
    have hs1 := eq_of_eqB hb.1
    have hcz := eq_of_eqB hb.2.1
    have hcm := eq_of_eqB hb.2.2
    have hcs := fillS_row (m := m) (e := e) hte hs1 _ 0 [] z cs hcl rfl (by omega) (by omega)
    rw [List.nil_append, List.nil_append, List.drop_eq_nil_of_le (by omega), List.append_nil] at hcs
    obtain ⟨d, hu, hkd, _⟩ := (hT t ti hti).kd
    rw [hk] at hkd
    have hkd : d = .array m e := hkd
    subst hkd
    obtain ⟨i, hi, hsz, hby, hzero⟩ := (hT t ti hti).info
    obtain ⟨zv, hzv, hzs, hzl, hzr⟩ := hzero z hz
    obtain ⟨ie, hie, hies, _⟩ := (hT e te hte).info
    obtain ⟨cells', r1, r2, r3⟩ := fill_rel hT R (fs := arrP m e) (pf := fun i => some (i * ie.size, ie.size)) (fun j off u hj => by
      rw [arrP_get] at hj
      split at hj
      · injection hj with hj; injection hj with e1 e2; subst e1; subst e2
        exact ⟨ie, hie, by simp [hies, hs1]⟩
      · cases hj) parts.toList z cs zv.cells hcs hzs (fun j v x hv hx => (hzr j v x hv hx).vr w ok hd ob)
    have hb : P.built t (parts.map fun (i, x) => (i, a.eval x)).toList = some cells' := by
      unfold Program.built
      simp only [hi, hu, hzv, hie]
      rw [← r1]
      simp
    refine goes_value (v := .agg cells') (w' := w) ?_ h' R.toNil ?_
    · simp [execOp, ho, run_build w t _ _ hb]
    · have := AR.agg (w := w) (ok := ok) (hd := hd) (ob := ob) cells'.toList cs (by simpa using r2) (fun i c x p q => r3 i c x (by simpa using p) q)
      rw [updO_nil]; simpa using this
  · exact h.elim
  rename_i fs z hk hz
  split at h
  rotate_left
  · exact h.elim
  rename_i cs hcs
  obtain ⟨d, hu, hkd, _⟩ := (hT t ti hti).kd
  rw [hk] at hkd
  obtain ⟨flds, rfl, hfs, hne⟩ := hkd
  obtain ⟨i, hi, hsz, hby, hzero⟩ := (hT t ti hti).info
  obtain ⟨zv, hzv, hzs, hzl, hzr⟩ := hzero z hz
  obtain ⟨pl, hpl1, hpl2⟩ := places_ok P flds.toList hne
  rw [hfs] at hpl2
  obtain ⟨cells', r1, r2, r3⟩ := fill_rel hT R (fun i off u hi => by obtain ⟨inf, p1, p2⟩ := hpl2 i off u hi; exact ⟨inf, p1, by simpa using p2⟩) (pf := (pl.toArray[·]?)) parts.toList z cs zv.cells hcs hzs (fun j v x hv hx => (hzr j v x hv hx).vr w ok hd ob)
  have hb : P.built t (parts.map fun (i, x) => (i, a.eval x)).toList = some cells' := by
    unfold Program.built
    simp only [hi, hu, hzv, hpl1]
    rw [← r1]
    simp
  refine goes_value (v := .agg cells') (w' := w) ?_ h R.toNil ?_
  · simp [execOp, ho, run_build w t _ _ hb]
  · have := AR.agg (w := w) (ok := ok) (hd := hd) (ob := ob) cells'.toList cs (by simpa using r2) (fun i c x p q => r3 i c x (by simpa using p) q)
    rw [updO_nil]; simpa using this

theorem trees_frz (ns : List Nat) : ∀ (vs : List V), trees (frzO ob ns) vs = trees ob vs
  | [] => rfl
  | v :: vs => by simp only [trees, trees_frz ns vs, ← tree_frz]
theorem vrefs_cells {av : A} {vs : List V} (h : av.cells = some vs) : vrefs vs = av.refs := by
  cases av with
  | one v =>
    have hne : v ≠ .any := by intro e; subst e; cases h
    have : some [v] = some vs := by cases v <;> first | exact h | exact absurd rfl hne
    injection this with this; subst this
    simp [vrefs, A.refs]
  | agg l => simp only [A.cells] at h; injection h with h; subst h; rfl
  | tup l => cases h

theorem elems_rel (R : Rel E ok hd tm ob a.tmps w) {sz : Nat} (ns : List Nat) : ∀ (ps : List (Nat × Operand)) (k : Nat) (es : List (List T)), elemsOf ob sz k (ps.map fun p => (p.1, ev tm p.2)) = some es →
    (∀ n, n ∈ refsOf (ps.map fun p => (p.1, ev tm p.2)) → n ∈ ns) →
    ps.map (fun p => (p.1, a.eval p.2)) = ((ps.map fun p => a.eval p.2).zipIdx k).map (fun x => (x.2, x.1)) ∧ es.length = ps.length ∧ (∀ e ∈ es, e.length = sz) ∧ (∀ v ∈ ps.map (fun p => a.eval p.2), v.cells.size = sz) ∧
      ∀ (i j : Nat) e t, es[i]? = some e → e[j]? = some t → ∃ v c, (ps.map fun p => a.eval p.2)[i]? = some v ∧ v.cells[j]? = some c ∧ Rep w (frzK ok hd ob ns) c t := by
  intro ps
  induction ps with
  | nil => intro k es h _; simp [elemsOf] at h; subst h; simp
  | cons p ps ih =>
    intro k es h hns
    obtain ⟨i, x⟩ := p
    simp only [List.map_cons] at h hns ⊢
    cases hx : ev tm x with
    | none => rw [hx] at h; simp [elemsOf] at h
    | some av =>
      rw [hx] at h hns
      simp only [elemsOf] at h
      split at h
      rotate_left
      · cases h
      rename_i vs hvs
      split at h
      rotate_left
      · cases h
      rename_i l ls hl hls
      obtain ⟨hc, h⟩ := (show (eqB i k && eqB l.length sz) = true ∧ some (l :: ls) = some es from by
        cases hb : (eqB i k && eqB l.length sz) with
        | true => rw [hb] at h; exact ⟨rfl, h⟩
        | false => rw [hb] at h; cases h)
      injection h with h; subst h
      obtain ⟨hc1, hc2⟩ := bif_and hc
      have hc1 := eq_of_eqB hc1
      have hc2 := eq_of_eqB hc2
      subst hc1
      obtain ⟨k1, k2, k3, k4, k5⟩ := ih (i + 1) ls hls (fun n hn => hns n (by simp [refsOf, hn]))
      obtain ⟨hs, hvr⟩ := (ev_rel R hx).cells hvs
      have hfr : AllFr (frzO ob ns) (vrefs vs) := by
        intro n hn o ho
        exact allFr_frzO ob ns n (hns n (by rw [vrefs_cells hvs] at hn; simp [refsOf, hn])) o ho
      obtain ⟨t1, t2⟩ := trees_rel (R.toORel.freeze ns) (cvs := (a.eval x).cells.toList) (vs := vs) (ts := l) (by rw [trees_frz]; exact hl) (by simpa using hs)
        (fun j c y p q => (hvr j c y (by simpa using p) q).mono (fun _ h => .inl h) (fun _ _ => rfl) (le_frz ns)) hfr
      have hsz : (a.eval x).cells.size = sz := by rw [← hc2, ← t1]; simp
      refine ⟨?_, by simp [k2], ?_, ?_, ?_⟩
      · simp only [List.zipIdx_cons, List.map_cons, k1]
      · intro e he
        rcases List.mem_cons.1 he with rfl | he
        · exact hc2
        · exact k3 e he
      · intro v hv
        rcases List.mem_cons.1 hv with rfl | hv
        · exact hsz
        · exact k4 v hv
      · intro i' j e t he ht
        cases i' with
        | zero =>
          simp at he; subst he
          have hj : j < l.length := by by_cases q : j < l.length; exact q; rw [List.getElem?_eq_none (by omega)] at ht; cases ht
          have hj2 : j < (a.eval x).cells.toList.length := by omega
          exact ⟨_, (a.eval x).cells.toList[j], rfl, by simp, t2 j _ t (List.getElem?_eq_getElem hj2) ht⟩
        | succ i' =>
          obtain ⟨v, c, q1, q2, q3⟩ := k5 i' j e t (by simpa using he) ht
          exact ⟨v, c, by simpa using q1, q2, q3⟩

theorem cells_relL (R : Rel E ok hd tm ob a.tmps w) {sz : Nat} : ∀ (ps : List (Nat × Operand)) (k : Nat) (cs : List V), cellsL sz k (ps.map fun p => (p.1, ev tm p.2)) = some cs →
    ps.map (fun p => (p.1, a.eval p.2)) = ((ps.map fun p => a.eval p.2).zipIdx k).map (fun x => (x.2, x.1)) ∧ cs.length = ps.length * sz ∧ (∀ v ∈ ps.map (fun p => a.eval p.2), v.cells.size = sz) ∧
      ∀ (j : Nat) x, cs[j]? = some x → ∃ v c, 0 < sz ∧ (ps.map fun p => a.eval p.2)[j / sz]? = some v ∧ v.cells[j % sz]? = some c ∧ VR w ok hd ob c x := by
  intro ps
  induction ps with
  | nil => intro k cs h; simp [cellsL] at h; subst h; simp
  | cons p ps ih =>
    intro k cs h
    obtain ⟨i, x⟩ := p
    simp only [List.map_cons] at h ⊢
    cases hx : ev tm x with
    | none => rw [hx] at h; simp [cellsL] at h
    | some av =>
      rw [hx] at h
      simp only [cellsL] at h
      split at h
      rotate_left
      · cases h
      rename_i vs ls hvs hls
      obtain ⟨hc, h⟩ := (show (eqB i k && eqB vs.length sz) = true ∧ some (vs ++ ls) = some cs from by
        cases hb : (eqB i k && eqB vs.length sz) with
        | true => rw [hb] at h; exact ⟨rfl, h⟩
        | false => rw [hb] at h; cases h)
      injection h with h; subst h
      obtain ⟨hc1, hc2⟩ := bif_and hc
      have hc1 := eq_of_eqB hc1
      have hc2 := eq_of_eqB hc2
      subst hc1
      obtain ⟨k1, k2, k3, k4⟩ := ih (i + 1) ls hls
      obtain ⟨hs, hvr⟩ := (ev_rel R hx).cells hvs
      refine ⟨by simp only [List.zipIdx_cons, List.map_cons, k1], by simp [k2, hc2, Nat.add_mul]; omega, ?_, ?_⟩
      · intro v hv
        rcases List.mem_cons.1 hv with rfl | hv
        · omega
        · exact k3 v hv
      · intro j y hj
        by_cases q : j < vs.length
        · rw [List.getElem?_append_left q] at hj
          have hz : 0 < sz := by omega
          have e1 : j / sz = 0 := Nat.div_eq_of_lt (by omega)
          have e2 : j % sz = j := Nat.mod_eq_of_lt (by omega)
          have hlt : j < (a.eval x).cells.size := by omega
          exact ⟨a.eval x, (a.eval x).cells[j], hz, by rw [e1]; rfl, by rw [e2]; simp [hlt], hvr j _ y (by simp [hlt]) hj⟩
        · rw [List.getElem?_append_right (by omega)] at hj
          obtain ⟨v, c, hz, q1, q2, q3⟩ := k4 (j - vs.length) y hj
          have e : j = (j - vs.length) + sz := by omega
          refine ⟨v, c, hz, ?_, ?_, q3⟩
          · rw [e, Nat.add_div_right _ hz]; exact q1
          · rw [e, Nat.add_mod_right]; exact q2

theorem op_buildBox {t n len e : Nat} {te : TI} {parts : Array (Nat × Operand)} (ho : o.op = .buildSlice t len parts) (hT : TabOk P tab) (hu : P.underlying t = some (.slice e)) (hte : tab e = some te) (R : Rel E ok hd tm ob a.tmps w)
    (h : (sBuildBox tab te n len ob (parts.toList.map fun p => (p.1, ev tm p.2))).holds std cl K) : Goes P E tm ob a.tmps K o a w := by
  unfold sBuildBox at h
  split at h
  rotate_left
  · exact h.elim
  rename_i cs hcs
  obtain ⟨hc, h⟩ := bif_inv h
  obtain ⟨hc, hc6⟩ := bif_and hc
  obtain ⟨hc, hc5⟩ := bif_and hc
  obtain ⟨hc, hc4⟩ := bif_and hc
  obtain ⟨hc, hc3⟩ := bif_and hc
  obtain ⟨hc1, hc2⟩ := bif_and hc
  have hc1 := eq_of_eqB hc1
  have hc2 : 1 ≤ te.size := le_of_leB hc2
  have hc3 := le_of_leB hc3
  have hc5 : 1 ≤ len := le_of_leB hc5
  obtain ⟨i, hi, hsz, hby, hzero⟩ := (hT e te hte).info
  obtain ⟨z, hz⟩ := Option.isSome_iff_exists.1 hc4
  obtain ⟨zv, hzv, hzs, hzl, hzr⟩ := hzero z hz
  obtain ⟨k1, k2, k4, k5⟩ := cells_relL R parts.toList 0 cs hcs
  have hlen : len = parts.toList.length := by
    have : len * te.size = parts.toList.length * te.size := by rw [← hc1, k2]
    exact Nat.eq_of_mul_eq_mul_right (by omega) this
  have hle : len ≤ len * te.size := Nat.le_mul_of_pos_right _ hc2
  obtain ⟨cells, r1, r2, r3⟩ : ∃ cells : Array Value, (Instr.buildSlice t len (parts.map fun (i, x) => (i, a.eval x))).run P w = .ok (.slice (some ⟨w.heap.size, 0, none⟩) len len) (w.alloc (.cells cells e)) ∧ cells.size = len * te.size ∧
      ∀ (i j : Nat) v, i < len → j < te.size → (parts.toList.map fun p => a.eval p.2)[i]? = some v → cells[i * te.size + j]? = v.cells[j]? := by
    have hps : (parts.map fun (i, x) => (i, a.eval x)).toList = parts.toList.map (fun p => (p.1, a.eval p.2)) := by simp
    obtain ⟨r, hr1, hr2, hr3⟩ := Great.fill_dense (s := te.size) (by omega) (parts.toList.map fun p => a.eval p.2) 0 ((Array.range (len * i.size)).map (zv.cells[· % zv.cells.size]!)) k4 (by simp [hsz, hlen])
    refine ⟨r, ?_, by rw [hr2]; simp [hsz], ?_⟩
    · refine run_buildSlice w t e len _ r i zv hu hi hzv (by rw [hsz]; omega) (by rw [hsz]; have := Nat.mul_pos hc5 hc2; omega) ?_
      rw [hps, k1, hsz]
      rw [hsz] at hr1
      exact hr1
    · intro i' j v hi' hj hv
      rw [hr3]
      have hlt : (i' + 1) * te.size ≤ len * te.size := Nat.mul_le_mul_right _ hi'
      rw [Nat.succ_mul] at hlt
      have e1 : (i' * te.size + j) / te.size = i' := by rw [Nat.mul_comm, Nat.mul_add_div (by omega), Nat.div_eq_of_lt hj]; omega
      have e2 : (i' * te.size + j) % te.size = j := by rw [Nat.mul_comm, Nat.mul_add_mod, Nat.mod_eq_of_lt hj]
      rw [if_pos ⟨by omega, by simp [← hlen]; omega⟩, e1, e2, Nat.sub_zero, hv]
      rfl
  unfold SR.new at h
  split at h
  rotate_left
  · exact h.elim
  rename_i hn
  have R2 := R.newOb (o := .box cs false) (h := (hdOf (.pointer (some ⟨w.heap.size, 0, none⟩)) [w.heap.size])) hn (alloc_ext w (.cells cells e)) (fun b hb => by simp at hb; subst hb; simp) (by
    refine ⟨w.heap.size, cells, e, (0, 0), rfl, by simp, by simp, alloc_new w (.cells cells e), .inl rfl, by omega, fun j v x hv hx => ?_⟩
    obtain ⟨u, c, _, q1, q2, q3⟩ := k5 j x hx
    have hj : j < len * te.size := by
      by_cases q : j < cs.length
      · omega
      · rw [List.getElem?_eq_none (by omega)] at hx; cases hx
    have hd1 : j / te.size < len := Nat.div_lt_of_lt_mul (by rwa [Nat.mul_comm] at hj)
    have hd2 : j % te.size < te.size := Nat.mod_lt _ (by omega)
    have := r3 (j / te.size) (j % te.size) u hd1 hd2 q1
    rw [show j / te.size * te.size + j % te.size = j by rw [Nat.mul_comm]; exact Nat.div_add_mod j te.size, hv, q2] at this
    injection this with this; subst this
    have hext := alloc_ext w (.cells cells e)
    exact q3.mono (fun _ h => h) (fun b hb => hext.block b (R.okLt b hb)) (le_new hn _ _))
  refine goes_value (v := .slice (some ⟨w.heap.size, 0, none⟩) len len) (w' := w.alloc (.cells cells e)) ?_ h (by rw [updO_one]; exact R2) (by rw [updO_one]; exact .one _ _ ⟨cs, false, w.heap.size, setF_same _ _ _, by rw [setF_same], rfl, by omega⟩)
  simp [execOp, ho, r1]

theorem op_buildSlice {t n len : Nat} {parts : Array (Nat × Operand)} (ho : o.op = .buildSlice t len parts) (hT : TabOk P tab) (R : Rel E ok hd tm ob a.tmps w)
    (h : (sBuildSlice tab t n len ob (parts.toList.map fun p => (p.1, ev tm p.2))).holds std cl K) : Goes P E tm ob a.tmps K o a w := by
  unfold sBuildSlice at h
  split at h
  rotate_left
  · exact h.elim
  rename_i e he
  split at h
  rotate_left
  · exact h.elim
  rename_i te hte
  split at h
  rotate_left
  · exact op_buildBox ho hT (sliceOf_und hT he) hte R h
  · exact h.elim
  rename_i es hes hn
  obtain ⟨hc, h⟩ := bif_inv h
  obtain ⟨hc, hc4⟩ := bif_and hc
  obtain ⟨hc, hc3⟩ := bif_and hc
  obtain ⟨hc1, hc2⟩ := bif_and hc
  have hc1 := eq_of_eqB hc1
  have hc2 : 1 ≤ te.size := le_of_leB hc2
  have hc3 := le_of_leB hc3
  have hu := sliceOf_und hT he
  obtain ⟨i, hi, hsz, hby, hzero⟩ := (hT e te hte).info
  obtain ⟨z, hz⟩ := Option.isSome_iff_exists.1 hc4
  obtain ⟨zv, hzv, hzs, hzl, hzr⟩ := hzero z hz
  have hkeep : ∀ ns, ns = refsOf (parts.toList.map fun p => (p.1, ev tm p.2)) → Goes P E tm ob a.tmps K o a w := by
    intro ns hns
    rw [← hns] at h
    obtain ⟨k1, k2, k3, k4, k5⟩ := elems_rel R ns parts.toList 0 es hes (fun n hn => hns ▸ hn)
    have hle : len ≤ len * te.size := Nat.le_mul_of_pos_right _ hc2
    obtain ⟨cells, r1, r2, r3⟩ : ∃ cells : Array Value, (Instr.buildSlice t len (parts.map fun (i, x) => (i, a.eval x))).run P w = .ok (.slice (some ⟨w.heap.size, 0, none⟩) len len) (w.alloc (.cells cells e)) ∧ cells.size = len * te.size ∧
        ∀ (i j : Nat) v, i < len → j < te.size → (parts.toList.map fun p => a.eval p.2)[i]? = some v → cells[i * te.size + j]? = v.cells[j]? := by
      have hps : (parts.map fun (i, x) => (i, a.eval x)).toList = parts.toList.map (fun p => (p.1, a.eval p.2)) := by simp
      by_cases h0 : len = 0
      · subst h0
        have : parts.toList = [] := by have := k2; rw [hc1] at this; exact List.length_eq_zero_iff.1 this.symm
        have hp : parts = #[] := by cases parts; simp_all
        subst hp
        refine ⟨#[], ?_, by simp, by simp⟩
        simp [Instr.buildSlice, run_underlying hu, sizeOf, typeInfo, hi, Instr.fill, newRow]
        congr 2
        apply Array.eq_empty_of_size_eq_zero
        simp
      · obtain ⟨r, hr1, hr2, hr3⟩ := Great.fill_dense (s := te.size) (by omega) (parts.toList.map fun p => a.eval p.2) 0 ((Array.range (len * i.size)).map (zv.cells[· % zv.cells.size]!)) k4 (by simp [← k2, hc1, hsz])
        refine ⟨r, ?_, by rw [hr2]; simp [hsz], ?_⟩
        · refine run_buildSlice w t e len _ r i zv hu hi hzv (by rw [hsz]; omega) (by rw [hsz]; have := Nat.mul_pos (Nat.pos_of_ne_zero h0) hc2; omega) ?_
          rw [hps, k1, hsz]
          rw [hsz] at hr1
          exact hr1
        · intro i' j v hi' hj hv
          rw [hr3]
          have hlt : (i' + 1) * te.size ≤ len * te.size := Nat.mul_le_mul_right _ hi'
          rw [Nat.succ_mul] at hlt
          have e1 : (i' * te.size + j) / te.size = i' := by rw [Nat.mul_comm, Nat.mul_add_div (by omega), Nat.div_eq_of_lt hj]; omega
          have e2 : (i' * te.size + j) % te.size = j := by rw [Nat.mul_comm, Nat.mul_add_mod, Nat.mod_eq_of_lt hj]
          rw [if_pos ⟨by omega, by simp [← k2, hc1]; omega⟩, e1, e2, Nat.sub_zero, hv]
          rfl
    have R1 := R.freeze ns
    have hn1 : frzO ob ns n = none := by
      unfold frzO
      split
      · rw [hn]; rfl
      · exact hn
    have R2 := rel_rowAt (n := n) (sz := te.size) (cap := len) (es := es) (cur := n) (tags := [n]) R1 hn1 (alloc_ext w _) (by simp) (alloc_new w (.cells cells e (0, 0))) (.inl rfl) (by simp) (by omega) (hT _ _ hte).small r2 (by omega) (by omega) k3 (by
      intro i' j x t hx ht
      obtain ⟨v, c, q1, q2, q3⟩ := k5 i' j x t hx ht
      have hi' : i' < len := by
        by_cases q : i' < es.length
        · omega
        · rw [List.getElem?_eq_none (by omega)] at hx; cases hx
      have hj : j < te.size := by
        rw [← k3 x (List.mem_of_getElem? hx)]
        by_cases q : j < x.length
        · exact q
        · rw [List.getElem?_eq_none (by omega)] at ht; cases ht
      exact ⟨c, by rw [r3 i' j v hi' hj q1]; exact q2, q3⟩)
    have hob : updO ob ((n, .row te.size es n [n] false) :: frz ob ns) = setF (frzO ob ns) n (some (.row te.size es n [n] false)) := by
      funext m
      simp only [updO, List.reverse_cons, look_append, look_frz, frzO, setF]
      by_cases e : m = n
      · subst e
        by_cases q : m ∈ ns <;> simp [q, hn, look]
      · by_cases q : m ∈ ns
        · cases hb : ob m <;> simp [q, e, look, Ne.symm e]
        · simp [q, e, look, Ne.symm e]
    rw [hc1] at R2
    refine goes_value (v := .slice (some ⟨w.heap.size, 0, none⟩) len len) (w' := w.alloc (.cells cells e)) ?_ h (by rw [hob]; exact R2) (by rw [hob]; exact .one _ _ (ref_row (by simp) rfl rfl))
    simp [execOp, ho, r1]
  exact hkeep _ rfl

theorem op_buildSliceB {t n len : Nat} {parts : Array (Nat × Operand)} (ho : o.op = .buildSlice t len parts) (hT : TabOk P tab) (R : Rel E ok hd tm ob a.tmps w)
    (h : (sBuildSliceB tab t n len ob (parts.toList.map fun p => (p.1, ev tm p.2))).holds std cl K) : Goes P E tm ob a.tmps K o a w := by
  unfold sBuildSliceB at h
  split at h
  rotate_left
  · exact h.elim
  rename_i e he
  split at h
  rotate_left
  · exact h.elim
  rename_i te hte
  exact op_buildBox ho hT (sliceOf_und hT he) hte R h

end Go.TL
