/- Texts of a proof, joined by a program (merge.py): TlAF TlAG TlAH TlAI TlAJ TlAK TlAL TlTab TfBase TfDraw TfDrawW TfNm TfNmS TfNmT TfNmU TfNmV. -/
import Derived.Test.YtpnhfpjpmjdgmaaGreatDoorV05
import Derived.Test.YtpnhfpjpmjdgmaaGreatDoorProg
set_option linter.all false
/- TlAF -/
namespace Go.TL
open Go

variable {P : Program} {E : Env P} {ok : Nat → Prop} {hd : HF} {tm : Nat → Option A} {ob : OF} {w : World} {a : Act} {o : Oper} {tab : TF} {md : MF} {tmps : Array Value}

theorem cnt_one (p p' : Nat → Bool) (i : Nat) (hp : p i = true) (hp' : p' i = false) (h : ∀ j, j ≠ i → p j = p' j) : ∀ n, (List.range n).countP p = (List.range n).countP p' + (if i < n then 1 else 0)
  | 0 => by simp
  | n + 1 => by
    rw [List.range_succ, List.countP_append, List.countP_append, cnt_one p p' i hp hp' h n]
    by_cases e : n = i
    · subst e; simp [hp, hp']
    · rw [List.countP_singleton, List.countP_singleton, h n e]
      by_cases q : i < n
      · simp [q, show i < n + 1 by omega]; omega
      · simp [q, show ¬ i < n + 1 by omega]

theorem drawn_any {ops : Array Oper} {st0 fin : St} {rs : List Rec} {es : List Entry} {Q : Exit → Act → World → Prop} (hT : TabOk P tab) (hnt : dstsOk E.nt ops.toList = true) (hr : Run P tab md ops.toList 0 ops.toList st0 rs es fin) (hc : checkTr ops.toList es.reverse = true)
    (hQ : ∀ a w, (∀ r, r ∈ rs → r.G) → SRel E fin a w → Q .normal a w) : ∀ (fuel : Nat) (listed : Array Bool) (a : Act) (w : World), listed.size = ops.size → (List.range ops.size).countP (fun j => !listed.getD j false) ≤ fuel →
      Done P E ops rs st0 (fun j => listed.getD j false) a w → wpAny P .any ops Q fuel listed a w := by
  have hfin : ∀ (listed : Array Bool) (a : Act) (w : World), listed.size = ops.size → Done P E ops rs st0 (fun j => listed.getD j false) a w → Region.ready .any ops listed = [] → Q .normal a w := by
    intro listed a w hsz h hrd
    obtain ⟨c1, c2, c3⟩ := checkTr_spec hc
    have all : ∀ n j, j < n → j < ops.size → listed.getD j false = true := by
      intro n
      induction n with
      | zero => intro j hj; omega
      | succ n ih =>
        intro j hj hjs
        cases hq : listed.getD j false with
        | true => rfl
        | false =>
          have : j ∈ Region.ready .any ops listed := by
            unfold Region.ready
            rw [List.mem_filter]
            refine ⟨List.mem_range.2 hjs, ?_⟩
            have hlt : j < listed.size := by omega
            have h1 : listed.getD j true = false := by simpa [Array.getD, hlt] using hq
            rw [h1, Array.getElem?_eq_getElem hjs]
            simp only [Bool.not_false, Bool.true_and, Option.map_some, Option.getD_some, Array.all_eq_true]
            intro k hk
            have hjl : ops.toList[j]? = some ops[j] := by simp [hjs]
            have hm : ops[j].after[k] ∈ ops[j].after.toList := by simp
            cases hb : Region.binds .any ops[j].after[k] with
            | false => rfl
            | true =>
              have h2 := c1 j _ hjl _ hm hb
              simp only [Bool.not_true, Bool.false_or]
              exact ih _ (by omega) (by omega)
          rw [hrd] at this; cases this
    obtain ⟨⟨ok, hd, R⟩, hdf, hf, _⟩ := h
    have hl := hr.len.1
    have hlt : ∀ (j : Nat) (r : Rec), rs[j]? = some r → listed.getD j false = true := by
      intro j r hj
      refine all (j + 1) j (by omega) ?_
      by_cases q : j < rs.length
      · simpa [hl] using q
      · rw [List.getElem?_eq_none (by omega)] at hj; cases hj
    refine hQ a w (fun r hr' => ?_) ⟨⟨ok, hd, ?_⟩, hdf⟩
    · obtain ⟨j, hj⟩ := List.getElem?_of_mem hr'
      exact hf j r hj (hlt j r hj)
    · have e1 : look fin.tm = tmF (fun j => listed.getD j false) 0 rs (look st0.tm) := by
        rw [hr.fin.1]; funext t
        exact tmF_agree rs 0 _ _ (fun j r hj hne => by rw [Nat.zero_add] at hne; exact absurd (hlt j r hj).symm hne) rfl
      have e2 : look fin.ob = obF (fun j => listed.getD j false) 0 rs (look st0.ob) := by
        rw [hr.fin.2]; funext n
        exact obF_agree rs 0 _ _ (fun j r hj hne => by rw [Nat.zero_add] at hne; exact absurd (hlt j r hj).symm hne) rfl
      rw [e1, e2]; exact R
  intro fuel
  induction fuel with
  | zero =>
    intro listed a w hsz hcnt h
    have hrd : Region.ready .any ops listed = [] := by
      cases hq : Region.ready .any ops listed with
      | nil => rfl
      | cons i l =>
        have hi : i ∈ Region.ready .any ops listed := by rw [hq]; exact .head _
        unfold Region.ready at hi
        rw [List.mem_filter] at hi
        obtain ⟨h1, h2⟩ := hi
        simp only [Bool.and_eq_true, Bool.not_eq_true'] at h2
        have hlt : i < listed.size := by have := List.mem_range.1 h1; omega
        have : listed.getD i false = false := by simpa [Array.getD, hlt] using h2.1
        have h3 : 0 < (List.range ops.size).countP (fun j => !listed.getD j false) := List.countP_pos_iff.2 ⟨i, h1, by simp only [this, Bool.not_false]⟩
        omega
    exact ⟨hrd, hfin listed a w hsz h hrd⟩
  | succ fuel ih =>
    intro listed a w hsz hcnt h
    refine ⟨hfin listed a w hsz h, fun i hi => ?_⟩
    unfold Region.ready at hi
    rw [List.mem_filter] at hi
    obtain ⟨h1, h2⟩ := hi
    have his := List.mem_range.1 h1
    have hlt : i < listed.size := by omega
    rw [Array.getElem?_eq_getElem his] at h2
    simp only [Bool.and_eq_true, Bool.not_eq_true', Option.map_some, Option.getD_some, Array.all_eq_true] at h2
    obtain ⟨h2, h3⟩ := h2
    have hi0 : listed.getD i false = false := by simpa [Array.getD, hlt] using h2
    refine drawn_step hT hnt hr hc h (Array.getElem?_eq_getElem his) hi0 (fun e he hb => ?_) _ Q fun a' w' h' => ?_
    · obtain ⟨k, hk, rfl⟩ := List.getElem_of_mem he
      have := h3 k (by simpa using hk)
      simp only [Bool.or_eq_true, Bool.not_eq_true'] at this
      rcases this with q | q
      · rw [Array.getElem_toList] at hb; rw [hb] at q; cases q
      · simpa using q
    · have hD : (fun j => listed.getD j false || decide (j = i)) = fun j => (listed.setIfInBounds i true).getD j false := by
        funext j
        by_cases q : j = i
        · subst q; simp [Array.getD, hlt]
        · simp only [Array.getD_eq_getD_getElem?, Array.getElem?_setIfInBounds_ne (Ne.symm q), q, decide_false, Bool.or_false]
      rw [hD] at h'
      refine ih _ a' w' (by simpa using hsz) ?_ h'
      have := cnt_one (fun j => !listed.getD j false) (fun j => !(listed.setIfInBounds i true).getD j false) i (by simp only [hi0, Bool.not_false]) (by simp [Array.getD, hlt]) (fun j hj => by
        rw [← congrFun hD j]; simp [hj]) ops.size
      rw [if_pos his] at this
      omega

theorem drawnP_sound {ops : Array Oper} {K : St → Prop} {Q : Exit → Act → World → Prop} {id : Nat} {st : St} (hM : P.follows .mixedOrders = true) (hT : TabOk P tab) (hnt : dstsOk E.nt ops.toList = true) (hQ : ∀ st a w, K st → SRel E st a w → Q .normal a w)
    (R : SRel E st a w) (h : drawnP std (ACall P) tab md ops.toList 0 (kops ops.toList ops.toList) st [] True K) : (Code.region id ops true).wp P Q a w := by
  obtain ⟨rs, es, fin, h1, h2, h3⟩ := drawnP_run ops.toList 0 st [] True h
  rw [List.append_nil] at h2
  refine wp_region_any hM (drawn_any hT hnt h1 h2 (fun a w hG hR => hQ fin a w (h3 ⟨trivial, hG⟩) hR) ops.size _ a _ (by simp) ?_ ?_)
  · have := List.countP_le_length (p := fun j => !(Array.replicate ops.size false).getD j false) (l := List.range ops.size)
    simpa using this
  · have hD : (fun j => (Array.replicate ops.size false).getD j false) = fun _ => false := by
      funext j
      by_cases q : j < ops.size <;> simp [Array.getD, q]
    rw [hD]
    obtain ⟨⟨ok, hd, R⟩, hdf⟩ := R
    refine ⟨⟨ok, hd, ?_⟩, hdf, fun i r _ h => (by cases h), fun i o h => (by cases h)⟩
    rw [tmF_none rs 0 _ fun _ _ => rfl, obF_none rs 0 _ fun _ _ => rfl]
    exact R.ext (drew_ext w)

end Go.TL

/- TlAG -/
namespace Go.TL
open Go

variable {P : Program} {E : Env P} {ok : Nat → Prop} {hd : HF} {tm : Nat → Option A} {ob : OF} {w : World} {a : Act} {o : Oper} {tab : TF} {md : MF} {tmps : Array Value} {m : Nat}

theorem look_keepT {ks : List Nat} : ∀ {l : Tms} {t : Nat} {x : A}, look (keepT ks l) t = some x → look l t = some x
  | [], t, x, h => by cases h
  | (i, y) :: r, t, x, h => by
    simp only [keepT] at h
    cases hb : memB i ks with
    | true =>
      rw [hb] at h
      by_cases e : i = t
      · simp [look, e] at h ⊢; exact h
      · simp [look, e] at h ⊢; exact look_keepT h
    | false =>
      rw [hb] at h
      have hm := look_keepT h
      by_cases e : i = t
      · subst e
        exfalso
        have : ∀ (l : Tms), look (keepT ks l) i = none := by
          intro l
          induction l with
          | nil => rfl
          | cons p l ih =>
            obtain ⟨u, v⟩ := p
            simp only [keepT]
            by_cases q : u = i
            · subst q; rw [hb]; exact ih
            · cases memB u ks with
              | true => simp [look, q, ih]
              | false => exact ih
        simp only [cond_false] at h
        rw [this] at h; cases h
      · simp [look, e]; exact hm

theorem srel_ren {ρ : List (Nat × Nat)} {ks : List Nat} {st st' : St} (hm : ∀ n, E.ob0 n ≠ none → n < m) (R : SRel E st a w) (h : renS m ρ ⟨keepT ks st.tm, st.ob⟩ = some st') : SRel E st' a w := by
  obtain ⟨⟨ok, hd, R⟩, hdf⟩ := R
  have R' : Rel E ok hd (look (⟨keepT ks st.tm, st.ob⟩ : St).tm) (look (⟨keepT ks st.tm, st.ob⟩ : St).ob) a.tmps w := R.tmsub fun t x hx => look_keepT hx
  exact ⟨⟨ok, _, R'.ren hm h⟩, hdf⟩
theorem cleanP_sound {vars : List Nat} {st : St} {K : St → Prop} (hm : ∀ n, E.ob0 n ≠ none → n < m) (R : SRel E st a w) (h : cleanP m vars st K) : ∃ st', K st' ∧ SRel E st' a w := by
  unfold cleanP at h
  split at h
  · rename_i st' hc
    exact ⟨st', h, srel_ren hm R hc⟩
  · exact h.elim

theorem Rel.retm {t : Nat} {x : A} (R : Rel E ok hd tm ob tmps w) (hx : AR w ok hd ob (tmps.getD t undef) x) : Rel E ok hd (fun u => if u = t then some x else tm u) ob tmps w :=
  { R with
    tms := fun u y hy => by
      by_cases e : u = t
      · subst e
        simp at hy
        rw [← hy]; exact hx
      · simp [e] at hy
        exact R.tms u y hy }

theorem look_putF {α : Type} (l : List (Nat × α)) (d : Nat) (x : α) : look (put l d x) = fun t => if t = d then some x else look l t := funext fun t => look_put l d x t

theorem virt1_sound {st st' : St} {v : Vt} (R : SRel E st a w) (h : virt1 st v = some st') : SRel E st' a w := by
  obtain ⟨⟨ok, hd, R⟩, hdf⟩ := R
  cases v with
  | tmp t j sz n =>
    simp only [virt1] at h
    split at h
    rotate_left
    · cases h
    rename_i x hx
    generalize hq : virtA n [(j, sz)] x = q at h
    obtain ⟨x', vo⟩ := q
    simp only at h
    cases hc : (nodupB (keys vo) && freshB (look st.ob) (keys vo) && posB vo) with
    | false => rw [hc] at h; cases h
    | true =>
      rw [hc] at h
      injection h with h; subst h
      obtain ⟨hc, hc3⟩ := bif_and hc
      obtain ⟨hc1, hc2⟩ := bif_and hc
      have hV := (virtA_rel (w := w) (ok := ok) (hd1 := hd) (ob1 := look st.ob) hq).1
      obtain ⟨hd1, R1, le, _, h2⟩ := R.virt hV hc3 (by rw [nodupB_iff, keys_map] at hc1; exact hc1) (fun n hn => freshB_mem hc2 n (by rw [keys_map]; exact hn))
      have hx1 := (virtA_rel (w := w) (ok := ok) hq).2 _ (R1.tms t x hx) h2
      refine ⟨⟨ok, hd1, ?_⟩, hdf⟩
      simp only [look_putF, look_puts]
      exact R1.retm hx1
  | cell t0 j sz n =>
    simp only [virt1] at h
    split at h
    rotate_left
    · cases h
    rename_i n0 _ _
    split at h
    rotate_left
    · cases h
    rename_i cs hcs
    generalize hq : virtL n [(j, sz)] cs = q at h
    obtain ⟨cs', vo⟩ := q
    simp only at h
    cases hc : (nodupB (keys vo) && freshB (look st.ob) (keys vo) && posB vo && !(memB n0 (keys vo))) with
    | false => rw [hc] at h; cases h
    | true =>
      rw [hc] at h
      injection h with h; subst h
      obtain ⟨hc, hc4⟩ := bif_and hc
      obtain ⟨hc, hc3⟩ := bif_and hc
      obtain ⟨hc1, hc2⟩ := bif_and hc
      have hV := (virtL_rel (w := w) (ok := ok) (hd1 := hd) (ob1 := look st.ob) [(j, sz)] n cs cs' vo hq).1
      obtain ⟨hd1, R1, le, h1, h2⟩ := R.virt hV hc3 (by rw [nodupB_iff, keys_map] at hc1; exact hc1) (fun n hn => freshB_mem hc2 n (by rw [keys_map]; exact hn))
      obtain ⟨_, hl, hr⟩ := virtL_rel (w := w) (ok := ok) (hd1 := hd1) (ob1 := updO (look st.ob) vo) [(j, sz)] n cs cs' vo hq
      have hno : n0 ∉ vo.map (·.1) := by
        rw [← keys_map]
        simp only [Bool.not_eq_true'] at hc4
        exact memB_false.1 hc4
      obtain ⟨e1, e2⟩ := h1 n0 hno
      have hob : updO (look st.ob) vo n0 = some (.box cs false) := by rw [e2]; exact hcs
      have hO := R1.obs n0 _ hob
      have hse : setF hd1 n0 (hd1 n0) = hd1 := by
        funext k; by_cases e : k = n0
        · subst e; simp [setF]
        · simp [setF, e]
      have le2 : Le hd1 (updO (look st.ob) vo) (setF hd1 n0 (hd1 n0)) (setF (updO (look st.ob) vo) n0 (some (.box cs' false))) := by
        rw [hse]
        refine ⟨fun k c f hk => ?_, fun k sz es cur tags f hk => ?_⟩
        · by_cases e : k = n0
          · subst e; exact ⟨cs', false, setF_same _ _ _, rfl⟩
          · exact ⟨c, f, by rw [setF_ne _ _ _ _ e]; exact hk, rfl⟩
        · by_cases e : k = n0
          · subst e; rw [hob] at hk; cases hk
          · exact ⟨es, cur, tags, f, by rw [setF_ne _ _ _ _ e]; exact hk, fun _ h => h, .inl ⟨rfl, rfl, rfl⟩⟩
      refine ⟨⟨ok, hd1, ?_⟩, hdf⟩
      simp only [look_putF, look_puts]
      have hO' := hO
      obtain ⟨b, c, e, fr, g1, g2, g3, g4, g5, g6, g7⟩ := hO
      have R2 := R1.turn (h' := hd1 n0) (x' := .box cs' false) hob (Fr.refl _ _) (fun b hb => ⟨.inl hb, (R1.own n0 b (by rw [hob]; simp) hb).2⟩) le2 (by
        refine ⟨b, c, e, fr, g1, g2, g3, g4, g5, by omega, fun i v x p q => ?_⟩
        have := hr c.toList (fun i v x p q => g7 i v x (by simpa using p) q) h2 i v x (by simpa using p) q
        exact this.mono (fun _ h => h) (fun _ _ => rfl) le2)
      rw [hse] at R2
      exact R2
  | tree t =>
    simp only [virt1] at h
    split at h
    rotate_left
    · cases h
    rename_i x hx
    split at h
    rotate_left
    · cases h
    rename_i x' hx'
    injection h with h; subst h
    have R1 := R.freeze x.refs
    refine ⟨⟨frzK ok hd (look st.ob) x.refs, frzH hd x.refs, ?_⟩, hdf⟩
    simp only [look_putF, look_puts]
    rw [updO_frz]
    exact R1.retm ((R.tms t x hx).repF R.toORel hx' fun _ h => h)
theorem virt_sound : ∀ {vl : List Vt} {st st' : St}, SRel E st a w → virt vl st = some st' → SRel E st' a w
  | [], st, st', R, h => by simp only [virt] at h; injection h with h; subst h; exact R
  | v :: l, st, st', R, h => by
    simp only [virt] at h
    split at h
    · rename_i st1 h1; exact virt_sound (virt1_sound R h1) h
    · cases h
theorem nrm_sound {ks : List Nat} {vl : List Vt} {st st' : St} (hm : ∀ n, E.ob0 n ≠ none → n < m) (R : SRel E st a w) (h : nrm m ks vl st = some st') : SRel E st' a w := by
  unfold nrm at h
  split at h
  · rename_i st1 h1; exact srel_ren hm (virt_sound R h1) h
  · cases h

/-- Code's places are those of its frame. -/
def codeOk (nt : Nat) : Code → Bool
  | .region _ ops _ => dstsOk nt ops.toList
  | .seq x y => codeOk nt x && codeOk nt y
  | .cond _ x y => codeOk nt x && codeOk nt y
  | .block _ c => codeOk nt c
  | .loop c => codeOk nt c
  | _ => true

theorem code_sound (hM : P.follows .mixedOrders = true) (hT : TabOk P tab) (hm : ∀ n, E.ob0 n ≠ none → n < m) {vars : List Nat} : ∀ (c : Code), codeOk E.nt c = true → ∀ (st : St) (a : Act) (w : World) (K : Exit → St → Prop) (Q : Exit → Act → World → Prop), SRel E st a w →
    codeP std (ACall P) tab md m vars (kode c) st K → (∀ e st a w, K e st → SRel E st a w → Q e a w) → c.wp P Q a w := by
  intro c
  induction c with
  | skip => intro _ st a w K Q R h hQ; exact wp_skip (hQ _ st a w h R)
  | region id ops draw =>
    intro hok st a w K Q R h hQ
    have hcl : ∀ st a w, cleanP m vars st (K .normal) → SRel E st a w → Q .normal a w := by
      intro st a w h R
      obtain ⟨st', h1, h2⟩ := cleanP_sound hm R h
      exact hQ _ st' a w h1 h2
    cases draw with
    | false =>
      refine wp_region ?_
      have := opsP_sound (P := P) (E := E) (tab := tab) (md := md) hT hok hcl ops.toList 0 rfl st a w R h
      rw [List.range_eq_range']
      rw [Array.length_toList] at this
      exact this
    | true => exact drawnP_sound hM hT hok hcl R h
  | seq x y ihx ihy =>
    intro hok st a w K Q R h hQ
    obtain ⟨h1, h2⟩ := bif_and hok
    refine wp_seq (ihx h1 st a w _ _ R h ?_)
    intro e st' a' w' hk R'
    cases e with
    | normal => exact ihy h2 st' a' w' K Q R' hk hQ
    | exit i => exact hQ _ st' a' w' hk R'
    | ret => exact hQ _ st' a' w' hk R'
    | _ => exact hk.elim
  | cond c x y ihx ihy =>
    intro hok st a w K Q R h hQ
    obtain ⟨h1, h2⟩ := bif_and hok
    cases c with
    | tmp t =>
      simp only [kode, codeP] at h
      split at h
      rotate_left
      · exact h.elim
      rename_i b hb
      obtain ⟨⟨ok, hd, R1⟩, hdf⟩ := R
      have hv := (R1.tms t _ hb).one_inv.bool_inv
      cases b with
      | true => exact wp_cond_true hv (ihx h1 st a w K Q ⟨⟨ok, hd, R1⟩, hdf⟩ h hQ)
      | false => exact wp_cond_false hv (ihy h2 st a w K Q ⟨⟨ok, hd, R1⟩, hdf⟩ h hQ)
    | _ => exact h.elim
  | block id c ih =>
    intro hok st a w K Q R h hQ
    refine wp_block (ih hok st a w _ _ R h ?_)
    intro e st' a' w' hk R'
    cases e with
    | normal => exact hQ _ st' a' w' hk R'
    | exit i =>
      simp only at hk
      simp only [Exit.inBlock]
      by_cases hi : i = id
      · rw [if_pos hi]
        subst hi
        simp at hk
        exact hQ _ st' a' w' hk R'
      · rw [if_neg hi]
        have : eqB i id = false := by
          cases hb : eqB i id with
          | false => rfl
          | true => exact absurd (eq_of_eqB hb) hi
        rw [this] at hk
        exact hQ _ st' a' w' hk R'
    | ret => exact hQ _ st' a' w' hk R'
    | _ => exact hk.elim
  | loop c ih =>
    intro hok st a w K Q R h hQ
    obtain ⟨X, ks, vl, S, φ, μ, x0, h0, h1, step⟩ := h
    have key : ∀ n x a w, μ x < n → φ x → SRel E (S x) a w → Code.rounds P c Q n a w := by
      intro n
      induction n with
      | zero => intro x a w hn; omega
      | succ n ihn =>
        intro x a w hn hx R
        rw [rounds_succ]
        refine ih hok (S x) a w _ _ R (step x hx) ?_
        intro e st' a' w' hk R'
        cases e with
        | normal =>
          obtain ⟨x', q1, q2, q3⟩ := hk
          exact ihn x' a' w' (by omega) q2 (nrm_sound hm R' q1)
        | exit i => exact hQ _ st' a' w' hk R'
        | ret => exact hQ _ st' a' w' hk R'
        | _ => exact hk.elim
    exact wp_loop_rounds (μ x0 + 1) (key _ x0 a w (by omega) h1 (nrm_sound hm R h0))
  | exit id => intro _ st a w K Q R h hQ; exact wp_exit (hQ _ st a w h R)
  | ret => intro _ st a w K Q R h hQ; exact wp_ret (hQ _ st a w h R)
  | _ => intro _ st a w K Q R h hQ; exact h.elim

end Go.TL

/- TlAH -/
namespace Go.TL
open Go

variable {P : Program} {E : Env P} {ok : Nat → Prop} {hd : HF} {tm : Nat → Option A} {ob : OF} {w : World} {a : Act} {o : Oper} {tab : TF} {md : MF} {tmps : Array Value} {m : Nat}

/-- A result's value. -/
def resV (tmps : Array Value) : ResultVar → Sem Value
  | .tmp t => pure (tmps.getD t undef)
  | .cell a t => do loadVar t (← asAddr (tmps.getD a undef))
theorem res_rel (hT : TabOk P tab) (R : Rel E ok hd tm ob tmps w) {r : ResultVar} {x : A} (h : resE tab tm ob r = some x) : ∃ v, (resV tmps r).run P w = .ok v w ∧ AR w ok hd ob v x := by
  cases r with
  | tmp t => exact ⟨_, rfl, R.tms t x h⟩
  | cell t ty =>
    simp only [resE] at h
    split at h
    rotate_left
    · cases h
    rename_i n off hx
    split at h
    rotate_left
    · cases h
    rename_i ti cs fz hti hob
    cases hb : leB (off + ti.size) cs.length with
    | false => rw [hb] at h; cases h
    | true =>
      rw [hb] at h
      injection h with h; subst h
      have hle := le_of_leB hb
      obtain ⟨cs', fz', b, h1, h2, h3⟩ := (R.tms t _ hx).one_inv
      rw [hob] at h1; injection h1 with h1; injection h1 with h1 h1'; subst h1; subst h1'
      obtain ⟨b', c, e, fr, g1, g2, g3, g4, g5, g6, g7⟩ := R.obs n _ hob
      rw [h2] at g1; injection g1 with g1; injection g1 with g1; injection g1 with g1; subst g1
      obtain ⟨v, hr, ha⟩ := load_rel (P := P) (w := w) (ok := ok) (hd := hd) (ob := ob) hT hti (b := b) (off0 := 0) (off := off) (n := cs.length) (f := fun j => c.getD j undef) (cs := cs)
        (fun j hj => by rw [cell_of g4]; simp [Array.getD, show j < c.size by omega]) rfl
        (fun j x hj => by
          have hj' : j < cs.length := by by_cases q : j < cs.length; exact q; rw [List.getElem?_eq_none (by omega)] at hj; cases hj
          exact g7 j _ x (by simp [Array.getD, show j < c.size by omega]) hj) hle
      rw [Nat.zero_add] at hr
      refine ⟨v, ?_, ha⟩
      simp [resV, h3, asAddr, hr]
theorem ress_rel (hT : TabOk P tab) (R : Rel E ok hd tm ob tmps w) : ∀ (rs : List ResultVar) (l : List A), ressE tab tm ob rs = some l → ∃ vs : List Value, (rs.mapM (resV tmps)).run P w = .ok vs w ∧ AL w ok hd ob vs l
  | [], l, h => by simp [ressE] at h; subst h; exact ⟨[], by simp, rfl, by simp⟩
  | r :: rs, l, h => by
    unfold ressE at h
    split at h
    · rename_i x la hx has
      injection h with h; subst h
      obtain ⟨v, h1, h2⟩ := res_rel hT R hx
      obtain ⟨vs, h3, h4⟩ := ress_rel hT R rs la has
      refine ⟨v :: vs, by simp [List.mapM_cons, h1, h3], by simp [h4.len], fun i u y p q => ?_⟩
      cases i with
      | zero => simp at p q; subst p; subst q; exact h2
      | succ i => exact h4.rel i u y (by simpa using p) (by simpa using q)
    · cases h
/-- The results as one value. -/
def outV (vs : List Value) : Value := match vs with
  | [v] => v
  | l => .tuple l.toArray
theorem run_results {fn : Func} {vs : List Value} (h : (fn.results.toList.mapM (resV tmps)).run P w = .ok vs w) : (results fn tmps).run P w = .ok (outV vs) w := by
  have e : results fn tmps = (do let vs ← fn.results.mapM (resV tmps); pure (if h : vs.size = 1 then vs[0] else .tuple vs)) := by
    unfold results
    congr 1
  rw [e, Array.mapM_eq_mapM_toList]
  simp only [Sem.run_bind, Sem.run_pure]
  have : (List.toArray <$> fn.results.toList.mapM (resV tmps)).run P w = .ok vs.toArray w := by
    rw [← bind_pure_comp]
    simp only [Sem.run_bind, h, Result.andThen_ok, Sem.run_pure]
  rw [this]
  simp only [Result.andThen_ok]
  congr 1
  match vs with
  | [] => rfl
  | [v] => rfl
  | v :: u :: l => simp [outV]
theorem out_rel {vs : List Value} {l : List A} (h : AL w ok hd ob vs l) : AR w ok hd ob (outV vs) (outE l) := by
  match vs, l, h with
  | [], [], h => exact .tup [] [] rfl (by simp)
  | [v], [x], h => exact h.rel 0 v x rfl rfl
  | v :: u :: vs, x :: y :: l, h => exact .tup _ _ h.len h.rel
  | [], _ :: _, h => exact absurd h.len (by simp)
  | _ :: _, [], h => exact absurd h.len (by simp)
  | [_], _ :: _ :: _, h => exact absurd h.len (by simp)
  | _ :: _ :: _, [_], h => exact absurd h.len (by simp)

theorem look_startT : ∀ (l : List A) (i t : Nat) (x : A), look (startT i l) t = some x → ∃ j, t = i + j ∧ l[j]? = some x
  | [], i, t, x, h => by cases h
  | y :: l, i, t, x, h => by
    by_cases e : i = t
    · simp [startT, look, e] at h; exact ⟨0, e.symm, by simp [h]⟩
    · simp [startT, look, e] at h
      obtain ⟨j, h1, h2⟩ := look_startT l (i + 1) t x h
      exact ⟨j + 1, by omega, by simpa using h2⟩

/-- What a body hands back. -/
theorem retP_sound {m : Nat} {rm : List (Option (List (Nat × Nat)))} {fn : Func} {K : A → Obs → Prop} {st : St} (hT : TabOk P tab) (hm : ∀ n, E.ob0 n ≠ none → n < m) (hoo : ∀ b, b ∈ E.oo → ∃ n, E.ob0 n ≠ none ∧ b ∈ (E.hd0 n).own)
    (R : Rel E ok hd (look st.tm) (look st.ob) tmps w) (h : retP tab m rm fn.results.toList K st) : ∃ v, (results fn tmps).run P w = .ok v w ∧ ∃ ok' hd' r ob', K r ob' ∧ Ret E.ok0 E.hd0 E.ob0 E.w0 ok' hd' (look ob') w ∧ AR w ok' hd' (look ob') v r := by
  unfold retP at h
  split at h
  rotate_left
  · exact h.elim
  rename_i l hl
  obtain ⟨vs, hrun, hal⟩ := ress_rel hT R _ l hl
  refine ⟨outV vs, run_results hrun, ?_⟩
  split at h
  rotate_left
  · exact h.elim
  rename_i p hp
  cases hc : (nodupB (keys p.vo) && freshB (look st.ob) (keys p.vo) && posB p.vo) with
  | false => rw [hc] at h; exact h.elim
  | true =>
    rw [hc] at h
    simp only [cond_true] at h
    obtain ⟨hc, hc3⟩ := bif_and hc
    obtain ⟨hc1, hc2⟩ := bif_and hc
    have hvn : (p.vo.map (·.1)).Nodup := by rw [nodupB_iff, keys_map] at hc1; exact hc1
    have hvf : ∀ n, n ∈ p.vo.map (·.1) → look st.ob n = none := by
      intro n hn; rw [← keys_map] at hn; exact freshB_mem hc2 n hn
    have hV : Virt p.vo := (pre_rel (FR := p.fr) R.toORel (Le.refl _ _) _ _ _ _ hp (fun _ h => h)).1
    have RF := R.freeze p.fr
    have hvf2 : ∀ n, n ∈ p.vo.map (·.1) → frzO (look st.ob) p.fr n = none := by
      intro n hn
      unfold frzO
      split
      · rw [hvf n hn]; rfl
      · exact hvf n hn
    obtain ⟨hdC, RC, leC, hC1, hC2⟩ := RF.virt hV hc3 hvn hvf2
    obtain ⟨hpl, har⟩ := (pre_rel R.toORel leC _ _ _ _ hp (fun _ h => h)).2 vs hal.rel hC2
    rw [updO_virt_frz hvf hvn] at h
    unfold retP.retN at h
    generalize idR (upto m) ++ numFrom 32 (above m (reach (updO (frzO (look st.ob) p.fr) p.vo) 2 (nub p.own (upto m)))) = ρ at h
    unfold retP.retR at h
    cases hc : (okRen ρ && keepB ρ m) with
    | false => rw [hc] at h; exact h.elim
    | true =>
      rw [hc] at h
      simp only [cond_true] at h
      obtain ⟨h⟩ := h
      obtain ⟨hr1, hr2⟩ := bif_and hc
      have hρ := okRen_iff hr1
      refine ⟨frzK ok hd (look st.ob) p.fr, hdR ρ hdC, _, _, h, ?_, ?_⟩
      · rw [look_renO hρ]
        refine { rel := RC.toORel.ren hρ keep7, os := RC.fr.os, tape := RC.fr.tape, output := RC.fr.output, size := RC.fr.size, block := ?_, okUp := RC.ok0, okSub := ?_, ownSub := ?_, kp := ?_ }
        · intro b hb hn
          refine RC.fr.block b hb fun q => ?_
          obtain ⟨n, h1, h2⟩ := hoo b q
          exact hn n h1 h2
        · intro b hb
          rcases RC.okSub b hb with h | h | h
          · exact .inl h
          · exact .inr (.inl h)
          · exact .inr (.inr (hoo b h))
        · intro n b hn hb
          cases hx : obR ρ keep7 (updO (frzO (look st.ob) p.fr) p.vo) n with
          | none => exact absurd hx hn
          | some x =>
            obtain ⟨k, y, hm', hy, _⟩ := obR_some hρ hx
            rw [hdR_of hρ hm'] at hb
            rcases RC.ownSub k b (by rw [hy]; simp) hb with h | h
            · exact .inl h
            · exact .inr (hoo b h)
        · refine ⟨fun n cs fz hn => ?_, fun n sz es cur tags fz hn => ?_⟩
          · obtain ⟨cs', fz', h1, h2⟩ := RC.kp.box n cs fz hn
            have hm' := look_mem (keepB_get hr2 n (hm n (by rw [hn]; simp)))
            exact ⟨_, fz', by rw [obR_of hρ hm', h1]; rfl, by rw [hdR_of hρ hm']; exact h2⟩
          · obtain ⟨es', cur', tags', fz', h1, h2⟩ := RC.kp.row n sz es cur tags fz hn
            have hm' := look_mem (keepB_get hr2 n (hm n (by rw [hn]; simp)))
            exact ⟨es', keep7 n cur', [keep7 n cur'], fz', by rw [obR_of hρ hm', h1]; rfl, fun q => by rw [hdR_of hρ hm']; exact h2 (keep7_eq q)⟩
      · rw [look_renO hρ]
        refine out_rel ⟨by rw [goRen_len, hpl]; exact hal.len, fun i v x q1 q2 => ?_⟩
        rw [goRen_get] at q2
        cases hx : p.args[i]? with
        | none => rw [hx] at q2; cases q2
        | some y => rw [hx] at q2; injection q2 with q2; subst q2; exact (har i v y q1 hx).ren hρ keep7

/-- Names are below their number. -/
def keysB (m : Nat) : Obs → Bool
  | [] => true
  | (n, _) :: r => ltB n m && keysB m r
theorem keysB_look {m : Nat} : ∀ {l : Obs}, keysB m l = true → ∀ n, look l n ≠ none → n < m
  | [], _, n, h => absurd rfl h
  | (i, x) :: r, hb, n, h => by
    simp only [keysB, Bool.and_eq_true] at hb
    by_cases e : i = n
    · subst e; exact lt_of_ltB hb.1
    · exact keysB_look hb.2 n (by simpa [look, e] using h)

theorem acall_of_body {f : Nat} {fn : Func} {c : Code} {args : List A} {ob : Obs} {K : A → Obs → Prop} {rm : List (Option (List (Nat × Nat)))} {vars : List Nat} (hM : P.follows .mixedOrders = true) (hT : TabOk P tab) (hf : P.funcs[f]? = some fn) (hb : fn.body = some c)
    (hn : fn.name ≠ "runtime.NumGoroutine") (hok : codeOk (args.length + (fn.ntmps - args.length)) c = true) (hk : keysB ob.length ob = true) (h : runP std (ACall P) tab md rm vars (kode c) fn.results.toList args ob K) : ACall P f args ob K := by
  intro w ok hd vs G R hl ha o a next Qx hnext
  have hrun : (callFunc f vs.toArray).run P w = .ok (.enter f vs.toArray) w := by
    simp [callFunc, hf, hn, hb]
  rw [hrun, Oper.upon_enter]
  let E : Env P := ⟨w, ok, (List.range ob.length).flatMap (fun n => if (look ob n).isSome then (hd n).own else []), hd, look ob, args.length + (fn.ntmps - args.length), G, fun b hb => ⟨R.okLt b hb, fun hm => by
    obtain ⟨n, _, hb2⟩ := List.mem_flatMap.1 hm
    cases hs : look ob n with
    | none => rw [hs] at hb2; simp at hb2
    | some x =>
      rw [hs] at hb2
      exact (R.own n b (by rw [hs]; simp) (by simpa using hb2)).1 hb⟩⟩
  have hm : ∀ n, E.ob0 n ≠ none → n < ob.length := keysB_look hk
  have hoo : ∀ b, b ∈ E.oo → ∃ n, E.ob0 n ≠ none ∧ b ∈ (E.hd0 n).own := by
    intro b hb
    obtain ⟨n, _, hb2⟩ := List.mem_flatMap.1 hb
    cases hs : look ob n with
    | none => rw [hs] at hb2; simp at hb2
    | some x =>
      rw [hs] at hb2
      exact ⟨n, by show look ob n ≠ none; rw [hs]; simp, by simpa using hb2⟩
  have hoo2 : ∀ n b, E.ob0 n ≠ none → b ∈ (E.hd0 n).own → b ∈ E.oo := by
    intro n b hn hb
    refine List.mem_flatMap.2 ⟨n, List.mem_range.2 (hm n hn), ?_⟩
    cases hs : look ob n with
    | none => exact absurd hs hn
    | some x => simpa using hb
  have R0 : Rel E ok hd (look (startT 0 args)) (look ob) (vs.toArray ++ Array.replicate (fn.ntmps - vs.toArray.size) undef) w := {
    toORel := R
    fr := Fr.refl _ _
    ok0 := fun _ h => h
    okSub := fun _ h => .inl h
    ownSub := fun n b h1 h2 => .inr (hoo2 n b h1 h2)
    nt := by simp [hl, E]
    kp := Keep.refl _ _
    tms := fun t x hx => by
      obtain ⟨j, rfl, hj⟩ := look_startT args 0 t x hx
      rw [Nat.zero_add]
      have hjl : j < vs.length := by
        rw [hl]
        by_cases q : j < args.length
        · exact q
        · rw [List.getElem?_eq_none (by omega)] at hj; cases hj
      have := ha j _ x (List.getElem?_eq_getElem hjl) hj
      simpa [Array.getD_eq_getD_getElem?, Array.getElem?_append_left, hjl] using this }
  refine calls_of_wp hf hb (code_sound (E := E) hM hT hm c hok ⟨startT 0 args, ob⟩ ⟨_, []⟩ w _ _ ⟨⟨ok, hd, R0⟩, rfl⟩ h ?_)
  have fin : ∀ (st : St) (a' : Act) (w' : World), retP tab ob.length rm fn.results.toList K st → SRel E st a' w' → a'.defers = [] ∧ ∃ v, (results fn a'.tmps).run P w' = .ok v w' ∧ next (a.put o.dst v) w' := by
    intro st a' w' hk R'
    obtain ⟨⟨ok', hd', R'⟩, hdf⟩ := R'
    obtain ⟨v, h1, ok2, hd2, r, ob', h2, h3, h4⟩ := retP_sound (E := E) hT hm hoo R' hk
    exact ⟨hdf, v, h1, hnext v w' ⟨ok2, hd2, r, ob', h2, h3, h4⟩⟩
  intro e st a' w' hk R'
  cases e with
  | normal => exact fin st a' w' hk R'
  | ret => exact fin st a' w' hk R'
  | _ => exact hk.elim

/-- A body's places are those of its frame. -/
def bodyOk (n : Nat) (fn : Func) : Bool := (match fn.body with
  | some c => codeOk (n + (fn.ntmps - n)) c
  | none => false) && fn.name != "runtime.NumGoroutine"
/-- A contract, by the evaluation of the body: the operations on numbers and lists stay closed while it runs. -/
theorem acall_fn {f : Nat} {fn : Func} {args : List A} {ob : Obs} {K : A → Obs → Prop} (rm : List (Option (List (Nat × Nat)))) (vars : List Nat) (hM : P.follows .mixedOrders = true) (hT : TabOk P tab) (hf : P.funcs[f]? = some fn) (n : Nat) (hn : args.length = n) (hok : bodyOk n fn = true)
    (hk : keysB ob.length ob = true) (h : ∀ ar, ar = std → bodyP ar (ACall P) tab md rm vars fn args ob K) : ACall P f args ob K := by
  have h := h std rfl
  unfold bodyP at h
  subst hn
  unfold bodyOk at hok
  obtain ⟨h1, h2⟩ := bif_and hok
  split at h
  · rename_i c hc
    rw [hc] at h1
    exact acall_of_body hM hT hf hc (by simpa using h2) h1 hk h
  · exact h.elim

end Go.TL

/- TlAI -/
namespace Go.TL
open Go

def zeroB : Value → V → Bool
  | .int k n, .t (.int k' n') => decide (k = k') && decide (n = n') && hasB k n
  | .bool b, .t (.bool b') => b == b'
  | .string s, .t (.str l) => s.size == 0 && l.isEmpty
  | .slice none 0 0, .nil => true
  | .func _ _ _, .any => true
  | .nilFunc, .any => true
  | _, _ => false
theorem zeroB_sound {v : Value} {x : V} (h : zeroB v x = true) : zeroR v x := by
  unfold zeroB at h
  split at h
  · simp only [Bool.and_eq_true, decide_eq_true_eq] at h
    obtain ⟨⟨rfl, rfl⟩, h⟩ := h
    exact ⟨rfl, rfl, hasB_sound h⟩
  · simpa [zeroR] using h
  · rename_i s l
    simp only [Bool.and_eq_true, beq_iff_eq, List.isEmpty_iff] at h
    obtain ⟨h1, rfl⟩ := h
    refine ⟨?_, h1⟩
    have : s.data.toList.length = 0 := by simpa using h1
    exact List.length_eq_zero_iff.1 this
  · trivial
  · trivial
  · trivial
  · cases h
def zerosB : List Value → List V → Bool
  | [], [] => true
  | v :: vs, x :: xs => zeroB v x && zerosB vs xs
  | _, _ => false
theorem zerosB_sound : ∀ {vs : List Value} {xs : List V}, zerosB vs xs = true → vs.length = xs.length ∧ ∀ (j : Nat) v x, vs[j]? = some v → xs[j]? = some x → zeroR v x
  | [], [], _ => ⟨rfl, by simp⟩
  | v :: vs, x :: xs, h => by
    simp only [zerosB, Bool.and_eq_true] at h
    obtain ⟨i1, i2⟩ := zerosB_sound h.2
    refine ⟨by simp [i1], fun j u y p q => ?_⟩
    cases j with
    | zero => simp at p q; subst p; subst q; exact zeroB_sound h.1
    | succ j => exact i2 j u y (by simpa using p) (by simpa using q)
  | [], _ :: _, h => by cases h
  | _ :: _, [], h => by cases h
def fieldsB (P : Program) : List Field → List (Nat × Nat) → Bool
  | [], [] => true
  | f :: r, (o, t) :: s => f.offset == o && f.type == t && !(P.cellsOf f.type == 0) && fieldsB P r s
  | _, _ => false
theorem fieldsB_sound {P : Program} : ∀ {l : List Field} {s : List (Nat × Nat)}, fieldsB P l s = true → l.map (fun f => (f.offset, f.type)) = s ∧ ∀ f, f ∈ l → P.cellsOf f.type ≠ 0
  | [], [], _ => ⟨rfl, by simp⟩
  | f :: r, (o, t) :: s, h => by
    simp only [fieldsB, Bool.and_eq_true, beq_iff_eq, Bool.not_eq_true', beq_eq_false_iff_ne] at h
    obtain ⟨⟨⟨rfl, rfl⟩, h3⟩, h4⟩ := h
    obtain ⟨i1, i2⟩ := fieldsB_sound h4
    refine ⟨by simp [i1], fun g hg => ?_⟩
    rcases List.mem_cons.1 hg with e | hg
    · subst e; exact h3
    · exact i2 g hg
  | [], _ :: _, h => by cases h
  | _ :: _, [], h => by cases h
def kdB (P : Program) : Kd → TypeDesc → Bool
  | .int k, .int k' => decide (k = k')
  | .bool, .bool => true
  | .str, .string => true
  | .slice e, .slice e' => e == e'
  | .struct fs, .struct a => fieldsB P a.toList fs
  | .array n e, .array n' e' => n == n' && e == e'
  | .tuple _, _ => true
  | .other, _ => true
  | _, _ => false
theorem kdB_sound {P : Program} {k : Kd} {d : TypeDesc} (h : kdB P k d = true) : kdR P k d := by
  unfold kdB at h
  split at h
  · simp only [decide_eq_true_eq] at h; subst h; rfl
  · rfl
  · rfl
  · simp only [beq_iff_eq] at h; subst h; rfl
  · rename_i fs a
    obtain ⟨h1, h2⟩ := fieldsB_sound h
    exact ⟨a, rfl, h1, h2⟩
  · simp only [Bool.and_eq_true, beq_iff_eq] at h; obtain ⟨rfl, rfl⟩ := h; rfl
  · trivial
  · trivial
  · cases h
def aggB : TypeDesc → Bool
  | .struct _ => true
  | .array _ _ => true
  | _ => false
def tiB (P : Program) (t : Nat) (ti : TI) : Bool :=
  (match P.info? t with
    | some i => i.size == ti.size && i.bytes == ti.bytes && (match ti.zero with
      | none => true
      | some z => (match i.zero with
        | some zv => zerosB zv.cells.toList z && z.length == ti.size
        | none => false))
    | none => false) &&
  (match P.underlying t with
    | some d => kdB P ti.kd d && ti.agg == aggB d
    | none => false) && (ti.agg || ti.size == 1) && decide (ti.size < 1000000)
theorem tiB_sound {P : Program} {t : Nat} {ti : TI} (h : tiB P t ti = true) : TIok P t ti := by
  simp only [tiB, Bool.and_eq_true] at h
  obtain ⟨⟨⟨h1, h2⟩, h3⟩, h4⟩ := h
  refine ⟨?_, ?_, fun ha => ?_, of_decide_eq_true h4⟩
  · split at h1
    · rename_i i hi
      simp only [Bool.and_eq_true, beq_iff_eq] at h1
      obtain ⟨⟨q1, q2⟩, q3⟩ := h1
      refine ⟨i, hi, q1, q2, fun z hz => ?_⟩
      rw [hz] at q3
      simp only at q3
      split at q3
      · rename_i zv hzv
        simp only [Bool.and_eq_true, beq_iff_eq] at q3
        obtain ⟨i1, i2⟩ := zerosB_sound q3.1
        exact ⟨zv, hzv, by simpa using i1, q3.2, fun j v x p q => i2 j v x (by simpa using p) q⟩
      · cases q3
    · cases h1
  · split at h2
    · rename_i d hd
      simp only [Bool.and_eq_true, beq_iff_eq] at h2
      refine ⟨d, hd, kdB_sound h2.1, ?_⟩
      rw [h2.2]
      cases d <;> rfl
    · cases h2
  · rw [ha] at h3; simpa using h3
def Tab.allB (f : Nat → TI → Bool) : Tab → Bool
  | .leaf => true
  | .node l k i r => f k i && l.allB f && r.allB f
theorem Tab.all_find {f : Nat → TI → Bool} {n : Nat} {ti : TI} : ∀ {t : Tab}, t.allB f = true → t.find n = some ti → f n ti = true
  | .leaf, _, h => by cases h
  | .node l k i r, ha, h => by
    simp only [Tab.allB, Bool.and_eq_true] at ha
    obtain ⟨⟨h1, h2⟩, h3⟩ := ha
    simp only [Tab.find] at h
    cases hb : eqB n k with
    | true =>
      rw [hb] at h
      injection h with h
      rw [eq_of_eqB hb, ← h]; exact h1
    | false =>
      rw [hb] at h
      cases hl : leB n k with
      | true => rw [hl] at h; exact Tab.all_find h2 h
      | false => rw [hl] at h; exact Tab.all_find h3 h
theorem tabOk_of {P : Program} {tab : Tab} (h : tab.allB (tiB P) = true) : TabOk P fun n => tab.find n := fun _ _ hf => tiB_sound (Tab.all_find h hf)

end Go.TL

/- TlAJ -/
namespace Go.TL
open Go

theorem std_iop {ar : Ar} (h : ar = std) (op : BinOp) (k : IntKind) (a b : Int) : ar.iop op k a b = iopS op k a b := by rw [h]; rfl
theorem std_icmp {ar : Ar} (h : ar = std) (op : BinOp) (a b : Int) : ar.icmp op a b = icmpS op a b := by rw [h]; rfl

/-- A branch. -/
theorem br_intro : ∀ {b : Bool} {X Y : Prop}, (b = true → X) → (b = false → Y) → (match b with | true => X | false => Y)
  | true, _, _, h1, _ => h1 rfl
  | false, _, _, _, h2 => h2 rfl

end Go.TL

/- TlAK -/
namespace Go.TL
open Go

section
variable {P : Program} {f : Nat} {args : List A} {ob : Obs} {K K' : A → Obs → Prop}

theorem call_intro (h : ACall P f args ob K) (hk : ∀ r ob', K r ob' → K' r ob') : CallP (ACall P) f args ob K' := ⟨h.mono hk⟩
theorem calld_intro {r : A} {ob' : Obs} (h : ACall P f args ob fun x y => x = r ∧ y = ob') (hk : K' r ob') : CallD (ACall P) f args ob K' := ⟨r, ob', h, hk⟩

/-- A contract out of what the kit says of a call. -/
theorem acall_calls {fn : Func} (hf : P.funcs[f]? = some fn) (hb : fn.body.isSome = true) (hn : fn.name ≠ "runtime.NumGoroutine")
    (h : ∀ (w : World) (ok : Nat → Prop) (hd : HF) (vs : List Value), Gl P w ok → ORel ok hd (look ob) w → vs.length = args.length → (∀ (i : Nat) v x, vs[i]? = some v → args[i]? = some x → AR w ok hd (look ob) v x) →
      Calls P f vs.toArray w fun e w' => ∃ v, e = .returned v ∧ ∃ ok' hd' r ob', K r ob' ∧ Ret ok hd (look ob) w ok' hd' (look ob') w' ∧ AR w' ok' hd' (look ob') v r) : ACall P f args ob K := by
  intro w ok hd vs G R hl ha o a next Qx hnext
  obtain ⟨c, hc⟩ := Option.isSome_iff_exists.1 hb
  have hrun : (callFunc f vs.toArray).run P w = .ok (.enter f vs.toArray) w := by
    simp [callFunc, hf, hn, hc]
  rw [hrun, Oper.upon_enter]
  refine (h w ok hd vs G R hl ha).mono ?_
  rintro e w' ⟨v, rfl, h⟩
  exact hnext v w' h
end

/-- What the kit is told of a call, out of a contract. -/
theorem calls_acall {P : Program} {f : Nat} {args : List A} {ob : Obs} {K : A → Obs → Prop} {fn : Func} (hf : P.funcs[f]? = some fn) (hb : fn.body.isSome = true) (hn : fn.name ≠ "runtime.NumGoroutine") (h : ACall P f args ob K)
    {w : World} {ok : Nat → Prop} {hd : HF} {vs : List Value} (G : Gl P w ok) (R : ORel ok hd (look ob) w) (hl : vs.length = args.length) (ha : ∀ (i : Nat) v x, vs[i]? = some v → args[i]? = some x → AR w ok hd (look ob) v x)
    {Q : Ending → World → Prop} (hQ : ∀ v w' ok' hd' r ob', K r ob' → Ret ok hd (look ob) w ok' hd' (look ob') w' → AR w' ok' hd' (look ob') v r → Q (.returned v) w') : Calls P f vs.toArray w Q := by
  obtain ⟨c, hc⟩ := Option.isSome_iff_exists.1 hb
  have hrun : (callFunc f vs.toArray).run P w = .ok (.enter f vs.toArray) w := by
    simp [callFunc, hf, hn, hc]
  have hc := h w ok hd vs G R hl ha { dst := some 0, op := .move (.const undef), type := 0, pos := default, after := #[], guard := none } ⟨#[undef], []⟩ (fun a w' => Q (.returned (a.tmps.getD 0 undef)) w') (fun _ _ _ => False)
    (fun v w' ⟨ok', hd', r, ob', h1, h2, h3⟩ => by simpa [Act.put] using hQ v w' ok' hd' r ob' h1 h2 h3)
  rw [hrun, Oper.upon_enter] at hc
  refine hc.mono ?_
  rintro e w' h
  match e, h with
  | .returned v, h => simpa [Act.put] using h
  | .panicked _, h => exact h.elim
  | .outgrown, ⟨_, _, h⟩ => exact h.elim
section
/-! Loops by what they turn. -/
/-- A state with what a loop turns. -/
def updS (s0 : St) (u : Tms × Obs) : St := ⟨puts s0.tm u.1, puts s0.ob u.2⟩
inductive LoopR (m : Nat) (ks : List Nat) (vl : List Vt) (body : St → (Exit → St → Prop) → Prop) (s0 : St) (K : Exit → St → Prop) : Prop where
  | mk (X : Type) (U : X → Tms × Obs) (φ : X → Prop) (μ : X → Nat) (x0 : X) (h0 : s0 = updS s0 (U x0)) (h1 : φ x0)
      (step : ∀ x, φ x → body (updS s0 (U x)) fun e s' => match e with
        | .normal => BackP m ks vl (fun x => updS s0 (U x)) φ μ x s'
        | .exit i => K (.exit i) s'
        | .ret => K .ret s'
        | _ => False)
def tkeys : Tms → List Nat
  | [] => []
  | (i, _) :: r => i :: tkeys r
def minus (ds : List Nat) : List Nat → List Nat
  | [] => []
  | i :: r => match memB i ds with
    | true => minus ds r
    | false => i :: minus ds r
def loopQ (m : Nat) (vl : List Vt) (body : St → (Exit → St → Prop) → Prop) (st : St) (K : Exit → St → Prop) (ks : List Nat) : Prop :=
  match nrm m ks vl st with
  | some s0 => LoopR m ks vl body s0 K
  | none => False
/-- A loop's head: its temporaries but for those that are named. -/
theorem loop_start (ds : List Nat) (vl : List Vt) {m : Nat} {body : St → (Exit → St → Prop) → Prop} {st : St} {K : Exit → St → Prop} (h : loopQ m vl body st K (minus ds (tkeys st.tm))) : LoopP m body st K := by
  unfold loopQ at h
  split at h
  · rename_i s0 h0
    obtain ⟨X, U, φ, μ, x0, e0, h1, step⟩ := h
    exact ⟨X, _, vl, fun x => updS s0 (U x), φ, μ, x0, by rw [h0, ← e0], h1, step⟩
  · exact h.elim
end
section
variable {P : Program} {f : Nat} {args : List A} {ob : Obs} {K : A → Obs → Prop}
/-- A contract of what is told of a function that has no text here. -/
theorem acall_extern {fn : Func} {e : Array Value → Sem Value} (hf : P.funcs[f]? = some fn) (hb : fn.body.isNone = true) (hn : fn.name ≠ "runtime.NumGoroutine") (h1 : Extern.findNext fn = none) (h2 : Extern.find fn = some e)
    (h : ∀ (w : World) (ok : Nat → Prop) (hd : HF) (vs : List Value), ORel ok hd (look ob) w → vs.length = args.length → (∀ (i : Nat) v x, vs[i]? = some v → args[i]? = some x → AR w ok hd (look ob) v x) →
      ∃ v r, (e vs.toArray).run P w = .ok v w ∧ K r ob ∧ AR w ok hd (look ob) v r) : ACall P f args ob K := by
  intro w ok hd vs G R hl ha o a next Qx hnext
  obtain ⟨v, r, hr, hk, hv⟩ := h w ok hd vs R hl ha
  have hrun : (callFunc f vs.toArray).run P w = .ok (.value v) w := by
    have hb2 : fn.body = none := by simpa using hb
    simp [callFunc, hf, hn, hb2, h1, h2, hr]
  rw [hrun]
  exact hnext v w ⟨ok, hd, r, ob, hk, ⟨R, rfl, rfl, rfl, Nat.le_refl _, fun b hb hx => rfl, fun b hb => hb, fun b hb => .inl hb, fun n b hn hb => .inr ⟨n, hn, hb⟩, Keep.refl _ _⟩, hv⟩
end

end Go.TL

/- TlAL -/
namespace Go.TL
open Go

variable {P : Program} {f : Nat} {args : List A} {ob : Obs}

/-- There is one outcome, of which something is known. -/
def DCall (P : Program) (f : Nat) (args : List A) (ob : Obs) (Φ : A → Obs → Prop) : Prop := ∃ r o, Φ r o ∧ ACall P f args ob fun x y => x = r ∧ y = o
theorem DCall.acall {Φ : A → Obs → Prop} (h : DCall P f args ob Φ) : ACall P f args ob Φ := by
  obtain ⟨r, o, h1, h2⟩ := h
  exact h2.mono fun x y ⟨e1, e2⟩ => e1 ▸ e2 ▸ h1
theorem DCall.mono {Φ Ψ : A → Obs → Prop} (h : DCall P f args ob Φ) (k : ∀ r o, Φ r o → Ψ r o) : DCall P f args ob Ψ := let ⟨r, o, h1, h2⟩ := h; ⟨r, o, k r o h1, h2⟩
theorem ACall.pure {r : A} {o : Obs} (h : ACall P f args ob fun x y => x = r ∧ y = o) : DCall P f args ob fun x y => x = r ∧ y = o := ⟨r, o, ⟨rfl, rfl⟩, h⟩
theorem calld_det {Φ K : A → Obs → Prop} (h : DCall P f args ob Φ) (hk : ∀ r o, Φ r o → K r o) : CallD (ACall P) f args ob K := let ⟨r, o, h1, h2⟩ := h; ⟨r, o, h2, hk r o h1⟩

section
variable {α : Type} {Φ : α → Prop} {F F' X Y : (α → Prop) → Prop}
/-- A statement about what comes out: one thing does, of which something is known. -/
def Dt (Φ : α → Prop) (F : (α → Prop) → Prop) : Prop := ∃ a, Φ a ∧ ∀ Q : α → Prop, Q a → F Q
theorem dt_eval (e : ∀ Q, F' Q → F Q) (h : Dt Φ F') : Dt Φ F := let ⟨a, h1, h2⟩ := h; ⟨a, h1, fun Q q => e Q (h2 Q q)⟩
theorem dt_ar {G : Ar → (α → Prop) → Prop} (h : ∀ ar, ar = std → Dt Φ (G ar)) : Dt Φ (fun Q => ∀ ar, ar = std → G ar Q) :=
  let ⟨a, h1, h2⟩ := h std rfl; ⟨a, h1, fun Q q _ e => e ▸ h2 Q q⟩
theorem dt_br : ∀ {b : Bool}, (b = true → Dt Φ X) → (b = false → Dt Φ Y) → Dt Φ (fun Q => match b with | true => X Q | false => Y Q)
  | true, h, _ => h rfl
  | false, _, h => h rfl
theorem dt_fact {c : Prop} (h : Dt Φ X) : Dt Φ (fun Q => c → X Q) := let ⟨a, h1, h2⟩ := h; ⟨a, h1, fun Q q _ => h2 Q q⟩
theorem dt_and {c : Prop} (h : c) (k : Dt Φ X) : Dt Φ (fun Q => c ∧ X Q) := let ⟨a, h1, h2⟩ := k; ⟨a, h1, fun Q q => ⟨h, h2 Q q⟩⟩
theorem dt_chk {c : Unit → Bool} (h : c () = true) (k : Dt Φ X) : Dt Φ (fun Q => ChkP c (X Q)) := let ⟨a, h1, h2⟩ := k; ⟨a, h1, fun Q q => ⟨h, h2 Q q⟩⟩
theorem dt_get {ar : Ar} {es : List (List T)} {i : Int} {v : List T} {k : List T → (α → Prop) → Prop} (h : ar.inb i es) (e : ar.get es i = v) (hk : Dt Φ (k v)) : Dt Φ (fun Q => GetP ar es i fun x => k x Q) := by
  subst e
  obtain ⟨a, h1, h2⟩ := hk
  exact ⟨a, h1, fun Q q => ⟨h, h2 Q q⟩⟩
theorem dt_bytes {es : List (List T)} {l : List UInt8} {k : List UInt8 → (α → Prop) → Prop} (h : encB l = es) (hk : Dt Φ (k l)) : Dt Φ (fun Q => BytesP es fun x => k x Q) :=
  let ⟨a, h1, h2⟩ := hk; ⟨a, h1, fun Q q => ⟨l, h.symm, h2 Q q⟩⟩
theorem dt_call {Ψ : A → Obs → Prop} {k : A → Obs → (α → Prop) → Prop} (h : DCall P f args ob Ψ) (hk : ∀ r o, Ψ r o → Dt Φ (k r o)) : Dt Φ (fun Q => CallP (ACall P) f args ob fun r o => k r o Q) := by
  obtain ⟨r, o, g1, g2⟩ := h
  obtain ⟨a, h1, h2⟩ := hk r o g1
  exact ⟨a, h1, fun Q q => ⟨g2.mono fun x y ⟨e1, e2⟩ => e1 ▸ e2 ▸ h2 Q q⟩⟩
theorem dt_calld {Ψ : A → Obs → Prop} {k : A → Obs → (α → Prop) → Prop} (h : DCall P f args ob Ψ) (hk : ∀ r o, Ψ r o → Dt Φ (k r o)) : Dt Φ (fun Q => CallD (ACall P) f args ob fun r o => k r o Q) := by
  obtain ⟨r, o, g1, g2⟩ := h
  obtain ⟨a, h1, h2⟩ := hk r o g1
  exact ⟨a, h1, fun Q q => ⟨r, o, g2, h2 Q q⟩⟩
theorem dt_ret {g : A → Obs → α} {r : A} {o : Obs} (h : Φ (g r o)) : Dt Φ (fun Q => RetP (fun x y => Q (g x y)) r o) := ⟨_, h, fun _ q => ⟨q⟩⟩
theorem dt_acall {Φ : A → Obs → Prop} (h : Dt (fun p => Φ p.1 p.2) fun Q => ACall P f args ob fun r o => Q (r, o)) : DCall P f args ob Φ := by
  obtain ⟨⟨r, o⟩, h1, h2⟩ := h
  exact ⟨r, o, h1, (h2 (fun p => p = (r, o)) rfl).mono fun x y e => by injection e with e1 e2; exact ⟨e1, e2⟩⟩

/-! Loops, each round of which has one outcome: a state at the head, or what is handed back. -/
inductive BackR (k : St → Prop) (s : St) : Prop where
  | mk (h : k s)
theorem backR_eq (k : St → Prop) (s : St) : BackR k s = k s := propext ⟨fun ⟨h⟩ => h, fun h => ⟨h⟩⟩
/-- What a loop's body is asked. -/
def bodyD (body : St → (Exit → St → Prop) → Prop) (s : St) (Kf : (α → Prop) → Exit → St → Prop) (Q : α ⊕ St → Prop) : Prop :=
  body s fun e s' => match e with
    | .normal => BackR (fun s => Q (.inr s)) s'
    | .exit i => Kf (fun p => Q (.inl p)) (.exit i) s'
    | .ret => Kf (fun p => Q (.inl p)) .ret s'
    | _ => False
abbrev sumP {α : Type} (Φ : α → Prop) (p : St → Prop) : α ⊕ St → Prop
  | .inl a => Φ a
  | .inr x => p x
theorem dt_back {g : St → α} {s : St} (h : Φ (g s)) : Dt Φ (fun Q => BackR (fun s => Q (g s)) s) := ⟨_, h, fun _ q => ⟨q⟩⟩
theorem dt_loop {X : Type} {m : Nat} {body : St → (Exit → St → Prop) → Prop} {st : St} {Kf : (α → Prop) → Exit → St → Prop} (ks : List Nat) (vl : List Vt) (U : X → St) (φ : X → Prop) (μ : X → Nat) (x0 : X)
    (h0 : nrm m ks vl st = some (U x0)) (h1 : φ x0) (step : ∀ x, φ x → Dt (sumP Φ fun s => ∃ x', nrm m ks vl s = some (U x') ∧ φ x' ∧ μ x' < μ x) (bodyD body (U x) Kf)) : Dt Φ (fun Q => LoopP m body st (Kf Q)) := by
  have key : ∀ n x, μ x < n → φ x → ∃ a, Φ a ∧ ∀ Q : α → Prop, Q a → ∃ (Y : Type) (S : Y → St) (ψ : Y → Prop) (ν : Y → Nat) (y0 : Y), S y0 = U x ∧ ψ y0 ∧ ∀ y, ψ y → body (S y) fun e s' => match e with
      | .normal => BackP m ks vl S ψ ν y s'
      | .exit i => Kf Q (.exit i) s'
      | .ret => Kf Q .ret s'
      | _ => False := by
    intro n
    induction n with
    | zero => intro x h; omega
    | succ n ih =>
      intro x hn hx
      obtain ⟨o, ho, hF⟩ := step x hx
      cases o with
      | inl a =>
        refine ⟨a, ho, fun Q q => ⟨Unit, fun _ => U x, fun _ => True, fun _ => 0, (), rfl, trivial, fun y _ => ?_⟩⟩
        have h := hF (fun | .inl p => Q p | .inr s => BackP m ks vl (fun _ : Unit => U x) (fun _ => True) (fun _ => 0) () s) q
        unfold bodyD at h
        simp only [backR_eq] at h
        exact h
      | inr s =>
        obtain ⟨x', e1, e2, e3⟩ := ho
        obtain ⟨a, ha, hQ⟩ := ih x' (by omega) e2
        refine ⟨a, ha, fun Q q => ?_⟩
        obtain ⟨Y, S, ψ, ν, y0, g1, g2, g3⟩ := hQ Q q
        let S2 : Option Y → St := fun | none => U x | some y => S y
        let ψ2 : Option Y → Prop := fun | none => True | some y => ψ y ∧ ν y ≤ ν y0
        let ν2 : Option Y → Nat := fun | none => ν y0 + 1 | some y => ν y
        refine ⟨Option Y, S2, ψ2, ν2, none, rfl, trivial, fun y hy => ?_⟩
        cases y with
        | none =>
          have h := hF (fun | .inl p => Q p | .inr s => BackP m ks vl S2 ψ2 ν2 none s) ⟨some y0, by rw [e1, ← g1], ⟨g2, Nat.le_refl _⟩, Nat.lt_succ_self _⟩
          unfold bodyD at h
          simp only [backR_eq] at h
          exact h
        | some y =>
          have h := g3 y hy.1
          have e : (fun (e : Exit) (s' : St) => match e with
              | .normal => BackP m ks vl S ψ ν y s'
              | .exit i => Kf Q (.exit i) s'
              | .ret => Kf Q .ret s'
              | _ => False) = fun e s' => match e with
              | .normal => BackP m ks vl S2 ψ2 ν2 (some y) s'
              | .exit i => Kf Q (.exit i) s'
              | .ret => Kf Q .ret s'
              | _ => False := by
            funext e s'
            cases e with
            | normal => exact propext ⟨fun ⟨x', p1, p2, p3⟩ => ⟨some x', p1, ⟨p2, Nat.le_trans (Nat.le_of_lt p3) hy.2⟩, p3⟩, fun ⟨x', p1, p2, p3⟩ => by
                cases x' with
                | some z => exact ⟨z, p1, p2.1, p3⟩
                | none => exact absurd (Nat.lt_of_lt_of_le p3 hy.2) (by show ¬ ν y0 + 1 < ν y0; omega)⟩
            | _ => rfl
          rw [← e]; exact h
  obtain ⟨a, ha, hQ⟩ := key (μ x0 + 1) x0 (Nat.lt_succ_self _) h1
  refine ⟨a, ha, fun Q q => ?_⟩
  obtain ⟨Y, S, ψ, ν, y0, g1, g2, g3⟩ := hQ Q q
  exact ⟨Y, ks, vl, S, ψ, ν, y0, by rw [h0, g1], g2, g3⟩
inductive LoopDR {α : Type} (Φ : α → Prop) (m : Nat) (ks : List Nat) (vl : List Vt) (body : St → (Exit → St → Prop) → Prop) (s0 : St) (Kf : (α → Prop) → Exit → St → Prop) : Prop where
  | mk (X : Type) (U : X → Tms × Obs) (φ : X → Prop) (μ : X → Nat) (x0 : X) (h0 : s0 = updS s0 (U x0)) (h1 : φ x0)
      (step : ∀ x, φ x → Dt (sumP Φ fun s => ∃ x', nrm m ks vl s = some (updS s0 (U x')) ∧ φ x' ∧ μ x' < μ x) (bodyD body (updS s0 (U x)) Kf))
def loopDQ {α : Type} (Φ : α → Prop) (m : Nat) (vl : List Vt) (body : St → (Exit → St → Prop) → Prop) (st : St) (Kf : (α → Prop) → Exit → St → Prop) (ks : List Nat) : Prop :=
  match nrm m ks vl st with
  | some s0 => LoopDR Φ m ks vl body s0 Kf
  | none => False
theorem dt_loop_start (ds : List Nat) (vl : List Vt) {m : Nat} {body : St → (Exit → St → Prop) → Prop} {st : St} {Kf : (α → Prop) → Exit → St → Prop} (h : loopDQ Φ m vl body st Kf (minus ds (tkeys st.tm))) : Dt Φ (fun Q => LoopP m body st (Kf Q)) := by
  unfold loopDQ at h
  split at h
  · rename_i s0 h0
    obtain ⟨X, U, φ, μ, x0, e0, h1, step⟩ := h
    exact dt_loop _ vl (fun x => updS s0 (U x)) φ μ x0 (by rw [h0, ← e0]) h1 step
  · exact h.elim
end
end Go.TL

/- TlTab -/
namespace Go.TL.Tryz
open Go Go.TL
def tab : Tab := (.node (.node (.node (.node (.node (.node (.node (.node .leaf 0 ⟨.tuple [], 1, false, 0, none⟩ .leaf) 1 ⟨.other, 1, false, 8, some [.any]⟩ (.node .leaf 2 ⟨.int .i64, 1, false, 8, some [.t (.int .i64 0)]⟩ .leaf)) 3 ⟨.int .i64, 1, false, 8, some [.t (.int .i64 0)]⟩ (.node (.node .leaf 4 ⟨.bool, 1, false, 1, some [.t (.bool false)]⟩ .leaf) 5 ⟨.int .u8, 1, false, 1, some [.t (.int .u8 0)]⟩ .leaf)) 6 ⟨.int .u8, 1, false, 1, some [.t (.int .u8 0)]⟩ (.node (.node (.node .leaf 7 ⟨.struct [(0, 2), (1, 3), (2, 4), (3, 6)], 4, true, 24, some [.t (.int .i64 0), .t (.int .i64 0), .t (.bool false), .t (.int .u8 0)]⟩ .leaf) 8 ⟨.struct [(0, 2), (1, 3), (2, 4), (3, 6)], 4, true, 24, some [.t (.int .i64 0), .t (.int .i64 0), .t (.bool false), .t (.int .u8 0)]⟩ .leaf) 9 ⟨.str, 1, false, 16, some [.t (.str [])]⟩ (.node (.node .leaf 10 ⟨.str, 1, false, 16, some [.t (.str [])]⟩ .leaf) 11 ⟨.str, 1, false, 16, some [.t (.str [])]⟩ .leaf))) 12 ⟨.int .u64, 1, false, 8, some [.t (.int .u64 0)]⟩ (.node (.node (.node (.node .leaf 13 ⟨.struct [(0, 9), (1, 12)], 2, true, 24, some [.t (.str []), .t (.int .u64 0)]⟩ .leaf) 14 ⟨.struct [(0, 9), (1, 12)], 2, true, 24, some [.t (.str []), .t (.int .u64 0)]⟩ .leaf) 15 ⟨.other, 1, false, 8, none⟩ (.node (.node .leaf 16 ⟨.other, 1, false, 8, none⟩ .leaf) 17 ⟨.other, 1, false, 8, none⟩ .leaf)) 18 ⟨.struct [(0, 17)], 1, true, 8, none⟩ (.node (.node (.node .leaf 19 ⟨.struct [(0, 17)], 1, true, 8, none⟩ .leaf) 21 ⟨.int .i32, 1, false, 4, some [.t (.int .i32 0)]⟩ .leaf) 22 ⟨.slice 43, 1, false, 24, some [.nil]⟩ (.node (.node .leaf 23 ⟨.struct [(0, 22)], 1, true, 24, some [.nil]⟩ .leaf) 24 ⟨.struct [(0, 22)], 1, true, 24, some [.nil]⟩ .leaf)))) 25 ⟨.slice 112, 1, false, 24, some [.nil]⟩ (.node (.node (.node (.node (.node .leaf 26 ⟨.struct [(0, 24), (1, 25)], 2, true, 48, some [.nil, .nil]⟩ .leaf) 27 ⟨.struct [(0, 24), (1, 25)], 2, true, 48, some [.nil, .nil]⟩ .leaf) 28 ⟨.slice 81, 1, false, 24, some [.nil]⟩ (.node (.node .leaf 29 ⟨.struct [(0, 3), (1, 27), (3, 27), (5, 28)], 6, true, 128, some [.t (.int .i64 0), .nil, .nil, .nil, .nil, .nil]⟩ .leaf) 30 ⟨.struct [(0, 3), (1, 27), (3, 27), (5, 28)], 6, true, 128, some [.t (.int .i64 0), .nil, .nil, .nil, .nil, .nil]⟩ .leaf)) 31 ⟨.other, 1, false, 8, some [.any]⟩ (.node (.node (.node .leaf 32 ⟨.other, 1, false, 8, some [.any]⟩ .leaf) 33 ⟨.struct [(0, 22)], 1, true, 24, some [.nil]⟩ .leaf) 34 ⟨.slice 61, 1, false, 24, some [.nil]⟩ (.node (.node .leaf 35 ⟨.struct [(0, 33), (1, 34)], 2, true, 48, some [.nil, .nil]⟩ .leaf) 36 ⟨.struct [(0, 33), (1, 34)], 2, true, 48, some [.nil, .nil]⟩ .leaf))) 37 ⟨.slice 45, 1, false, 24, some [.nil]⟩ (.node (.node (.node (.node .leaf 38 ⟨.struct [(0, 3), (1, 36), (3, 36), (5, 37)], 6, true, 128, some [.t (.int .i64 0), .nil, .nil, .nil, .nil, .nil]⟩ .leaf) 39 ⟨.struct [(0, 3), (1, 36), (3, 36), (5, 37)], 6, true, 128, some [.t (.int .i64 0), .nil, .nil, .nil, .nil, .nil]⟩ .leaf) 40 ⟨.other, 1, false, 8, some [.any]⟩ (.node (.node .leaf 41 ⟨.other, 1, false, 8, some [.any]⟩ .leaf) 42 ⟨.other, 1, false, 8, some [.any]⟩ .leaf)) 43 ⟨.slice 5, 1, false, 24, some [.nil]⟩ (.node (.node (.node .leaf 44 ⟨.struct [(0, 3), (1, 43), (2, 43), (3, 3), (4, 4)], 5, true, 72, some [.t (.int .i64 0), .nil, .nil, .t (.int .i64 0), .t (.bool false)]⟩ .leaf) 45 ⟨.struct [(0, 3), (1, 43), (2, 43), (3, 3), (4, 4)], 5, true, 72, some [.t (.int .i64 0), .nil, .nil, .t (.int .i64 0), .t (.bool false)]⟩ .leaf) 46 ⟨.tuple [45, 4], 1, false, 0, none⟩ (.node (.node .leaf 47 ⟨.other, 1, false, 8, some [.any]⟩ .leaf) 48 ⟨.other, 1, false, 8, some [.any]⟩ .leaf))))) 49 ⟨.other, 1, false, 8, some [.any]⟩ (.node (.node (.node (.node (.node (.node .leaf 50 ⟨.other, 1, false, 8, some [.any]⟩ .leaf) 51 ⟨.other, 1, false, 8, some [.any]⟩ (.node .leaf 52 ⟨.other, 1, false, 8, some [.any]⟩ .leaf)) 53 ⟨.other, 1, false, 8, some [.any]⟩ (.node (.node .leaf 54 ⟨.other, 1, false, 8, some [.any]⟩ .leaf) 55 ⟨.other, 1, false, 8, some [.any]⟩ .leaf)) 56 ⟨.other, 1, false, 8, some [.any]⟩ (.node (.node (.node .leaf 57 ⟨.other, 1, false, 8, some [.any]⟩ .leaf) 58 ⟨.other, 1, false, 8, some [.any]⟩ .leaf) 59 ⟨.slice 3, 1, false, 24, some [.nil]⟩ (.node (.node .leaf 60 ⟨.struct [(0, 33), (1, 3), (2, 3), (3, 3), (4, 33), (5, 43), (6, 59)], 7, true, 120, some [.nil, .t (.int .i64 0), .t (.int .i64 0), .t (.int .i64 0), .nil, .nil, .nil]⟩ .leaf) 61 ⟨.struct [(0, 33), (1, 3), (2, 3), (3, 3), (4, 33), (5, 43), (6, 59)], 7, true, 120, some [.nil, .t (.int .i64 0), .t (.int .i64 0), .t (.int .i64 0), .nil, .nil, .nil]⟩ .leaf))) 62 ⟨.other, 1, false, 8, some [.any]⟩ (.node (.node (.node (.node .leaf 63 ⟨.other, 1, false, 8, some [.any]⟩ .leaf) 64 ⟨.other, 1, false, 8, some [.any]⟩ .leaf) 65 ⟨.other, 1, false, 8, some [.any]⟩ (.node (.node .leaf 66 ⟨.other, 1, false, 8, some [.any]⟩ .leaf) 67 ⟨.other, 1, false, 8, some [.any]⟩ .leaf)) 68 ⟨.other, 1, false, 8, some [.any]⟩ (.node (.node (.node .leaf 69 ⟨.other, 1, false, 8, some [.any]⟩ .leaf) 70 ⟨.other, 1, false, 8, some [.any]⟩ .leaf) 71 ⟨.other, 1, false, 8, some [.any]⟩ (.node (.node .leaf 72 ⟨.other, 1, false, 8, some [.any]⟩ .leaf) 73 ⟨.other, 1, false, 8, some [.any]⟩ .leaf)))) 74 ⟨.other, 1, false, 8, some [.any]⟩ (.node (.node (.node (.node (.node .leaf 75 ⟨.other, 1, false, 8, some [.any]⟩ .leaf) 76 ⟨.other, 1, false, 8, some [.any]⟩ .leaf) 77 ⟨.other, 1, false, 8, some [.any]⟩ (.node (.node .leaf 78 ⟨.other, 1, false, 8, some [.any]⟩ .leaf) 79 ⟨.other, 1, false, 8, some [.any]⟩ .leaf)) 80 ⟨.other, 1, false, 8, some [.any]⟩ (.node (.node (.node .leaf 81 ⟨.struct [(0, 3), (1, 43), (2, 43), (3, 3), (4, 4)], 5, true, 72, some [.t (.int .i64 0), .nil, .nil, .t (.int .i64 0), .t (.bool false)]⟩ .leaf) 82 ⟨.other, 1, false, 8, some [.any]⟩ .leaf) 83 ⟨.other, 1, false, 8, some [.any]⟩ (.node (.node .leaf 84 ⟨.other, 1, false, 8, some [.any]⟩ .leaf) 85 ⟨.other, 1, false, 8, some [.any]⟩ .leaf))) 86 ⟨.other, 1, false, 8, some [.any]⟩ (.node (.node (.node (.node .leaf 87 ⟨.other, 1, false, 8, some [.any]⟩ .leaf) 88 ⟨.other, 1, false, 8, some [.any]⟩ .leaf) 89 ⟨.other, 1, false, 8, some [.any]⟩ (.node (.node .leaf 90 ⟨.other, 1, false, 8, some [.any]⟩ .leaf) 91 ⟨.other, 1, false, 8, some [.any]⟩ .leaf)) 92 ⟨.other, 1, false, 8, some [.any]⟩ (.node (.node (.node .leaf 93 ⟨.other, 1, false, 8, some [.any]⟩ .leaf) 94 ⟨.other, 1, false, 8, some [.any]⟩ .leaf) 95 ⟨.other, 1, false, 8, some [.any]⟩ (.node (.node .leaf 96 ⟨.other, 1, false, 8, some [.any]⟩ .leaf) 97 ⟨.other, 1, false, 8, some [.any]⟩ .leaf)))))) 98 ⟨.other, 1, false, 8, some [.any]⟩ (.node (.node (.node (.node (.node (.node (.node .leaf 99 ⟨.other, 1, false, 8, some [.any]⟩ .leaf) 100 ⟨.other, 1, false, 8, some [.any]⟩ (.node .leaf 101 ⟨.other, 1, false, 8, some [.any]⟩ .leaf)) 102 ⟨.other, 1, false, 8, some [.any]⟩ (.node (.node .leaf 103 ⟨.other, 1, false, 8, some [.any]⟩ .leaf) 104 ⟨.other, 1, false, 8, some [.any]⟩ .leaf)) 105 ⟨.other, 1, false, 8, some [.any]⟩ (.node (.node (.node .leaf 106 ⟨.other, 1, false, 8, some [.any]⟩ .leaf) 107 ⟨.other, 1, false, 8, some [.any]⟩ .leaf) 108 ⟨.other, 1, false, 8, some [.any]⟩ (.node (.node .leaf 109 ⟨.other, 1, false, 8, some [.any]⟩ .leaf) 110 ⟨.other, 1, false, 8, some [.any]⟩ .leaf))) 111 ⟨.struct [(0, 24), (1, 3), (2, 3), (3, 3), (4, 24), (5, 43), (6, 59)], 7, true, 120, some [.nil, .t (.int .i64 0), .t (.int .i64 0), .t (.int .i64 0), .nil, .nil, .nil]⟩ (.node (.node (.node (.node .leaf 112 ⟨.struct [(0, 24), (1, 3), (2, 3), (3, 3), (4, 24), (5, 43), (6, 59)], 7, true, 120, some [.nil, .t (.int .i64 0), .t (.int .i64 0), .t (.int .i64 0), .nil, .nil, .nil]⟩ .leaf) 113 ⟨.other, 1, false, 8, some [.any]⟩ .leaf) 114 ⟨.other, 1, false, 8, some [.any]⟩ (.node (.node .leaf 115 ⟨.tuple [33, 4], 1, false, 0, none⟩ .leaf) 116 ⟨.other, 1, false, 8, some [.any]⟩ .leaf)) 117 ⟨.other, 1, false, 8, some [.any]⟩ (.node (.node (.node .leaf 118 ⟨.other, 1, false, 8, some [.any]⟩ .leaf) 119 ⟨.other, 1, false, 8, some [.any]⟩ .leaf) 120 ⟨.other, 1, false, 8, some [.any]⟩ (.node (.node .leaf 121 ⟨.other, 1, false, 8, some [.any]⟩ .leaf) 122 ⟨.other, 1, false, 8, some [.any]⟩ .leaf)))) 123 ⟨.other, 1, false, 8, some [.any]⟩ (.node (.node (.node (.node (.node .leaf 124 ⟨.other, 1, false, 8, some [.any]⟩ .leaf) 125 ⟨.slice 9, 1, false, 24, some [.nil]⟩ .leaf) 126 ⟨.other, 1, false, 8, some [.any]⟩ (.node (.node .leaf 127 ⟨.other, 1, false, 8, some [.any]⟩ .leaf) 128 ⟨.other, 1, false, 8, some [.any]⟩ .leaf)) 129 ⟨.other, 1, false, 8, some [.any]⟩ (.node (.node (.node .leaf 130 ⟨.other, 1, false, 8, some [.any]⟩ .leaf) 131 ⟨.other, 1, false, 8, some [.any]⟩ .leaf) 132 ⟨.other, 1, false, 8, some [.any]⟩ (.node (.node .leaf 133 ⟨.other, 1, false, 8, some [.any]⟩ .leaf) 134 ⟨.other, 1, false, 8, some [.any]⟩ .leaf))) 135 ⟨.other, 1, false, 8, some [.any]⟩ (.node (.node (.node (.node .leaf 136 ⟨.other, 1, false, 8, some [.any]⟩ .leaf) 137 ⟨.other, 1, false, 8, some [.any]⟩ .leaf) 138 ⟨.int .u32, 1, false, 4, some [.t (.int .u32 0)]⟩ (.node (.node .leaf 139 ⟨.array 8 138, 8, true, 32, some [.t (.int .u32 0), .t (.int .u32 0), .t (.int .u32 0), .t (.int .u32 0), .t (.int .u32 0), .t (.int .u32 0), .t (.int .u32 0), .t (.int .u32 0)]⟩ .leaf) 140 ⟨.other, 1, false, 8, some [.any]⟩ .leaf)) 141 ⟨.other, 1, false, 8, some [.any]⟩ (.node (.node (.node .leaf 142 ⟨.int .u64, 1, false, 8, some [.t (.int .u64 0)]⟩ .leaf) 143 ⟨.other, 1, false, 8, some [.any]⟩ .leaf) 144 ⟨.other, 1, false, 8, some [.any]⟩ (.node (.node .leaf 145 ⟨.other, 1, false, 8, none⟩ .leaf) 146 ⟨.slice 138, 1, false, 24, some [.nil]⟩ .leaf))))) 147 ⟨.struct [(0, 146), (1, 139)], 9, true, 56, some [.nil, .t (.int .u32 0), .t (.int .u32 0), .t (.int .u32 0), .t (.int .u32 0), .t (.int .u32 0), .t (.int .u32 0), .t (.int .u32 0), .t (.int .u32 0)]⟩ (.node (.node (.node (.node (.node (.node .leaf 148 ⟨.struct [(0, 146), (1, 139)], 9, true, 56, some [.nil, .t (.int .u32 0), .t (.int .u32 0), .t (.int .u32 0), .t (.int .u32 0), .t (.int .u32 0), .t (.int .u32 0), .t (.int .u32 0), .t (.int .u32 0)]⟩ .leaf) 149 ⟨.slice 151, 1, false, 24, some [.nil]⟩ (.node .leaf 150 ⟨.other, 1, false, 8, some [.any]⟩ .leaf)) 151 ⟨.int .u64, 1, false, 8, some [.t (.int .u64 0)]⟩ (.node (.node .leaf 152 ⟨.other, 1, false, 8, some [.any]⟩ .leaf) 153 ⟨.other, 1, false, 8, some [.any]⟩ .leaf)) 154 ⟨.other, 1, false, 8, some [.any]⟩ (.node (.node (.node .leaf 155 ⟨.other, 1, false, 8, some [.any]⟩ .leaf) 156 ⟨.array 64 138, 64, true, 256, some [.t (.int .u32 0), .t (.int .u32 0), .t (.int .u32 0), .t (.int .u32 0), .t (.int .u32 0), .t (.int .u32 0), .t (.int .u32 0), .t (.int .u32 0), .t (.int .u32 0), .t (.int .u32 0), .t (.int .u32 0), .t (.int .u32 0), .t (.int .u32 0), .t (.int .u32 0), .t (.int .u32 0), .t (.int .u32 0), .t (.int .u32 0), .t (.int .u32 0), .t (.int .u32 0), .t (.int .u32 0), .t (.int .u32 0), .t (.int .u32 0), .t (.int .u32 0), .t (.int .u32 0), .t (.int .u32 0), .t (.int .u32 0), .t (.int .u32 0), .t (.int .u32 0), .t (.int .u32 0), .t (.int .u32 0), .t (.int .u32 0), .t (.int .u32 0), .t (.int .u32 0), .t (.int .u32 0), .t (.int .u32 0), .t (.int .u32 0), .t (.int .u32 0), .t (.int .u32 0), .t (.int .u32 0), .t (.int .u32 0), .t (.int .u32 0), .t (.int .u32 0), .t (.int .u32 0), .t (.int .u32 0), .t (.int .u32 0), .t (.int .u32 0), .t (.int .u32 0), .t (.int .u32 0), .t (.int .u32 0), .t (.int .u32 0), .t (.int .u32 0), .t (.int .u32 0), .t (.int .u32 0), .t (.int .u32 0), .t (.int .u32 0), .t (.int .u32 0), .t (.int .u32 0), .t (.int .u32 0), .t (.int .u32 0), .t (.int .u32 0), .t (.int .u32 0), .t (.int .u32 0), .t (.int .u32 0), .t (.int .u32 0)]⟩ .leaf) 157 ⟨.other, 1, false, 8, some [.any]⟩ (.node (.node .leaf 158 ⟨.other, 1, false, 8, some [.any]⟩ .leaf) 159 ⟨.other, 1, false, 8, some [.any]⟩ .leaf))) 161 ⟨.other, 1, false, 8, some [.any]⟩ (.node (.node (.node (.node .leaf 162 ⟨.other, 1, false, 8, some [.any]⟩ .leaf) 163 ⟨.other, 1, false, 8, some [.any]⟩ .leaf) 164 ⟨.other, 1, false, 8, some [.any]⟩ (.node (.node .leaf 165 ⟨.tuple [3, 3], 1, false, 0, none⟩ .leaf) 166 ⟨.other, 1, false, 8, some [.any]⟩ .leaf)) 167 ⟨.other, 1, false, 8, some [.any]⟩ (.node (.node (.node .leaf 168 ⟨.tuple [151, 151], 1, false, 0, none⟩ .leaf) 169 ⟨.other, 1, false, 8, some [.any]⟩ .leaf) 170 ⟨.other, 1, false, 8, some [.any]⟩ (.node (.node .leaf 171 ⟨.other, 1, false, 8, some [.any]⟩ .leaf) 172 ⟨.array 24 5, 24, true, 24, some [.t (.int .u8 0), .t (.int .u8 0), .t (.int .u8 0), .t (.int .u8 0), .t (.int .u8 0), .t (.int .u8 0), .t (.int .u8 0), .t (.int .u8 0), .t (.int .u8 0), .t (.int .u8 0), .t (.int .u8 0), .t (.int .u8 0), .t (.int .u8 0), .t (.int .u8 0), .t (.int .u8 0), .t (.int .u8 0), .t (.int .u8 0), .t (.int .u8 0), .t (.int .u8 0), .t (.int .u8 0), .t (.int .u8 0), .t (.int .u8 0), .t (.int .u8 0), .t (.int .u8 0)]⟩ .leaf)))) 173 ⟨.other, 1, false, 8, some [.any]⟩ (.node (.node (.node (.node (.node .leaf 174 ⟨.other, 1, false, 8, some [.any]⟩ .leaf) 175 ⟨.tuple [43, 9], 1, false, 0, none⟩ .leaf) 176 ⟨.other, 1, false, 8, some [.any]⟩ (.node (.node .leaf 177 ⟨.other, 1, false, 8, some [.any]⟩ .leaf) 178 ⟨.array 20 151, 20, true, 160, some [.t (.int .u64 0), .t (.int .u64 0), .t (.int .u64 0), .t (.int .u64 0), .t (.int .u64 0), .t (.int .u64 0), .t (.int .u64 0), .t (.int .u64 0), .t (.int .u64 0), .t (.int .u64 0), .t (.int .u64 0), .t (.int .u64 0), .t (.int .u64 0), .t (.int .u64 0), .t (.int .u64 0), .t (.int .u64 0), .t (.int .u64 0), .t (.int .u64 0), .t (.int .u64 0), .t (.int .u64 0)]⟩ .leaf)) 179 ⟨.array 65 5, 65, true, 65, some [.t (.int .u8 0), .t (.int .u8 0), .t (.int .u8 0), .t (.int .u8 0), .t (.int .u8 0), .t (.int .u8 0), .t (.int .u8 0), .t (.int .u8 0), .t (.int .u8 0), .t (.int .u8 0), .t (.int .u8 0), .t (.int .u8 0), .t (.int .u8 0), .t (.int .u8 0), .t (.int .u8 0), .t (.int .u8 0), .t (.int .u8 0), .t (.int .u8 0), .t (.int .u8 0), .t (.int .u8 0), .t (.int .u8 0), .t (.int .u8 0), .t (.int .u8 0), .t (.int .u8 0), .t (.int .u8 0), .t (.int .u8 0), .t (.int .u8 0), .t (.int .u8 0), .t (.int .u8 0), .t (.int .u8 0), .t (.int .u8 0), .t (.int .u8 0), .t (.int .u8 0), .t (.int .u8 0), .t (.int .u8 0), .t (.int .u8 0), .t (.int .u8 0), .t (.int .u8 0), .t (.int .u8 0), .t (.int .u8 0), .t (.int .u8 0), .t (.int .u8 0), .t (.int .u8 0), .t (.int .u8 0), .t (.int .u8 0), .t (.int .u8 0), .t (.int .u8 0), .t (.int .u8 0), .t (.int .u8 0), .t (.int .u8 0), .t (.int .u8 0), .t (.int .u8 0), .t (.int .u8 0), .t (.int .u8 0), .t (.int .u8 0), .t (.int .u8 0), .t (.int .u8 0), .t (.int .u8 0), .t (.int .u8 0), .t (.int .u8 0), .t (.int .u8 0), .t (.int .u8 0), .t (.int .u8 0), .t (.int .u8 0), .t (.int .u8 0)]⟩ (.node (.node (.node .leaf 180 ⟨.other, 1, false, 8, some [.any]⟩ .leaf) 181 ⟨.other, 1, false, 8, some [.any]⟩ .leaf) 182 ⟨.array 32 5, 32, true, 32, some [.t (.int .u8 0), .t (.int .u8 0), .t (.int .u8 0), .t (.int .u8 0), .t (.int .u8 0), .t (.int .u8 0), .t (.int .u8 0), .t (.int .u8 0), .t (.int .u8 0), .t (.int .u8 0), .t (.int .u8 0), .t (.int .u8 0), .t (.int .u8 0), .t (.int .u8 0), .t (.int .u8 0), .t (.int .u8 0), .t (.int .u8 0), .t (.int .u8 0), .t (.int .u8 0), .t (.int .u8 0), .t (.int .u8 0), .t (.int .u8 0), .t (.int .u8 0), .t (.int .u8 0), .t (.int .u8 0), .t (.int .u8 0), .t (.int .u8 0), .t (.int .u8 0), .t (.int .u8 0), .t (.int .u8 0), .t (.int .u8 0), .t (.int .u8 0)]⟩ (.node (.node .leaf 183 ⟨.array 64 5, 64, true, 64, some [.t (.int .u8 0), .t (.int .u8 0), .t (.int .u8 0), .t (.int .u8 0), .t (.int .u8 0), .t (.int .u8 0), .t (.int .u8 0), .t (.int .u8 0), .t (.int .u8 0), .t (.int .u8 0), .t (.int .u8 0), .t (.int .u8 0), .t (.int .u8 0), .t (.int .u8 0), .t (.int .u8 0), .t (.int .u8 0), .t (.int .u8 0), .t (.int .u8 0), .t (.int .u8 0), .t (.int .u8 0), .t (.int .u8 0), .t (.int .u8 0), .t (.int .u8 0), .t (.int .u8 0), .t (.int .u8 0), .t (.int .u8 0), .t (.int .u8 0), .t (.int .u8 0), .t (.int .u8 0), .t (.int .u8 0), .t (.int .u8 0), .t (.int .u8 0), .t (.int .u8 0), .t (.int .u8 0), .t (.int .u8 0), .t (.int .u8 0), .t (.int .u8 0), .t (.int .u8 0), .t (.int .u8 0), .t (.int .u8 0), .t (.int .u8 0), .t (.int .u8 0), .t (.int .u8 0), .t (.int .u8 0), .t (.int .u8 0), .t (.int .u8 0), .t (.int .u8 0), .t (.int .u8 0), .t (.int .u8 0), .t (.int .u8 0), .t (.int .u8 0), .t (.int .u8 0), .t (.int .u8 0), .t (.int .u8 0), .t (.int .u8 0), .t (.int .u8 0), .t (.int .u8 0), .t (.int .u8 0), .t (.int .u8 0), .t (.int .u8 0), .t (.int .u8 0), .t (.int .u8 0), .t (.int .u8 0), .t (.int .u8 0)]⟩ .leaf) 184 ⟨.other, 1, false, 8, some [.any]⟩ .leaf))) 185 ⟨.struct [(0, 17), (1, 17), (2, 17), (3, 9)], 4, true, 40, none⟩ (.node (.node (.node (.node .leaf 186 ⟨.struct [(0, 17), (1, 17), (2, 17), (3, 9)], 4, true, 40, none⟩ .leaf) 187 ⟨.array 0 16, 0, true, 0, some []⟩ .leaf) 190 ⟨.other, 1, false, 8, some [.any]⟩ (.node (.node .leaf 191 ⟨.int .u8, 1, false, 1, some [.t (.int .u8 0)]⟩ .leaf) 192 ⟨.int .u8, 1, false, 1, some [.t (.int .u8 0)]⟩ .leaf)) 193 ⟨.other, 1, false, 8, some [.any]⟩ (.node (.node (.node .leaf 194 ⟨.other, 1, false, 8, none⟩ .leaf) 195 ⟨.int .i32, 1, false, 4, some [.t (.int .i32 0)]⟩ .leaf) 196 ⟨.int .i32, 1, false, 4, some [.t (.int .i32 0)]⟩ (.node (.node .leaf 197 ⟨.struct [(0, 12), (1, 12), (2, 138), (3, 191), (4, 5), (5, 5), (6, 192), (7, 193), (8, 194), (9, 195), (10, 196)], 11, true, 48, none⟩ .leaf) 198 ⟨.struct [(0, 12), (1, 12), (2, 138), (3, 191), (4, 5), (5, 5), (6, 192), (7, 193), (8, 194), (9, 195), (10, 196)], 11, true, 48, none⟩ .leaf)))))))
def tf (n : Nat) : Option TI := tab.find n
def v2 : List Nat := []
def v3 : List Nat := [0, 1, 2, 3, 4, 5, 6, 11, 21, 26]
def v4 : List Nat := [0, 1, 2, 4, 5, 6, 7, 8, 9, 10, 11, 12, 13, 14, 15, 20, 44, 49, 65, 73, 76, 92, 97, 100]
def v5 : List Nat := [0, 1, 2, 4, 10, 16, 22]
def v6 : List Nat := [0, 1, 2, 3, 4, 46, 51, 79, 105]
def v7 : List Nat := [0, 1, 2, 3]
def v8 : List Nat := [0, 1, 2, 3, 4, 42, 44, 45, 46, 47, 97]
def v9 : List Nat := [0, 1, 2, 3, 4, 9, 15, 21, 27]
def v10 : List Nat := [0, 1, 2, 4, 5, 6, 9, 15]
def v11 : List Nat := [0, 1, 2, 4, 5, 6, 16]
def v12 : List Nat := [0, 1, 2, 3, 4, 9, 15, 21, 26, 31]
def v13 : List Nat := [0, 1, 2, 4]
def v14 : List Nat := [0, 1, 2, 4]
def v15 : List Nat := [0, 1, 2, 4, 10, 16]
def v16 : List Nat := [0, 1, 2, 4, 10, 16]
def v17 : List Nat := [0, 1, 4, 5, 11, 15, 25]
def v18 : List Nat := [0, 1, 2, 3, 4, 5, 15, 20, 60, 63, 71]
def v19 : List Nat := [0, 1, 2, 3, 4, 5, 6, 18, 41, 49, 56]
def v20 : List Nat := [0]
def v21 : List Nat := [0]
def v22 : List Nat := [0, 1, 2, 4]
def v23 : List Nat := [0, 1, 2, 3, 4]
def v24 : List Nat := [0, 1, 2]
def v25 : List Nat := [0, 1, 2, 3]
def v26 : List Nat := [0, 1, 2]
def v27 : List Nat := [0, 1, 2, 3]
def v28 : List Nat := [0, 2, 3, 4, 11]
def v29 : List Nat := [0, 1, 2, 6]
def v30 : List Nat := [0, 1, 2, 3, 4, 5, 21, 23, 24, 25, 26, 50, 53, 61, 72]
def v31 : List Nat := [0, 1, 2, 3, 4]
def v32 : List Nat := [0]
def v33 : List Nat := [0]
def v34 : List Nat := [0, 1, 2, 4]
def v35 : List Nat := [0, 1, 2, 3, 4]
def v36 : List Nat := [0, 1, 2]
def v37 : List Nat := [0, 1, 2]
def v38 : List Nat := [0, 1, 2]
def v39 : List Nat := [0, 1, 2, 3, 4, 10, 16]
def v40 : List Nat := [0, 1, 4, 5, 10, 14, 26]
def v41 : List Nat := [0, 1, 2, 4, 5, 10, 20]
def v42 : List Nat := [0, 1, 2, 3, 4, 5, 19]
def v43 : List Nat := [0, 1, 2, 3, 4]
def v44 : List Nat := [0, 1, 2]
def v45 : List Nat := [0, 1, 4, 5, 10, 14, 25]
def v46 : List Nat := [0, 1, 2, 4]
def v47 : List Nat := [0, 1, 4, 5, 9]
def v48 : List Nat := [0, 1, 4, 5, 9]
def v49 : List Nat := [0, 1, 4, 5, 9, 18]
def v50 : List Nat := [0, 1, 2, 4, 10]
def v51 : List Nat := [0, 1, 4, 5, 11, 15, 25]
def v52 : List Nat := [0, 1, 2, 4, 10, 16]
def v53 : List Nat := [0, 1, 2, 3, 7, 12, 21]
def v54 : List Nat := [0, 1, 2]
def v55 : List Nat := [0, 1, 2, 3, 4, 5]
def v56 : List Nat := [0, 1, 2, 3, 4, 5, 12, 19]
def v57 : List Nat := [0, 1, 4, 5, 11, 15, 34]
def v58 : List Nat := [0, 1, 4, 9, 14]
def v59 : List Nat := [0, 2, 3]
def v60 : List Nat := [0, 2]
def v61 : List Nat := [0, 2]
def v62 : List Nat := [0, 2, 3, 11, 15, 52]
def v63 : List Nat := [0, 1, 3, 4, 5, 9, 18]
def v64 : List Nat := [0, 2]
def v65 : List Nat := [0, 1, 3, 4]
def v66 : List Nat := [0, 2, 3, 4, 6]
def v67 : List Nat := [0, 1, 2, 3]
def v68 : List Nat := [0, 2, 3, 4, 11]
def v69 : List Nat := [0, 1, 2, 3]
def v70 : List Nat := [0, 1, 2]
def v71 : List Nat := [0, 1, 3, 4]
def v72 : List Nat := [0, 1, 2, 3, 4, 5, 6, 22, 29]
def v73 : List Nat := [0, 1, 2, 3, 4]
def v74 : List Nat := [0, 1, 2, 3, 4, 5]
def v75 : List Nat := [0, 1, 2, 3, 4, 6, 7, 9, 12, 13, 14, 15, 31]
def v76 : List Nat := [0, 1, 2, 3, 4, 5, 6, 15, 38]
def v77 : List Nat := [0, 2, 3, 5, 7, 8, 9, 10]
def v78 : List Nat := [0, 2]
def v79 : List Nat := [0, 2]
def v80 : List Nat := [0, 2]
def v81 : List Nat := [0, 1, 4]
def v82 : List Nat := [0, 1, 4]
def v83 : List Nat := [0, 1, 2, 3, 4]
def v84 : List Nat := [0, 1, 2]
def v85 : List Nat := [0, 1, 3, 4]
def v86 : List Nat := [0, 2, 3]
def v87 : List Nat := [0, 1, 2, 3, 4, 10]
def v88 : List Nat := [0, 1, 4, 5, 10, 14, 26]
def v89 : List Nat := [0, 1, 2]
def v90 : List Nat := [0, 1, 4, 5, 7, 8, 9, 16]
def v91 : List Nat := [0, 1, 2, 3]
def v92 : List Nat := [0, 2, 4]
def v93 : List Nat := [0, 1, 2, 4]
def v94 : List Nat := [0, 1, 4, 5, 9]
def v95 : List Nat := [0, 1, 4, 5, 11, 15, 25]
def v96 : List Nat := [0, 1, 2, 4, 10, 16, 22, 28]
def v97 : List Nat := [0, 1, 4, 10]
def v98 : List Nat := [0, 2, 3, 4]
def v99 : List Nat := [0, 1, 2, 5, 13, 16, 19, 23, 28, 31, 35, 39, 42, 64]
def v100 : List Nat := [0, 1, 4, 7, 10]
def v101 : List Nat := [0, 1, 2, 3, 10, 27]
def v102 : List Nat := [0, 2, 3, 4, 5, 6, 9, 14, 27, 47, 57]
def v103 : List Nat := [0, 1, 2, 4]
def v104 : List Nat := [0, 2, 3, 4, 5, 6, 7, 8, 9, 18, 26, 41, 52]
def v105 : List Nat := [0, 1, 3, 4, 5, 10]
def v106 : List Nat := [0, 2, 4]
def v107 : List Nat := [0, 2, 3, 4, 11]
def v108 : List Nat := [0, 1, 2, 3]
def v109 : List Nat := [0, 2, 3, 4, 11]
def v110 : List Nat := [0, 1, 3, 4]
def v111 : List Nat := [0, 1, 2, 3]
def v112 : List Nat := [0, 2]
def v113 : List Nat := [0, 2]
def v114 : List Nat := [0, 2]
def v115 : List Nat := [0, 2]
def v116 : List Nat := [0, 2, 3, 5, 6, 7, 8, 9, 14]
def v117 : List Nat := [0, 1, 4, 5, 6, 11, 12, 13, 16, 19]
def v118 : List Nat := [0, 1, 4]
def v119 : List Nat := [0, 1, 2, 3, 5, 6, 13, 21, 22, 23, 24]
def v120 : List Nat := [0, 1, 2, 6, 7, 8, 9, 14, 15, 16, 17, 18, 30]
def v121 : List Nat := [0, 1, 4]
def v122 : List Nat := [0, 1, 3, 4]
def v123 : List Nat := [0, 2]
def v124 : List Nat := [0, 1, 4, 5, 7, 8, 9, 16]
def v125 : List Nat := [0, 1, 2, 4]
def v126 : List Nat := [0, 2, 3, 4, 5, 6, 7, 8, 10, 13, 14, 15, 16, 32, 48, 63, 77, 78, 79]
def v127 : List Nat := [0, 2, 3, 5, 6, 8, 9, 10, 11, 12, 20, 25, 26, 27, 28]
def v128 : List Nat := [0, 1, 2, 3, 5, 8, 9, 10, 11]
def v129 : List Nat := [0, 2, 3, 5, 8, 9, 10, 11]
def v130 : List Nat := [0, 2, 3, 9]
def v131 : List Nat := [0, 1, 4, 5, 10, 14, 26]
def v132 : List Nat := [0, 1, 2, 3, 4, 10, 15, 20, 25, 31, 37, 43]
def v133 : List Nat := [0, 1, 2, 3, 4, 9]
def v134 : List Nat := [0, 2, 3, 4, 8]
def v135 : List Nat := [0, 1, 4, 5, 9]
def v136 : List Nat := [0, 1, 4, 5, 9]
def v137 : List Nat := [0, 1, 4, 10]
def v138 : List Nat := [0, 2]
def v139 : List Nat := [0, 2]
def v140 : List Nat := [0, 1, 4, 5, 14]
def v141 : List Nat := [0, 2, 3, 4, 11, 25]
def v142 : List Nat := [0]
def v143 : List Nat := [0, 1, 2, 4, 5, 6, 7, 8, 9, 10, 11, 12, 13, 14, 15, 16, 17, 18, 19, 21, 60, 104, 194]
def v144 : List Nat := [0, 2, 3, 4, 11]
def v145 : List Nat := [0, 1, 4]
def v146 : List Nat := [0, 1, 3]
def v147 : List Nat := [0, 2]
def v148 : List Nat := [0, 2]
def v150 : List Nat := [0, 2]
def v151 : List Nat := [0, 1, 4]
def v152 : List Nat := [0, 1, 3]
def v153 : List Nat := [0, 1, 2, 3, 5, 8, 9, 10, 11]
def v154 : List Nat := [0, 2, 3, 4, 9, 15, 20]
def v155 : List Nat := [0, 1, 4, 5, 6, 8, 18]
def v156 : List Nat := [0, 1, 4, 5, 6, 8, 9, 10, 11, 12, 13, 14, 15, 16, 18, 19, 35, 88, 89, 187, 188]
def v157 : List Nat := [0, 1, 4, 6, 16]
def v158 : List Nat := [0, 2]
def v159 : List Nat := [0, 1, 4, 5, 10, 14, 25]
def v160 : List Nat := [0, 1, 2]
def v161 : List Nat := [0, 1, 4]
def v162 : List Nat := [0, 2, 3]
def v163 : List Nat := [0, 1, 4, 5, 7, 8, 9, 16]
def v164 : List Nat := [0, 2]
def v165 : List Nat := [0, 1, 4, 5, 7, 8, 9, 16]
def v166 : List Nat := [0, 1, 4]
def v167 : List Nat := [0, 1, 3]
def v168 : List Nat := [0, 1, 2, 6, 7, 8, 9, 10, 11, 12, 13, 21]
def v169 : List Nat := [0, 1, 2, 6, 7, 8, 10, 20, 26, 27, 28, 29]
def v170 : List Nat := [0, 1, 4]
def v171 : List Nat := [0, 1, 4, 5]
def v172 : List Nat := [0, 2]
def v173 : List Nat := [0, 1, 4, 5, 7, 8, 9, 16]
def v174 : List Nat := [0, 1, 4, 5, 6, 7, 8, 9, 10, 11, 12, 13]
def v176 : List Nat := [0, 1, 4, 5, 6, 7, 9, 11, 17, 23, 34]
def v177 : List Nat := [0, 2, 4]
def v178 : List Nat := [0, 2, 3]
def v179 : List Nat := [0, 1, 4, 5, 6, 7, 8, 9, 10, 11, 12, 13, 14, 15, 16, 20, 99, 139, 161]
def v180 : List Nat := [0, 1, 2, 3, 4, 10, 11, 12, 13, 14, 15, 16, 17, 18, 28, 30, 34, 46, 68, 89, 94]
def v181 : List Nat := [0, 2]
def v182 : List Nat := [0, 2, 4, 8, 14]
def v183 : List Nat := [0, 2, 3]
def v184 : List Nat := [0, 2]
def v185 : List Nat := [0, 2]
def v186 : List Nat := [0, 2, 4]
def v187 : List Nat := [0, 2, 4]
def v211 : List Nat := []
end Go.TL.Tryz

/- TfBase -/
namespace Go.TL.Tryz
open Go Go.TL Go.Proofs

def md (n : Nat) : Md := (bif leB n 67 then (bif leB n 28 then (bif leB n 24 then (bif leB n 20 then (bif leB n 7 then (bif eqB n 7 then ⟨[], false⟩ else ⟨[], true⟩) else (bif eqB n 20 then ⟨[], false⟩ else ⟨[], true⟩)) else (bif leB n 21 then (bif eqB n 21 then ⟨[], false⟩ else ⟨[], true⟩) else (bif eqB n 24 then ⟨[], false⟩ else ⟨[], true⟩))) else (bif leB n 26 then (bif leB n 25 then (bif eqB n 25 then ⟨[], false⟩ else ⟨[], true⟩) else (bif eqB n 26 then ⟨[], false⟩ else ⟨[], true⟩)) else (bif leB n 27 then (bif eqB n 27 then ⟨[], false⟩ else ⟨[], true⟩) else (bif eqB n 28 then ⟨[], false⟩ else ⟨[], true⟩)))) else (bif leB n 37 then (bif leB n 33 then (bif leB n 32 then (bif eqB n 32 then ⟨[], false⟩ else ⟨[], true⟩) else (bif eqB n 33 then ⟨[], false⟩ else ⟨[], true⟩)) else (bif leB n 36 then (bif eqB n 36 then ⟨[], false⟩ else ⟨[], true⟩) else (bif eqB n 37 then ⟨[], false⟩ else ⟨[], true⟩))) else (bif leB n 59 then (bif leB n 38 then (bif eqB n 38 then ⟨[], false⟩ else ⟨[], true⟩) else (bif eqB n 59 then ⟨[], false⟩ else ⟨[], true⟩)) else (bif leB n 64 then (bif eqB n 64 then ⟨[], false⟩ else ⟨[], true⟩) else (bif leB n 66 then (bif eqB n 66 then ⟨[], false⟩ else ⟨[], true⟩) else (bif eqB n 67 then ⟨[], false⟩ else ⟨[], true⟩)))))) else (bif leB n 103 then (bif leB n 77 then (bif leB n 69 then (bif leB n 68 then (bif eqB n 68 then ⟨[], false⟩ else ⟨[], true⟩) else (bif eqB n 69 then ⟨[], false⟩ else ⟨[], true⟩)) else (bif leB n 75 then (bif eqB n 75 then ⟨[], false⟩ else ⟨[], true⟩) else (bif eqB n 77 then ⟨[], false⟩ else ⟨[], true⟩))) else (bif leB n 86 then (bif leB n 84 then (bif eqB n 84 then ⟨[], false⟩ else ⟨[], true⟩) else (bif eqB n 86 then ⟨[], false⟩ else ⟨[], true⟩)) else (bif leB n 102 then (bif eqB n 102 then ⟨[], false⟩ else ⟨[], true⟩) else (bif eqB n 103 then ⟨[], false⟩ else ⟨[], true⟩)))) else (bif leB n 109 then (bif leB n 107 then (bif leB n 105 then (bif eqB n 105 then ⟨[some [(0, 1)]], true⟩ else ⟨[], true⟩) else (bif eqB n 107 then ⟨[], false⟩ else ⟨[], true⟩)) else (bif leB n 108 then (bif eqB n 108 then ⟨[], false⟩ else ⟨[], true⟩) else (bif eqB n 109 then ⟨[], false⟩ else ⟨[], true⟩))) else (bif leB n 144 then (bif leB n 125 then (bif eqB n 125 then ⟨[], false⟩ else ⟨[], true⟩) else (bif eqB n 144 then ⟨[], false⟩ else ⟨[], true⟩)) else (bif leB n 153 then (bif eqB n 153 then ⟨[], false⟩ else ⟨[], true⟩) else (bif leB n 156 then (bif eqB n 156 then ⟨[some []], false⟩ else ⟨[], true⟩) else (bif eqB n 157 then ⟨[some []], true⟩ else ⟨[], true⟩)))))))
/-- The program, as the walks know it. -/
structure Prg (P : Program) : Prop where
  eq : P = Tryz.prog
  mixed : P.follows .mixedOrders = true
  tab : TabOk P tf
set_option maxRecDepth 20000 in
theorem fn_at {P : Program} (h : Prg P) {f : Nat} {fn : Func} (hf : Tryz.prog.funcs[f]? = some fn) : P.funcs[f]? = some fn := by rw [h.eq]; exact hf


/-- What is to be shown on the side. -/
structure Side (p : Prop) : Prop where
  h : p
theorem and_side {A B : Prop} (h : Side A) (k : B) : A ∧ B := ⟨h.h, k⟩
theorem dt_side {α : Type} {Φ : α → Prop} {X : (α → Prop) → Prop} {c : Prop} (h : Side c) (k : Dt Φ X) : Dt Φ (fun Q => c ∧ X Q) := dt_and h.h k

theorem cast_ex (n : Nat) : ∃ i : Int, (n : Int) = i := ⟨_, rfl⟩
theorem encB_ex (l : List UInt8) : ∃ es, encB l = es := ⟨_, rfl⟩
theorem encB_len {l : List UInt8} {es : List (List T)} (h : encB l = es) : es.length = l.length := by subst h; simp [encB]
theorem enc_app {l m : List UInt8} {es fs : List (List T)} (h : encB l = es) (k : encB m = fs) : encB (l ++ m) = es ++ fs := by subst h; subst k; simp [encB]
theorem u8_i64 (y : UInt8) : IntKind.i64.wrap (y.toNat : Int) = y.toNat := wrap_id (by have := y.toNat_lt; simp [IntKind.has, IntKind.min, IntKind.max, IntKind.signed, IntKind.bits]; omega)
theorem addI {a b : Int} (h1 : -9223372036854775808 ≤ a + b) (h2 : a + b ≤ 9223372036854775807) : iopS .add .i64 a b = a + b := wrap_id (by simp [IntKind.has, IntKind.min, IntKind.max, IntKind.signed, IntKind.bits]; omega)
theorem subI {a b : Int} (h1 : -9223372036854775808 ≤ a - b) (h2 : a - b ≤ 9223372036854775807) : iopS .sub .i64 a b = a - b := wrap_id (by simp [IntKind.has, IntKind.min, IntKind.max, IntKind.signed, IntKind.bits]; omega)
theorem mulI {a b : Int} (h1 : -9223372036854775808 ≤ a * b) (h2 : a * b ≤ 9223372036854775807) : iopS .mul .i64 a b = a * b := wrap_id (by simp [IntKind.has, IntKind.min, IntKind.max, IntKind.signed, IntKind.bits]; omega)
/-- The byte of a number. -/
def byteOf (v : Int) : UInt8 := UInt8.ofNat (v % 256).toNat
theorem byteOf_wrap (v : Int) : ((byteOf v).toNat : Int) = IntKind.u8.wrap v := by
  have h : (v % 256).toNat < 256 := by omega
  simp only [byteOf, UInt8.toNat_ofNat', IntKind.wrap, IntKind.signed, IntKind.bits]
  simp
  omega
theorem enc_byteOf (v : Int) : encB [byteOf v] = [[.int .u8 (IntKind.u8.wrap v)]] := by simp [encB, byteOf_wrap]
theorem enc_one {x : UInt8} {xx : Int} (h : (x.toNat : Int) = xx) : encB [x] = [[.int .u8 xx]] := by subst h; rfl
theorem room_of {k : Nat} {es : List (List T)} (h : es.length * (k + 1) ≤ 70368744177664) : std.room k es := h
theorem wid_byte (l : List UInt8) : std.wid 1 (encB l) := by intro x hx; obtain ⟨y, _, rfl⟩ := List.mem_map.1 hx; rfl
theorem wid_one (t : T) : std.wid 1 [[t]] := by intro x hx; simp at hx; subst hx; rfl
/-- A byte as a number. -/
def iB (x : UInt8) : Int := x.toNat
theorem iB_lo (x : UInt8) : 0 ≤ iB x := Int.natCast_nonneg _
theorem iB_hi (x : UInt8) : iB x ≤ 255 := by have := x.toNat_lt; simp only [iB]; omega
theorem iB_byteOf {v : Int} (h : 0 ≤ v ∧ v ≤ 255) : iB (byteOf v) = v := by rw [iB, byteOf_wrap]; exact wrap_id (by simp [IntKind.has, IntKind.min, IntKind.max, IntKind.signed, IntKind.bits]; omega)
theorem byteOf_iB (x : UInt8) : byteOf (iB x) = x := by
  have := x.toNat_lt
  simp only [byteOf, iB]
  rw [Int.emod_eq_of_lt (by omega) (by omega)]
  simp
theorem iB_inj {x y : UInt8} (h : iB x = iB y) : x = y := by rw [← byteOf_iB x, h, byteOf_iB]
theorem encB_iB (l : List UInt8) : encB l = l.map fun x => [.int .u8 (iB x)] := rfl
theorem iB_wrap64 (x : UInt8) : IntKind.i64.wrap (iB x) = iB x := u8_i64 x
theorem enc_iB {x : UInt8} {xx : Int} (h : iB x = xx) : encB [x] = [[.int .u8 xx]] := by subst h; rfl
/-- An element of a list of bytes. -/
theorem get_byte {ar : Ar} (har : ar = std) {b : List UInt8} {es : List (List T)} {i : Int} {K : List T → Prop} (hes : encB b = es) (h : 0 ≤ i ∧ i.toNat < b.length)
    (k : ∀ (x : UInt8) (xx : Int), b[i.toNat]? = some x → iB x = xx → K [.int .u8 xx]) : GetP ar es i K := by
  have hl : i.toNat < b.length := h.2
  subst har; subst hes
  refine ⟨by simp [std, encB]; omega, ?_⟩
  have := k b[i.toNat] _ (List.getElem?_eq_getElem hl) rfl
  simpa [std, encB, hl, iB] using this
theorem get_at {ar : Ar} (har : ar = std) {b : List UInt8} {es : List (List T)} {i xx : Int} {x : UInt8} {K : List T → Prop} (hes : encB b = es) (hx : b[i.toNat]? = some x) (hxx : iB x = xx) (h : 0 ≤ i) (k : K [.int .u8 xx]) : GetP ar es i K :=
  get_byte har hes ⟨h, (List.getElem?_eq_some_iff.1 hx).1⟩ fun y yy h1 h2 => by rw [hx] at h1; injection h1 with h1; subst h1; rw [← h2, hxx]; exact k
theorem lt_len {ar : Ar} (har : ar = std) {es : List (List T)} {i : Int} (h : ar.icmp .lss i (ar.len es) = true) (h0 : 0 ≤ i) : i.toNat < es.length := by
  subst har; simp [std, icmpS] at h; omega
theorem ge_len {ar : Ar} (har : ar = std) {es : List (List T)} {i : Int} (h : ar.icmp .lss i (ar.len es) = false) (h0 : 0 ≤ i) : es.length ≤ i.toNat := by
  subst har; simp [std, icmpS] at h; omega
theorem get_lt {ar : Ar} (har : ar = std) {b : List UInt8} {es : List (List T)} {i : Int} {K : List T → Prop} (hes : encB b = es) (h : ar.icmp .lss i (ar.len es) = true) (h0 : 0 ≤ i)
    (k : ∀ (x : UInt8) (xx : Int), b[i.toNat]? = some x → iB x = xx → K [.int .u8 xx]) : GetP ar es i K :=
  get_byte har hes ⟨h0, by rw [← encB_len hes]; exact lt_len har h h0⟩ k
theorem bytes_intro {b : List UInt8} {es : List (List T)} {K : List UInt8 → Prop} (hes : encB b = es) (k : K b) : BytesP es K := ⟨b, hes.symm, k⟩

theorem enc_set {l : List UInt8} {es : List (List T)} (hes : encB l = es) {i : Nat} {y : UInt8} {yy : Int} (hy : iB y = yy) : es.modify i (fun e => setAt e 0 [.int .u8 yy]) = encB (l.set i y) := by
  subst hes; subst hy
  apply List.ext_getElem?
  intro j
  simp only [encB, List.getElem?_modify, List.getElem?_map, List.getElem?_set, List.length_map]
  by_cases h : i = j
  · subst h
    by_cases hi : i < l.length
    · simp [hi, setAt, iB]
    · simp [hi]
  · simp [h]
theorem side_inb {ar : Ar} (har : ar = std) {l : List UInt8} {es : List (List T)} (hes : encB l = es) {i : Int} {x : UInt8} (hx : l[i.toNat]? = some x) (h : 0 ≤ i) : Side (ar.inb i es) := by
  have hl := (List.getElem?_eq_some_iff.1 hx).1
  have := encB_len hes
  subst har
  exact ⟨by simp [std]; omega⟩
theorem app_nil {ar : Ar} (har : ar = std) (es : List (List T)) : ar.app [] es = es := by subst har; rfl
theorem side_app {ar : Ar} (har : ar = std) {l m : List UInt8} {es fs : List (List T)} (h : encB l = es) (k : encB m = fs) (hn : l.length + m.length ≤ 1000000000) : Side (ar.room 1 (ar.app es fs) ∧ ar.wid 1 fs) := by
  subst har; subst h; subst k
  exact ⟨by simp [std, encB]; omega, wid_byte m⟩
theorem side_new {ar : Ar} (har : ar = std) {m : List UInt8} {fs : List (List T)} (k : encB m = fs) (hn : m.length ≤ 1000000000) : Side (ar.room 1 fs ∧ ar.wid 1 fs) := by
  subst har; subst k
  exact ⟨by simp [std, encB]; omega, wid_byte m⟩
theorem side_app0 {ar : Ar} (har : ar = std) {m : List UInt8} {fs : List (List T)} (k : encB m = fs) (hn : m.length ≤ 1000000000) : Side (ar.room 1 (ar.app [] fs) ∧ ar.wid 1 fs) := by
  subst har; subst k
  exact ⟨by simp [std, encB]; omega, wid_byte m⟩
theorem side_one {ar : Ar} (har : ar = std) {l : List UInt8} {es : List (List T)} {t : T} (h : encB l = es) (hn : l.length ≤ 1000000000) : Side (ar.room 1 (ar.app es [[t]]) ∧ ar.wid 1 [[t]]) := by
  subst har; subst h
  exact ⟨by simp [std, encB]; omega, wid_one t⟩
theorem side_lt {ar : Ar} (har : ar = std) {es : List (List T)} {i : Int} (h : ar.icmp .lss i (ar.len es) = true) (h0 : 0 ≤ i) : Side (ar.inb i es) := by
  subst har; simp [std, icmpS] at h
  exact ⟨by simp [std]; omega⟩
theorem side_sh {ar : Ar} (har : ar = std) {n : Int} (h : 0 ≤ n) : Side (ar.shok n) := by subst har; exact ⟨h⟩
theorem side_flat {ar : Ar} (har : ar = std) {l : List UInt8} {es : List (List T)} (h : encB l = es) : Side (ar.flat es) := by
  subst har; subst h
  refine ⟨fun x hx t ht => ?_⟩
  obtain ⟨y, _, rfl⟩ := List.mem_map.1 hx
  simp at ht; subst ht; rfl
theorem side_sbig {ar : Ar} (har : ar = std) {s : List UInt8} (h : s.length ≤ 1000000000) : Side (ar.sbig s) := by subst har; exact ⟨by simp [std]; omega⟩
theorem get_str {ar : Ar} (har : ar = std) (m : Nat) {es : List (List T)} {i : Int} {K : List T → Prop} (h : 0 ≤ i ∧ i.toNat < es.length) (hall : ∀ e ∈ es, ∃ s, e = [.str s] ∧ s.length ≤ m) (k : ∀ s, s.length ≤ m → K [.str s]) : GetP ar es i K := by
  subst har
  refine ⟨by simp [std]; omega, ?_⟩
  obtain ⟨s, h1, h2⟩ := hall es[i.toNat] (List.getElem_mem h.2)
  have := k s h2
  rw [← h1] at this
  simpa [std, h.2] using this
theorem dt_get_str {α : Type} {Φ : α → Prop} {ar : Ar} (har : ar = std) (m : Nat) {es : List (List T)} {i : Int} {K : List T → (α → Prop) → Prop} (h : 0 ≤ i ∧ i.toNat < es.length) (hall : ∀ e ∈ es, ∃ s, e = [.str s] ∧ s.length ≤ m) (k : ∀ s, s.length ≤ m → Dt Φ (K [.str s])) : Dt Φ (fun Q => GetP ar es i fun x => K x Q) := by
  obtain ⟨s, h1, h2⟩ := hall es[i.toNat] (List.getElem_mem h.2)
  subst har
  exact dt_get (v := [.str s]) (by simp [std]; omega) (by rw [← h1]; simp [std, h.2]) (k s h2)
theorem lt_cmp {ar : Ar} (har : ar = std) {a b : Int} (h : ar.icmp .lss a b = true) : a < b := by subst har; simpa [std, icmpS] using h
theorem ge_cmp {ar : Ar} (har : ar = std) {a b : Int} (h : ar.icmp .lss a b = false) : b ≤ a := by subst har; simpa [std, icmpS] using h
theorem bnot_t {ar : Ar} (har : ar = std) {b : Bool} (h : ar.bnot b = true) : b = false := by subst har; simpa [std] using h
theorem bnot_f {ar : Ar} (har : ar = std) {b : Bool} (h : ar.bnot b = false) : b = true := by subst har; simpa [std] using h
theorem gt_cmp {ar : Ar} (har : ar = std) {a b : Int} (h : ar.icmp .gtr a b = true) : b < a := by subst har; simpa [std, icmpS] using h
theorem le_cmp {ar : Ar} (har : ar = std) {a b : Int} (h : ar.icmp .gtr a b = false) : a ≤ b := by subst har; simpa [std, icmpS] using h
theorem eq_cmp {ar : Ar} (har : ar = std) {a b : Int} (h : ar.icmp .eql a b = true) : a = b := by subst har; simpa [std, icmpS] using h
theorem ne_cmp {ar : Ar} (har : ar = std) {a b : Int} (h : ar.icmp .eql a b = false) : ¬ a = b := by subst har; simpa [std, icmpS] using h
theorem side_ix {ar : Ar} (har : ar = std) {es : List (List T)} {i : Int} (h : 0 ≤ i ∧ i.toNat < es.length) : Side (ar.inb i es) := by subst har; exact ⟨by simp [std]; omega⟩
theorem side_make {ar : Ar} (har : ar = std) {n : Int} (h0 : 0 ≤ n) (h : n ≤ 1000000000) : Side (ar.mkroom 1 n) := by
  subst har; exact ⟨⟨h0, by show n * (((1 : Nat) : Int) + 1) ≤ 2 ^ 46; omega⟩⟩
theorem add_std {ar : Ar} (har : ar = std) {a b : Int} (h1 : -9223372036854775808 ≤ a + b) (h2 : a + b ≤ 9223372036854775807) : ar.iop .add .i64 a b = a + b := by subst har; exact addI h1 h2
theorem byteOf_add (a b : Int) : iB (byteOf (a + b)) = iopS .add .u8 a b := byteOf_wrap _
/-- A list of numbers. -/
def encI (l : List Int) : List (List T) := l.map fun n => [.int .i64 n]
theorem encI_len {l : List Int} {es : List (List T)} (h : encI l = es) : es.length = l.length := by subst h; simp [encI]
theorem encI_app {l m : List Int} {es fs : List (List T)} (h : encI l = es) (k : encI m = fs) : encI (l ++ m) = es ++ fs := by subst h; subst k; simp [encI]
theorem side_oneI {ar : Ar} (har : ar = std) {l : List Int} {es : List (List T)} {t : T} (h : encI l = es) (hn : l.length ≤ 1000000000) : Side (ar.room 8 (ar.app es [[t]]) ∧ ar.wid 1 [[t]]) := by
  have := encI_len h
  subst har
  exact ⟨by simp [std]; omega, wid_one t⟩
theorem get_int {ar : Ar} (har : ar = std) {b : List Int} {es : List (List T)} {i : Int} {K : List T → Prop} (hes : encI b = es) (h : 0 ≤ i ∧ i.toNat < b.length)
    (k : ∀ (x : Int), b[i.toNat]? = some x → K [.int .i64 x]) : GetP ar es i K := by
  have hl : i.toNat < b.length := h.2
  subst har; subst hes
  refine ⟨by simp [std, encI]; omega, ?_⟩
  have := k b[i.toNat] (List.getElem?_eq_getElem hl)
  simpa [std, encI, hl] using this
/-- A list of labels. -/
def encN (n : List (List UInt8)) : List (List T) := n.map fun l => [.sl (encB l)]
theorem encN_len {l : List (List UInt8)} {es : List (List T)} (h : encN l = es) : es.length = l.length := by subst h; simp [encN]
theorem encN_app {l m : List (List UInt8)} {es fs : List (List T)} (h : encN l = es) (k : encN m = fs) : encN (l ++ m) = es ++ fs := by subst h; subst k; simp [encN]
theorem encN_one {x : List UInt8} {xx : List (List T)} (h : encB x = xx) : encN [x] = [[.sl xx]] := by subst h; rfl
theorem wid_encN (l : List (List UInt8)) : std.wid 1 (encN l) := by intro x hx; obtain ⟨y, _, rfl⟩ := List.mem_map.1 hx; rfl
theorem side_oneN {ar : Ar} (har : ar = std) {l : List (List UInt8)} {es : List (List T)} {t : T} (h : encN l = es) (hn : l.length ≤ 1000000000) : Side (ar.room 24 (ar.app es [[t]]) ∧ ar.wid 1 [[t]]) := by
  have := encN_len h
  subst har
  exact ⟨by simp [std]; omega, wid_one t⟩
theorem get_label {ar : Ar} (har : ar = std) {n : List (List UInt8)} {es : List (List T)} {i : Int} {K : List T → Prop} (hes : encN n = es) (h : 0 ≤ i ∧ i.toNat < n.length)
    (k : ∀ (x : List UInt8) (xx : List (List T)), n[i.toNat]? = some x → encB x = xx → K [.sl xx]) : GetP ar es i K := by
  have hl : i.toNat < n.length := h.2
  subst har; subst hes
  refine ⟨by simp [std, encN]; omega, ?_⟩
  have := k n[i.toNat] _ (List.getElem?_eq_getElem hl) rfl
  simpa [std, encN, hl] using this
theorem get_atN {ar : Ar} (har : ar = std) {b : List (List UInt8)} {es xx : List (List T)} {i : Int} {x : List UInt8} {K : List T → Prop} (hes : encN b = es) (hx : b[i.toNat]? = some x) (hxx : encB x = xx) (h : 0 ≤ i) (k : K [.sl xx]) : GetP ar es i K :=
  get_label har hes ⟨h, (List.getElem?_eq_some_iff.1 hx).1⟩ fun y yy h1 h2 => by rw [hx] at h1; injection h1 with h1; subst h1; rw [← h2, hxx]; exact k
theorem get_ltN {ar : Ar} (har : ar = std) {b : List (List UInt8)} {es : List (List T)} {i : Int} {K : List T → Prop} (hes : encN b = es) (h : ar.icmp .lss i (ar.len es) = true) (h0 : 0 ≤ i)
    (k : ∀ (x : List UInt8) (xx : List (List T)), b[i.toNat]? = some x → encB x = xx → K [.sl xx]) : GetP ar es i K :=
  get_label har hes ⟨h0, by rw [← encN_len hes]; exact lt_len har h h0⟩ k

end Go.TL.Tryz

/- TfDraw -/
namespace Go.TL.Tryz
open Go Go.TL Go.Proofs
variable {P : Program}



def curH (h : Int) : Int := iopS .add .i64 (iopS .mul .i64 h 6364136223846793005) 1442695040888963407
def curX (h : Int) : Int := iopS .and .i64 (iopS .xor .i64 (iopS .shr .i64 h 33) (iopS .shr .i64 h 45)) 255
/-- One byte of a draw: the number, the place, the mix. -/
def byteS (b : List UInt8) (i : Nat) (h : Int) : Int × Nat × Int :=
  if i < b.length then (iopS .and .i64 (iopS .add .i64 (curX (curH h)) (b.getD i 0).toNat) 255, i + 1, curH h) else (curX (curH h), i, curH h)
/-- A number below a bound. -/
def belowS (b : List UInt8) (i : Nat) (h n : Int) : Int × Nat × Int :=
  if n ≤ 0 then (0, i, h) else
  if n ≤ 256 then match byteS b i h with
    | (x, i, h) => (x.tmod n, i, h)
  else match byteS b i h with
    | (x, i, h) => match byteS b i h with
      | (y, i, h) => match byteS b i h with
        | (z, i, h) => match byteS b i h with
          | (w, i, h) => ((iopS .add .i64 (iopS .add .i64 (iopS .add .i64 (iopS .mul .i64 x 16777216) (iopS .mul .i64 y 65536)) (iopS .mul .i64 z 256)) w).tmod n, i, h)
/-- Does a number below a bound come out as 0? -/
def onceS (b : List UInt8) (i : Nat) (h n : Int) : Bool × Nat × Int := match belowS b i h n with
  | (v, i, h) => (v == 0, i, h)
theorem and255 (a : Int) : 0 ≤ iopS .and .i64 a 255 ∧ iopS .and .i64 a 255 ≤ 255 := by
  have h : (BitVec.ofInt 64 a &&& BitVec.ofInt 64 255).toNat ≤ 255 := by
    rw [BitVec.toNat_and]; exact Nat.and_le_right
  generalize hk : (BitVec.ofInt 64 a &&& BitVec.ofInt 64 255).toNat = k at h
  have h2 : IntKind.i64.has (k : Int) := by simp [IntKind.has, IntKind.min, IntKind.max, IntKind.signed, IntKind.bits]; omega
  have e : iopS .and .i64 a 255 = (k : Int) := by
    show IntKind.i64.wrap (((BitVec.ofInt 64 a &&& BitVec.ofInt 64 255).toNat : Nat) : Int) = k
    rw [hk]; exact wrap_id h2
  rw [e]; omega
theorem byteS_lt {b : List UInt8} {i : Nat} {h v : Int} {i' : Nat} {h' : Int} (e : byteS b i h = (v, i', h')) : 0 ≤ v ∧ v ≤ 255 := by
  unfold byteS at e
  split at e <;> injection e with e _ <;> subst e <;> exact and255 _

theorem iop_add_id {a b : Int} (h : IntKind.i64.has (a + b)) : iopS .add .i64 a b = a + b := wrap_id h
theorem iop_mul_id {a b : Int} (h : IntKind.i64.has (a * b)) : iopS .mul .i64 a b = a * b := wrap_id h
theorem has_i64 {a : Int} (h : -(2 ^ 63) ≤ a) (h2 : a < 2 ^ 63) : IntKind.i64.has a := by simp [IntKind.has, IntKind.min, IntKind.max, IntKind.signed, IntKind.bits]; omega
theorem belowS_lt {b : List UInt8} {i : Nat} {h n v : Int} {i' : Nat} {h' : Int} (e : belowS b i h n = (v, i', h')) (hn : 0 < n) : 0 ≤ v ∧ v < n := by
  unfold belowS at e
  rw [if_neg (by omega)] at e
  split at e
  · generalize hq : byteS b i h = q at e
    obtain ⟨x, i1, h1⟩ := q
    simp only at e
    injection e with e _; subst e
    have := byteS_lt hq
    exact ⟨Int.tmod_nonneg _ this.1, Int.tmod_lt_of_pos _ hn⟩
  · generalize hq : byteS b i h = q at e
    obtain ⟨x, i1, h1⟩ := q
    simp only at e
    generalize hq2 : byteS b i1 h1 = q at e
    obtain ⟨y, i2, h2⟩ := q
    simp only at e
    generalize hq3 : byteS b i2 h2 = q at e
    obtain ⟨z, i3, h3⟩ := q
    simp only at e
    generalize hq4 : byteS b i3 h3 = q at e
    obtain ⟨u, i4, h4⟩ := q
    simp only at e
    injection e with e _; subst e
    have a1 := byteS_lt hq
    have a2 := byteS_lt hq2
    have a3 := byteS_lt hq3
    have a4 := byteS_lt hq4
    rw [iop_mul_id (has_i64 (by omega) (by omega)), iop_mul_id (a := y) (has_i64 (by omega) (by omega)), iop_mul_id (a := z) (has_i64 (by omega) (by omega)), iop_add_id (a := x * 16777216) (b := y * 65536) (has_i64 (by omega) (by omega)), iop_add_id (b := z * 256) (has_i64 (by omega) (by omega)), iop_add_id (has_i64 (by omega) (by omega))]
    exact ⟨Int.tmod_nonneg _ (by omega), Int.tmod_lt_of_pos _ hn⟩

def pickS (b : List UInt8) (i : Nat) (h : Int) (l : List Int) : Int × Nat × Int := match belowS b i h l.length with
  | (v, i, h) => (l.getD v.toNat 0, i, h)
end Go.TL.Tryz

/- TfDrawW -/
namespace Go.TL.Tryz
open Go Go.TL Go.Proofs
variable {P : Program}

theorem ints_of {ls : List (List T)} (hl : ∀ x ∈ ls, ∃ n, x = [.int .i64 n]) : ∃ l, encI l = ls := by
  induction ls with
  | nil => exact ⟨[], rfl⟩
  | cons x r ih =>
    obtain ⟨l, hl'⟩ := ih fun y hy => hl y (List.mem_cons_of_mem _ hy)
    obtain ⟨n, rfl⟩ := hl x (List.mem_cons_self ..)
    exact ⟨n :: l, by simp [encI] at hl' ⊢; exact hl'⟩

end Go.TL.Tryz

/- TfNm -/
namespace Go.TL.Tryz
open Go Go.TL Go.Proofs
variable {P : Program}

end Go.TL.Tryz

/- TfNmS -/
namespace Go.TL.Tryz
open Go Go.TL Go.Proofs
variable {P : Program}

def chOk (n : Int) : Bool := decide (97 ≤ n ∧ n ≤ 122 ∨ 48 ≤ n ∧ n ≤ 57 ∨ n = 45)
def labelOk (l : List UInt8) : Bool := decide (1 ≤ l.length) && (decide (l.length ≤ 15) && l.all fun x => chOk (iB x))
def nameOk (n : List (List UInt8)) : Bool := decide (n.length ≤ 6) && n.all labelOk

theorem all_take_succ {α : Type} {p : α → Bool} {l : List α} {i : Nat} {x : α} (hx : l[i]? = some x) (h : (l.take i).all p = true) (hp : p x = true) : (l.take (i + 1)).all p = true := by
  rw [List.take_add_one, hx]; simp [h, hp]
theorem all_bad {α : Type} {p : α → Bool} {l : List α} {i : Nat} {x : α} (hx : l[i]? = some x) (hp : p x = false) : l.all p = false := by
  rw [List.all_eq_false]; exact ⟨x, List.mem_of_getElem? hx, by simp [hp]⟩
theorem take_all {α : Type} {l : List α} {i : Nat} (h : l.length ≤ i) : l.take i = l := List.take_of_length_le h

set_option maxRecDepth 20000 in
theorem fn62 : Tryz.prog.funcs[62]? = some Tryz.f62 := rfl
set_option maxHeartbeats 40000000 in
set_option maxRecDepth 3000 in
theorem sLabelOk (hP : Prg P) {l : List UInt8} {ls : List (List T)} (hl : encB l = ls) : ACall P 62 [.one (.t (.sl ls))] [] (fun r ob => r = .one (.t (.bool (labelOk l))) ∧ ob = []) := by
  refine acall_fn (md := md) [none] v62 hP.mixed hP.tab (fn_at hP fn62) 1 rfl (by decide +kernel) rfl ?_
  intro ar har
  cbv
  repeat' (first | (intro; cbv) | (refine br_intro ?_ ?_ <;> intro <;> cbv))
  · subst har; simp only [std, icmpS, decide_eq_true_eq, decide_eq_false_iff_not, Bool.not_eq_true', Bool.not_eq_false', bne_iff_ne, ne_eq, bne_eq_false_iff_eq, beq_iff_eq, beq_eq_false_iff_ne, Int.not_lt, Int.not_le, Bool.not_true, Bool.not_false, reduceCtorEq] at *
    refine ⟨⟨?_, rfl⟩⟩
    have := encB_len hl
    simp [labelOk, show ¬ (1 ≤ l.length) by omega]
  · subst har; simp only [std, icmpS, decide_eq_true_eq, decide_eq_false_iff_not, Bool.not_eq_true', Bool.not_eq_false', bne_iff_ne, ne_eq, bne_eq_false_iff_eq, beq_iff_eq, beq_eq_false_iff_ne, Int.not_lt, Int.not_le, Bool.not_true, Bool.not_false, reduceCtorEq] at *
    refine ⟨⟨?_, rfl⟩⟩
    have := encB_len hl
    simp [labelOk, show ¬ (l.length ≤ 15) by omega]
  rename_i h1 _ h2
  refine LoopP.mk Int [0, 2, 3] [] (fun i => ⟨[(0, .one (.t (.sl ls))), (2, .one (.t (.bool false))), (3, .one (.t (.int .i64 i)))], []⟩) (fun i => 0 ≤ i ∧ ((l.take i.toNat).all fun x => chOk (iB x)) = true) (fun i => l.length - i.toNat) 0 ?e ?f ?g
  case e => rfl
  case f => simp
  case g =>
    intro i hi
    have hi0 : 0 ≤ i := hi.1
    have hi1 : ((l.take i.toNat).all fun x => chOk (iB x)) = true := hi.2
    clear hi
    cbv
    repeat' (first | (intro; cbv) | (refine br_intro ?_ ?_ <;> intro <;> cbv) | (refine get_at har (by assumption) (by assumption) (by assumption) (by assumption) ?_; cbv) | (refine get_lt har (by assumption) (by assumption) (by assumption) ?_; intro x xx hx hxx; cbv))
    all_goals have hlen := encB_len hl
    all_goals subst har; simp only [std, icmpS, decide_eq_true_eq, decide_eq_false_iff_not, Bool.not_eq_true', Bool.not_eq_false', bne_iff_ne, ne_eq, bne_eq_false_iff_eq, beq_iff_eq, beq_eq_false_iff_ne, Int.not_lt, Int.not_le, Bool.not_true, Bool.not_false, reduceCtorEq] at *
    all_goals first
      | (refine ⟨⟨?_, rfl⟩⟩; rw [show labelOk l = false by simp only [labelOk, all_bad (p := fun x => chOk (iB x)) hx (by rw [hxx]; simp [chOk]; omega), Bool.and_false]]; done)
      | (rw [addI (a := i) (b := 1) (by omega) (by omega)]
         exact ⟨i + 1, by kernel_rfl, ⟨by omega, by rw [show (i + 1).toNat = i.toNat + 1 by omega]; exact all_take_succ hx hi1 (by rw [hxx]; simp [chOk]; omega)⟩, by omega⟩)
      | skip
    rw [take_all (by omega)] at hi1
    exact ⟨⟨by simp only [labelOk, hi1, decide_eq_true (show 1 ≤ l.length by omega), decide_eq_true (show l.length ≤ 15 by omega), Bool.and_true], rfl⟩⟩
end Go.TL.Tryz

/- TfNmT -/
namespace Go.TL.Tryz
open Go Go.TL Go.Proofs
variable {P : Program}

set_option maxRecDepth 20000 in
theorem fn53 : Tryz.prog.funcs[53]? = some Tryz.f53 := rfl
set_option maxHeartbeats 40000000 in
set_option maxRecDepth 3000 in
theorem sNameOk (hP : Prg P) {n : List (List UInt8)} {ns : List (List T)} (hn : encN n = ns) : ACall P 53 [.agg [.t (.sl ns)]] [] (fun r ob => r = .one (.t (.bool (nameOk n))) ∧ ob = []) := by
  refine acall_fn (md := md) [none] v53 hP.mixed hP.tab (fn_at hP fn53) 1 rfl (by decide +kernel) rfl ?_
  intro ar har
  cbv
  repeat' (first | (intro; cbv) | (refine br_intro ?_ ?_ <;> intro <;> cbv))
  · have hlen := encN_len hn
    subst har; simp only [std, icmpS, decide_eq_true_eq, decide_eq_false_iff_not, Bool.not_eq_true', Bool.not_eq_false', bne_iff_ne, ne_eq, bne_eq_false_iff_eq, beq_iff_eq, beq_eq_false_iff_ne, Int.not_lt, Int.not_le, Bool.not_true, Bool.not_false, reduceCtorEq] at *
    exact ⟨⟨by simp only [nameOk, decide_eq_false (show ¬ n.length ≤ 6 by omega), Bool.false_and], rfl⟩⟩
  rename_i h1
  refine LoopP.mk Int [1, 2, 3] [] (fun i => ⟨[(1, .one (.ptr 16 0)), (2, .one (.t (.bool false))), (3, .one (.t (.int .i64 i)))], [(16, .box [.t (.sl ns)] false)]⟩) (fun i => 0 ≤ i ∧ (n.take i.toNat).all labelOk = true) (fun i => n.length - i.toNat) 0 ?e ?f ?g
  case e => rfl
  case f => simp
  case g =>
    intro i hi
    have hi0 : 0 ≤ i := hi.1
    have hi1 : (n.take i.toNat).all labelOk = true := hi.2
    clear hi
    cbv
    repeat' (first | (intro; cbv) | (refine br_intro ?_ ?_ <;> intro <;> cbv) | (refine get_ltN har (by assumption) (by assumption) (by assumption) ?_; intro x xx hx hxx; cbv) | (refine call_intro (sLabelOk hP (by assumption)) ?_; rintro r ob ⟨rfl, rfl⟩; generalize hv : labelOk _ = v; cbv))
    all_goals have hlen := encN_len hn
    all_goals subst har; simp only [std, icmpS, decide_eq_true_eq, decide_eq_false_iff_not, Bool.not_eq_true', Bool.not_eq_false', bne_iff_ne, ne_eq, bne_eq_false_iff_eq, beq_iff_eq, beq_eq_false_iff_ne, Int.not_lt, Int.not_le, Bool.not_true, Bool.not_false, reduceCtorEq] at *
    · exact ⟨⟨by simp only [nameOk, all_bad (p := labelOk) hx (by rw [hv]; assumption), Bool.and_false], rfl⟩⟩
    · rw [addI (a := i) (b := 1) (by omega) (by omega)]
      exact ⟨i + 1, by kernel_rfl, ⟨by omega, by rw [show (i + 1).toNat = i.toNat + 1 by omega]; exact all_take_succ hx hi1 (by rw [hv]; assumption)⟩, by omega⟩
    · rw [take_all (by omega)] at hi1
      exact ⟨⟨by simp only [nameOk, hi1, decide_eq_true (show n.length ≤ 6 by omega), Bool.and_true], rfl⟩⟩

def lowCh (x : UInt8) : UInt8 := if 65 ≤ iB x ∧ iB x ≤ 90 then byteOf (iB x + 32) else x
def lower (l : List UInt8) : List UInt8 := l.map lowCh
theorem lower_len (l : List UInt8) : (lower l).length = l.length := by simp [lower]
theorem low_step {l m : List UInt8} {i : Nat} {x : UInt8} (hm : m = (l.take i).map lowCh ++ l.drop i) (hx : m[i]? = some x) : l[i]? = some x ∧ m.set i (lowCh x) = (l.take (i + 1)).map lowCh ++ l.drop (i + 1) := by
  have hi : i < m.length := (List.getElem?_eq_some_iff.1 hx).1
  have hl : i < l.length := by rw [hm] at hi; simp at hi; omega
  have hlx : l[i]? = some x := by
    rw [hm, List.getElem?_append_right (by simp; omega)] at hx
    simpa [List.getElem?_drop, Nat.min_eq_left (Nat.le_of_lt hl)] using hx
  refine ⟨hlx, ?_⟩
  have : l.drop i = x :: l.drop (i + 1) := by
    rw [List.drop_eq_getElem_cons hl]
    rw [List.getElem?_eq_getElem hl] at hlx
    injection hlx with e; rw [e]
  rw [List.take_add_one, hlx, hm, this, List.set_append]
  simp [Nat.min_eq_left (Nat.le_of_lt hl)]
theorem List.set_getElem?_self {α : Type} {l : List α} {i : Nat} {x : α} (h : l[i]? = some x) : l.set i x = l := by
  obtain ⟨h1, h2⟩ := List.getElem?_eq_some_iff.1 h
  rw [← h2]; exact List.set_getElem_self h1
set_option maxRecDepth 20000 in
theorem fn141 : Tryz.prog.funcs[141]? = some Tryz.f141 := rfl
set_option maxHeartbeats 40000000 in
set_option maxRecDepth 3000 in
theorem sLower (hP : Prg P) {l : List UInt8} {ls : List (List T)} (hl : encB l = ls) (hb : l.length ≤ 1000000) : ACall P 141 [.one (.t (.sl ls))] [] (fun r ob => r = .one (.row 32 0) ∧ ob = [(32, .row 1 (encB (lower l)) 0 [0] false)]) := by
  refine acall_fn (md := md) [some [(0, 1)]] v141 hP.mixed hP.tab (fn_at hP fn141) 1 rfl (by decide +kernel) rfl ?_
  intro ar har
  cbv
  repeat' (first | (with_reducible refine and_side ?_ ?_; rotate_left; try cbv) | (exact side_app0 har (by assumption) (by omega)))
  refine LoopP.mk (List UInt8 × List (List T) × Int) [3, 4] [] (fun x => ⟨[(3, .one (.row 16 0)), (4, .one (.t (.int .i64 x.2.2)))], [(16, .row 1 x.2.1 0 [0] false)]⟩)
    (fun x => encB x.1 = x.2.1 ∧ 0 ≤ x.2.2 ∧ x.1 = (l.take x.2.2.toNat).map lowCh ++ l.drop x.2.2.toNat) (fun x => l.length - x.2.2.toNat) (l, ?y, 0) ?e ?f ?g
  case e => rfl
  case f => subst har; exact ⟨hl, Int.le_refl 0, by simp⟩
  case g =>
    intro x hx
    obtain ⟨m, ms, i⟩ := x
    have hm : encB m = ms := hx.1
    have hi0 : 0 ≤ i := hx.2.1
    have hmm : m = (l.take i.toNat).map lowCh ++ l.drop i.toNat := hx.2.2
    clear hx
    cbv
    repeat' (first | (intro; cbv) | (with_reducible refine and_side ?_ ?_; rotate_left; try cbv) | (refine br_intro ?_ ?_ <;> intro <;> cbv) | (refine get_at har (by assumption) (by assumption) (by assumption) (by assumption) ?_; cbv) | (refine get_lt har (by assumption) (by assumption) (by assumption) ?_; intro x xx hx hxx; cbv) | (exact side_lt har (by assumption) (by assumption)))
    all_goals have hlen := encB_len hm
    all_goals have hml : m.length = l.length := by rw [hmm]; simp; omega
    · subst har; simp only [std, icmpS, decide_eq_true_eq, decide_eq_false_iff_not, Bool.not_eq_true', Bool.not_eq_false', bne_iff_ne, ne_eq, bne_eq_false_iff_eq, beq_iff_eq, beq_eq_false_iff_ne, Int.not_lt, Int.not_le, Bool.not_true, Bool.not_false, reduceCtorEq] at *
      obtain ⟨s1, s2⟩ := low_step hmm hx
      rw [addI (a := i) (b := 1) (by omega) (by omega), enc_set hm (byteOf_add xx 32)]
      rw [lowCh, if_pos (by omega), hxx] at s2
      exact ⟨(m.set i.toNat (byteOf (xx + 32)), encB (m.set i.toNat (byteOf (xx + 32))), i + 1), by kernel_rfl, ⟨rfl, by dsimp only; omega, by dsimp only; rw [s2, show (i + 1).toNat = i.toNat + 1 by omega]⟩, by dsimp only; omega⟩
    iterate 2
      · subst har; simp only [std, icmpS, decide_eq_true_eq, decide_eq_false_iff_not, Bool.not_eq_true', Bool.not_eq_false', bne_iff_ne, ne_eq, bne_eq_false_iff_eq, beq_iff_eq, beq_eq_false_iff_ne, Int.not_lt, Int.not_le, Bool.not_true, Bool.not_false, reduceCtorEq] at *
        obtain ⟨s1, s2⟩ := low_step hmm hx
        rw [addI (a := i) (b := 1) (by omega) (by omega)]
        rw [lowCh, if_neg (by omega), List.set_getElem?_self hx] at s2
        exact ⟨(m, ms, i + 1), by kernel_rfl, ⟨hm, by dsimp only; omega, by dsimp only; rw [show (i + 1).toNat = i.toNat + 1 by omega, ← s2]⟩, by dsimp only; omega⟩
    · subst har; simp only [std, icmpS, decide_eq_true_eq, decide_eq_false_iff_not, Bool.not_eq_true', Bool.not_eq_false', bne_iff_ne, ne_eq, bne_eq_false_iff_eq, beq_iff_eq, beq_eq_false_iff_ne, Int.not_lt, Int.not_le, Bool.not_true, Bool.not_false, reduceCtorEq] at *
      refine ⟨⟨rfl, ?_⟩⟩
      rw [← hm, hmm, List.take_of_length_le (by omega), List.drop_of_length_le (by omega), List.append_nil]; rfl
end Go.TL.Tryz

/- TfNmU -/
namespace Go.TL.Tryz
open Go Go.TL Go.Proofs
variable {P : Program}

def splitL : List UInt8 → List UInt8 → List (List UInt8)
  | [], lab => if lab = [] then [] else [lower lab]
  | c :: r, lab => if c = 46 then lower lab :: splitL r [] else splitL r (lab ++ [c])
def nameOfB (b : List UInt8) : List (List UInt8) := if b = [] then [[]] else splitL b []
def nameRead (b : List UInt8) : List (List UInt8) × Bool :=
  if b = [46] then ([], true) else if nameOk (nameOfB b) then (nameOfB b, true) else ([], false)
/-- What is still to come. -/
def restL (b r lab : List UInt8) : List (List UInt8) := if b = [] then [[]] else splitL r lab

theorem drop_at {α : Type} {b : List α} {i : Nat} {x : α} (hx : b[i]? = some x) : b.drop i = x :: b.drop (i + 1) := by
  obtain ⟨h1, h2⟩ := List.getElem?_eq_some_iff.1 hx
  rw [List.drop_eq_getElem_cons h1, h2]
theorem ne_nil_at {α : Type} {b : List α} {i : Nat} {x : α} (hx : b[i]? = some x) : b ≠ [] := by intro e; rw [e] at hx; simp at hx
theorem rd_step {b lab : List UInt8} {n : List (List UInt8)} {i : Nat} {x : UInt8} {xx : Int} (hx : b[i]? = some x) (hxx : iB x = xx) (h46 : ¬ xx = 46) (h : n ++ restL b (b.drop i) lab = nameOfB b) : n ++ restL b (b.drop (i + 1)) (lab ++ [x]) = nameOfB b := by
  have : x ≠ 46 := fun e => h46 (by rw [← hxx, e]; rfl)
  rw [restL, if_neg (ne_nil_at hx), drop_at hx, splitL, if_neg this] at h
  rw [restL, if_neg (ne_nil_at hx)]; exact h
theorem rd_dot {b lab : List UInt8} {n : List (List UInt8)} {i : Nat} {x : UInt8} {xx : Int} (hx : b[i]? = some x) (hxx : iB x = xx) (h46 : xx = 46) (h : n ++ restL b (b.drop i) lab = nameOfB b) : n ++ [lower lab] ++ restL b (b.drop (i + 1)) [] = nameOfB b := by
  have : x = 46 := iB_inj (by rw [hxx, h46]; rfl)
  rw [restL, if_neg (ne_nil_at hx), drop_at hx, splitL, if_pos this] at h
  rw [restL, if_neg (ne_nil_at hx), List.append_assoc]; exact h
theorem rd_end {b lab : List UInt8} {n : List (List UInt8)} {i : Nat} (hi : b.length ≤ i) (hb : b = [] ∨ lab ≠ []) (hc : b = [] → n = [] ∧ lab = []) (h : n ++ restL b (b.drop i) lab = nameOfB b) : n ++ [lower lab] = nameOfB b := by
  by_cases e : b = []
  · obtain ⟨rfl, rfl⟩ := hc e; subst e; rfl
  · rw [restL, if_neg e, List.drop_of_length_le hi, splitL, if_neg (hb.resolve_left e)] at h; exact h
theorem rd_end0 {b : List UInt8} {n : List (List UInt8)} {i : Nat} (hi : b.length ≤ i) (hb : b ≠ []) (h : n ++ restL b (b.drop i) [] = nameOfB b) : n = nameOfB b := by
  rw [restL, if_neg hb, List.drop_of_length_le hi, splitL, if_pos rfl, List.append_nil] at h; exact h
def rdK (b : List UInt8) (r : A) (ob : Obs) : Prop := r = .tup [.agg [.row 32 0], .one (.t (.bool (nameRead b).2))] ∧ ob = [(32, .row 1 (encN (nameRead b).1) 0 [0] false)]
theorem rd_true {b : List UInt8} {n : List (List UInt8)} {ns : List (List T)} (h1 : ¬ b = [46]) (hn : encN n = ns) (e : n = nameOfB b) (hv : nameOk n = true) :
    rdK b (.tup [.agg [.row 32 0], .one (.t (.bool true))]) [(32, .row 1 ns 0 [0] false)] := by
  unfold rdK; rw [nameRead, if_neg h1, ← e, if_pos hv, ← hn]; exact ⟨rfl, rfl⟩
theorem rd_false {b : List UInt8} {n : List (List UInt8)} (h1 : ¬ b = [46]) (e : n = nameOfB b) (hv : nameOk n = false) :
    rdK b (.tup [.agg [.row 32 0], .one (.t (.bool false))]) [(32, .row 1 [] 0 [0] false)] := by
  unfold rdK; rw [nameRead, if_neg h1, ← e, if_neg (by rw [hv]; simp)]; exact ⟨rfl, rfl⟩
set_option maxRecDepth 20000 in
theorem fn102 : Tryz.prog.funcs[102]? = some Tryz.f102 := rfl
set_option maxHeartbeats 40000000 in
set_option maxRecDepth 3000 in
theorem sNameRead (hP : Prg P) {b : List UInt8} {es : List (List T)} (hl : encB b = es) (hb : b.length ≤ 900000) :
    ACall P 102 [.one (.t (.sl es))] [] (fun r ob => r = .tup [.agg [.row 32 0], .one (.t (.bool (nameRead b).2))] ∧ ob = [(32, .row 1 (encN (nameRead b).1) 0 [0] false)]) := by
  refine acall_fn (md := md) [some [(0, 1)], none] v102 hP.mixed hP.tab (fn_at hP fn102) 1 rfl (by decide +kernel) rfl ?_
  intro ar har
  cbv
  repeat' (first | (refine br_intro ?_ ?_ <;> intro <;> cbv) | (refine bytes_intro (by assumption) ?_; cbv))
  · subst har; simp only [std, icmpS, decide_eq_true_eq, decide_eq_false_iff_not, Bool.not_eq_true', Bool.not_eq_false', bne_iff_ne, ne_eq, bne_eq_false_iff_eq, beq_iff_eq, beq_eq_false_iff_ne, Int.not_lt, Int.not_le, Bool.not_true, Bool.not_false, reduceCtorEq] at *
    rename_i h1
    exact ⟨⟨by simp only [nameRead, if_pos h1], by simp only [nameRead, if_pos h1]; rfl⟩⟩
  rename_i h1
  have h1 : b ≠ [46] := by subst har; simpa [std] using h1
  refine LoopP.mk (List UInt8 × List (List T) × List (List UInt8) × List (List T) × Int) [0, 2, 3, 4, 5, 6] [.cell 4 0 1 12, .tmp 5 0 1 13]
    (fun x => ⟨[(0, .one (.t (.sl es))), (2, .one (.ptr 16 0)), (3, .one (.t (.bool false))), (4, .one (.ptr 17 0)), (5, .one (.row 18 0)), (6, .one (.t (.int .i64 x.2.2.2.2)))],
      [(16, .box [.nil] false), (17, .box [.row 19 0] false), (18, .row 1 x.2.1 0 [0] false), (19, .row 1 x.2.2.2.1 0 [0] false)]⟩)
    (fun x => x.2.2.2.2.toNat ≤ b.length + 1 ∧ encB x.1 = x.2.1 ∧ encN x.2.2.1 = x.2.2.2.1 ∧ 0 ≤ x.2.2.2.2 ∧ x.1.length ≤ x.2.2.2.2.toNat ∧ x.2.2.1.length ≤ x.2.2.2.2.toNat ∧
      (x.2.2.2.2.toNat ≤ b.length ∧ x.2.2.1 ++ restL b (b.drop x.2.2.2.2.toNat) x.1 = nameOfB b ∧ (b = [] → x.2.2.1 = [] ∧ x.1 = []) ∨ x.2.2.2.2.toNat = b.length + 1 ∧ x.2.2.1 = nameOfB b))
    (fun x => b.length + 1 - x.2.2.2.2.toNat) ([], [], [], [], 0) ?e ?f ?g
  case e => kernel_rfl
  case f => exact ⟨by simp, rfl, rfl, Int.le_refl _, by simp, by simp, .inl ⟨by simp, by simp [restL, nameOfB], fun _ => ⟨rfl, rfl⟩⟩⟩
  case g =>
    intro x hx
    obtain ⟨lab, labs, n, ns, i⟩ := x
    have hib : i.toNat ≤ b.length + 1 := hx.1
    replace hx := hx.2
    have hlab : encB lab = labs := hx.1
    have hn : encN n = ns := hx.2.1
    have hi0 : 0 ≤ i := hx.2.2.1
    have hb1 : lab.length ≤ i.toNat := hx.2.2.2.1
    have hb2 : n.length ≤ i.toNat := hx.2.2.2.2.1
    have hin : (i.toNat ≤ b.length ∧ n ++ restL b (b.drop i.toNat) lab = nameOfB b ∧ (b = [] → n = [] ∧ lab = []) ∨ i.toNat = b.length + 1 ∧ n = nameOfB b) := hx.2.2.2.2.2
    clear hx
    cbv
    repeat' (first | (intro; cbv) | (with_reducible refine and_side ?_ ?_; rotate_left; try cbv) | (refine ChkP.mk (by decide +kernel) ?_; cbv) | (refine br_intro ?_ ?_ <;> intro <;> cbv) | (refine get_at har (by assumption) (by assumption) (by assumption) (by assumption) ?_; cbv) | (refine get_lt har (by assumption) (by assumption) (by assumption) ?_; intro x xx hx hxx; cbv) | (exact side_one har (by assumption) (by omega)) | (exact side_oneN har (by assumption) (by omega)) | (exact side_flat har (by assumption)) | (refine calld_intro (sLower hP (by assumption) (by omega)) ?_; generalize hms : encB (lower _) = ms; cbv) | (refine call_intro (sNameOk hP (by assumption)) ?_; rintro r ob ⟨rfl, rfl⟩; generalize hv : nameOk _ = v; cbv))
    all_goals have hlen := encB_len hl
    all_goals have hlen2 := encB_len hlab
    all_goals subst har; simp only [std, icmpS, decide_eq_true_eq, decide_eq_false_iff_not, Bool.not_eq_true', Bool.not_eq_false', bne_iff_ne, ne_eq, bne_eq_false_iff_eq, beq_iff_eq, beq_eq_false_iff_ne, Int.not_lt, Int.not_le, Bool.not_true, Bool.not_false, reduceCtorEq] at *
    all_goals rcases hin with ⟨q1, q2, q3⟩ | ⟨q1, q2⟩
    all_goals first
      | (exfalso; omega)
      | skip
    all_goals first
      | (rw [addI (a := i) (b := 1) (by omega) (by omega)]
         exact ⟨(lab ++ [x], labs ++ [[.int .u8 xx]], n, ns, i + 1), by kernel_rfl, ⟨by dsimp only; omega, enc_app hlab (enc_iB hxx), hn, by dsimp only; omega, by simp; omega, by dsimp only; omega,
           .inl ⟨by dsimp only; omega, by dsimp only; rw [show (i + 1).toNat = i.toNat + 1 by omega]; exact rd_step hx hxx (by assumption) q2, fun e => absurd e (ne_nil_at hx)⟩⟩, by dsimp only; omega⟩)
      | (rw [addI (a := i) (b := 1) (by omega) (by omega)]
         exact ⟨([], [], n ++ [lower lab], ns ++ [[.sl ms]], i + 1), by kernel_rfl, ⟨by dsimp only; omega, rfl, encN_app hn (encN_one hms), by dsimp only; omega, by simp, by simp; omega,
           .inl ⟨by dsimp only; omega, by dsimp only; rw [show (i + 1).toNat = i.toNat + 1 by omega]; exact rd_dot hx hxx (by assumption) q2, fun e => absurd e (ne_nil_at hx)⟩⟩, by dsimp only; omega⟩)
      | (rw [addI (a := i) (b := 1) (by omega) (by omega)]
         have hbl : b = [] ∨ lab ≠ [] := by
           by_cases e : lab = []
           · exact .inl (List.eq_nil_of_length_eq_zero (by have e2 : lab.length = 0 := (congrArg List.length e).trans rfl; omega))
           · exact .inr e
         exact ⟨([], [], n ++ [lower lab], ns ++ [[.sl ms]], i + 1), by kernel_rfl, ⟨by dsimp only; omega, rfl, encN_app hn (encN_one hms), by dsimp only; omega, by simp, by simp; omega,
           .inr ⟨by dsimp only; omega, rd_end (by omega) hbl q3 q2⟩⟩, by dsimp only; omega⟩)
      | exact ⟨rd_true h1 hn q2 (by rw [hv]; assumption)⟩
      | exact ⟨rd_false h1 q2 (by rw [hv]; assumption)⟩
      | (have hlab0 : lab = [] := List.eq_nil_of_length_eq_zero (by omega)
         subst hlab0
         have q4 := rd_end0 (by omega) (by intro e; subst e; simp at hlen; omega) q2
         first
           | exact ⟨rd_true h1 hn q4 (by rw [hv]; assumption)⟩
           | exact ⟨rd_false h1 q4 (by rw [hv]; assumption)⟩)
end Go.TL.Tryz

/- TfNmV -/
namespace Go.TL.Tryz
open Go Go.TL Go.Proofs
variable {P : Program}

/-- A name that is no longer than drawn ones are. -/
def NmB (n : List (List UInt8)) : Prop := n.length ≤ 7 ∧ ∀ l ∈ n, l.length ≤ 16
theorem nmB_read (b : List UInt8) : NmB (nameRead b).1 ∧ (nameRead b).1.length ≤ 6 := by
  unfold nameRead
  split
  · exact ⟨⟨by simp, by simp⟩, by simp⟩
  · split
    · rename_i h
      simp only [nameOk, Bool.and_eq_true, decide_eq_true_eq, List.all_eq_true] at h
      refine ⟨⟨by simp only; omega, fun l hl => ?_⟩, h.1⟩
      have := h.2 l hl
      simp only [labelOk, Bool.and_eq_true, decide_eq_true_eq] at this
      omega
    · exact ⟨⟨by simp, by simp⟩, by simp⟩
set_option maxRecDepth 20000 in
theorem fn59 : Tryz.prog.funcs[59]? = some Tryz.f59 := rfl
set_option maxHeartbeats 40000000 in
set_option maxRecDepth 3000 in
theorem of_w (hP : Prg P) {s : List UInt8} (hs : s.length ≤ 900000) : ACall P 59 [.one (.t (.str s))] []
    (fun r ob => r = .agg [.row 32 0] ∧ ob = [(32, .row 1 (encN (nameRead s).1) 0 [0] false)]) := by
  refine acall_fn (md := md) [some [(0, 1)]] v59 hP.mixed hP.tab (fn_at hP fn59) 1 rfl (by decide +kernel) rfl ?_
  intro ar har
  cbv
  repeat' (first | (with_reducible refine and_side ?_ ?_; rotate_left; try cbv) | (exact side_sbig har (by omega)))
  refine call_intro (sNameRead hP (b := s) (by subst har; rfl) hs) ?_
  rintro r ob ⟨rfl, rfl⟩
  generalize hx : encN (nameRead s).1 = x
  generalize (nameRead s).2 = y
  cbv
  exact ⟨⟨rfl, rfl⟩⟩
end Go.TL.Tryz
