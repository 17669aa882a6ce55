/- Texts of a proof, joined by a program (merge.py): TlP TlS TlU TlV TlW. -/
import Derived.Test.YtpnhfpjpmjdgmaaGreatDoorV03
set_option linter.all false
/- TlP -/
namespace Go.TL
open Go

variable {P : Program} {E : Env P} {ok : Nat → Prop} {hd : HF} {tm : Nat → Option A} {ob : OF} {w : World} {a : Act} {K : A → Obs → Prop} {o : Oper} {tab : TF} {cl : Nat → List A → Obs → (A → Obs → Prop) → Prop} {tmps : Array Value}

theorem memB_iff' {n : Nat} : ∀ {l : List Nat}, memB n l = true ↔ n ∈ l
  | [] => by simp [memB]
  | m :: r => by
    simp only [memB]
    cases h : eqB n m with
    | true => simp [eq_of_eqB h]
    | false =>
      have : n ≠ m := fun e => by subst e; simp at h
      simp [memB_iff' (l := r), this]
theorem memB_false' {n : Nat} {l : List Nat} : memB n l = false ↔ n ∉ l := by
  rw [← Bool.not_eq_true, memB_iff']
theorem nodupB_iff' : ∀ {l : List Nat}, nodupB l = true ↔ l.Nodup
  | [] => by simp [nodupB]
  | n :: r => by
    simp only [nodupB]
    cases h : memB n r with
    | true => simp [memB_iff'.1 h]
    | false => simp [memB_false'.1 h, nodupB_iff' (l := r)]
theorem updO_append' (ob : OF) (l m : Obs) : updO ob (l ++ m) = updO (updO ob l) m := by
  funext n
  simp only [updO, List.reverse_append, look_append]
  cases look m.reverse n <;> rfl
theorem Le.trans' {h1 h2 h3 : HF} {o1 o2 o3 : OF} (a : Le h1 o1 h2 o2) (b : Le h2 o2 h3 o3) : Le h1 o1 h3 o3 where
  box o cs fz h := by
    obtain ⟨cs', fz', h', e⟩ := a.box o cs fz h
    obtain ⟨cs'', fz'', h'', e'⟩ := b.box o cs' fz' h'
    exact ⟨cs'', fz'', h'', e'.trans e⟩
  row o sz es cur tags fz h := by
    obtain ⟨es', cur', tags', fz', h', ht, hc⟩ := a.row o sz es cur tags fz h
    obtain ⟨es2, cur2, tags2, fz2, h2', ht2, hc2⟩ := b.row o sz es' cur' tags' fz' h'
    refine ⟨es2, cur2, tags2, fz2, h2', fun g hg => ht2 g (ht g hg), ?_⟩
    rcases hc2 with ⟨e1, e2, e3⟩ | ⟨hn, hn7⟩
    · rcases hc with ⟨f1, f2, f3⟩ | ⟨hn, hn7⟩
      · exact .inl ⟨e1.trans f1, e2.trans f2, e3.trans f3⟩
      · exact .inr (e1 ▸ ⟨hn, hn7⟩)
    · exact .inr ⟨fun q => hn (ht _ q), hn7⟩

theorem cls_D {s : Nat} (h : s < 1000000) : cls (s + 1000000) false = .d := by
  have h1 : ltB (s + 1000000) 1000000 = false := by simp [ltB]
  have h2 : ltB (s + 1000000) 2000000 = true := by simp [ltB]; omega
  simp [cls, h1, h2]
theorem wd_D {s : Nat} (h : s < 1000000) : wd (s + 1000000) = s := by unfold wd; omega

/-- An own row is taken: its blocks are another's. -/
theorem Rel.steal {n m Z sn sm cn cm : Nat} {en em : List (List T)} {tn tg : List Nat} (R : Rel E ok hd tm ob tmps w) (hnm : m ≠ n) (hn : ob n = some (.row sn en cn tn false)) (hcl : cls sn false = .d)
    (hm : ob m = some (.row sm em cm tg false)) (hT : Z ∉ tg ∧ Z ≠ 7) : ∃ hd1, Rel E ok hd1 tm (setF ob m (some (.row sm [] Z (Z :: tg) false))) tmps w ∧ Le hd ob hd1 (setF ob m (some (.row sm [] Z (Z :: tg) false))) ∧
      (hd1 n).v = (hd n).v ∧ (hd1 n).sub = (hd n).sub ∧ (∀ b, b ∈ (hd1 n).own ↔ b ∈ (hd n).own ∨ b ∈ (hd m).own) ∧ ∀ k, k ≠ n → k ≠ m → hd1 k = hd k := by
  have hnn : ob n ≠ none := by rw [hn]; simp
  have hmn : ob m ≠ none := by rw [hm]; simp
  let hd1 : HF := setF (setF hd n ⟨(hd n).v, (hd n).own ++ (hd m).own, (hd n).sub⟩) m (hdOf (.slice none 0 0) [])
  have e_m : hd1 m = hdOf (.slice none 0 0) [] := setF_same _ _ _
  have e_n : hd1 n = ⟨(hd n).v, (hd n).own ++ (hd m).own, (hd n).sub⟩ := by
    show setF (setF hd n _) m _ n = _
    rw [setF_ne _ _ _ _ (Ne.symm hnm), setF_same]
  have e_o : ∀ k, k ≠ n → k ≠ m → hd1 k = hd k := fun k h1 h2 => by
    show setF (setF hd n _) m _ k = _
    rw [setF_ne _ _ _ _ h2, setF_ne _ _ _ _ h1]
  have le : Le hd ob hd1 (setF ob m (some (.row sm [] Z (Z :: tg) false))) := by
    refine ⟨fun k cs fz hk => ?_, fun k sz es cur tags fz hk => ?_⟩
    · have h1 : k ≠ m := fun q => by subst q; rw [hm] at hk; cases hk
      have h2 : k ≠ n := fun q => by subst q; rw [hn] at hk; cases hk
      exact ⟨cs, fz, by rw [setF_ne _ _ _ _ h1]; exact hk, by rw [e_o k h2 h1]⟩
    · by_cases h1 : k = m
      · subst h1
        rw [hm] at hk; injection hk with hk; injection hk with q1 q2 q3 q4 q5; subst q1; subst q3; subst q4
        exact ⟨[], Z, Z :: tg, false, setF_same _ _ _, fun g hg => .tail _ hg, .inr hT⟩
      · refine ⟨es, cur, tags, fz, by rw [setF_ne _ _ _ _ h1]; exact hk, fun _ h => h, .inl ⟨rfl, ?_⟩⟩
        by_cases h2 : k = n
        · subst h2; rw [e_n]; exact ⟨rfl, rfl⟩
        · rw [e_o k h2 h1]; exact ⟨rfl, rfl⟩
  have hne' : ∀ k, setF ob m (some (.row sm [] Z (Z :: tg) false)) k ≠ none → ob k ≠ none := by
    intro k hk
    by_cases h1 : k = m
    · subst h1; exact hmn
    · rwa [setF_ne _ _ _ _ h1] at hk
  -- whose a block was
  have was : ∀ k b, ob k ≠ none → b ∈ (hd1 k).own → ∃ k', ob k' ≠ none ∧ b ∈ (hd k').own ∧ (k' = k ∨ (k = n ∧ k' = m)) ∧ k ≠ m := by
    intro k b hk hb
    by_cases h1 : k = m
    · subst h1; rw [e_m] at hb; cases hb
    · by_cases h2 : k = n
      · subst h2
        rw [e_n] at hb
        rcases List.mem_append.1 hb with h | h
        · exact ⟨k, hk, h, .inl rfl, h1⟩
        · exact ⟨m, hmn, h, .inr ⟨rfl, rfl⟩, h1⟩
      · rw [e_o k h2 h1] at hb
        exact ⟨k, hk, hb, .inl rfl, h1⟩
  refine ⟨hd1, { okLt := R.okLt, own := ?_, disj := ?_, obs := ?_, fr := R.fr, ok0 := R.ok0, okSub := R.okSub, ownSub := ?_, nt := R.nt, kp := R.kp.trans le.keep, tms := ?_ }, le, by rw [e_n], by rw [e_n], fun b => by rw [e_n]; exact List.mem_append, e_o⟩
  · intro k b hk hb
    obtain ⟨k', h1, h2, _⟩ := was k b (hne' k hk) hb
    exact R.own k' b h1 h2
  · intro k l b hkl hk hl hb hb2
    obtain ⟨k', h1, h2, h3, h5⟩ := was k b (hne' k hk) hb
    obtain ⟨l', g1, g2, g3, g5⟩ := was l b (hne' l hl) hb2
    have : k' ≠ l' := by
      rcases h3 with rfl | ⟨rfl, rfl⟩ <;> rcases g3 with rfl | ⟨rfl, rfl⟩
      · exact hkl
      · exact h5
      · exact fun e => g5 e.symm
      · exact absurd rfl hkl
    exact R.disj k' l' b this h1 g1 h2 g2
  · intro k x hk
    by_cases h1 : k = m
    · subst h1
      rw [setF_same] at hk
      injection hk with hk; subst hk
      rw [e_m]
      obtain ⟨_, hz, _⟩ := R.obs k _ hm
      refine ⟨by simp, hz, ?_⟩
      cases hc : cls sm false with
      | s => exact .inl ⟨rfl, rfl, rfl⟩
      | d => exact .inl ⟨rfl, rfl⟩
      | p => exact .inl ⟨rfl, none, 0, rfl, fun _ => rfl⟩
      | f => exact absurd hc cls_false_f
    · rw [setF_ne _ _ _ _ h1] at hk
      by_cases h2 : k = n
      · subst h2
        rw [hn] at hk; injection hk with hk; subst hk
        obtain ⟨h0, hz, hR⟩ := R.obs k _ hn
        refine ⟨h0, hz, ?_⟩
        rw [hcl] at hR ⊢
        rcases hR with ⟨e1, e2⟩ | ⟨b, cap, c, e, fr, vs, subs, d, hs⟩
        · exact .inl ⟨e1, by rw [e_n]; exact e2⟩
        · exact .inr ⟨b, cap, c, e, fr, vs, subs, d.mono (by rw [e_n]) (fun q hq => by rw [e_n]; exact List.mem_append_left _ hq) (fun _ _ => rfl), hs⟩
      · rw [e_o k h2 h1]
        exact (R.obs k x hk).mono (fun _ h => h) (fun _ _ => rfl) (fun _ _ => rfl) le
  · intro k b hk hb
    obtain ⟨k', h1, h2, _⟩ := was k b (hne' k hk) hb
    exact R.ownSub k' b h1 h2
  · exact fun t x hx => (R.tms t x hx).mono (fun _ h => h) (fun _ _ => rfl) le

theorem tomb_congr {lk lk' : OF} {Z : Nat} : ∀ {l : List Nat}, (∀ k, k ∈ l → lk k = lk' k) → tomb lk Z l = tomb lk' Z l
  | [], _ => rfl
  | m :: r, h => by
    have h1 := h m (by simp)
    have h2 := tomb_congr (Z := Z) (l := r) fun k hk => h k (by simp [hk])
    simp only [tomb, h1, h2]
/-- Own rows are taken, one by one. -/
theorem Rel.absorb {n Z sn cn : Nat} {en : List (List T)} {tn : List Nat} (hcl : cls sn false = .d) (h7 : Z ≠ 7) : ∀ (cs : List Nat) {hd : HF} {ob : OF}, Rel E ok hd tm ob tmps w → ob n = some (.row sn en cn tn false) → (n :: cs).Nodup →
    (∀ m, m ∈ cs → ∃ sm em cm tg, ob m = some (.row sm em cm tg false) ∧ Z ∉ tg) →
    ∃ hd1, Rel E ok hd1 tm (updO ob (tomb ob Z cs)) tmps w ∧ Le hd ob hd1 (updO ob (tomb ob Z cs)) ∧ updO ob (tomb ob Z cs) n = ob n ∧ (hd1 n).v = (hd n).v ∧ (hd1 n).sub = (hd n).sub ∧
      (∀ b, b ∈ (hd n).own → b ∈ (hd1 n).own) ∧ ∀ m, m ∈ cs → ∀ b, b ∈ (hd m).own → b ∈ (hd1 n).own
  | [], hd, ob, R, hn, _, _ => ⟨hd, R, Le.refl _ _, rfl, rfl, rfl, fun _ h => h, fun m hm => by cases hm⟩
  | m :: r, hd, ob, R, hn, hnd, hcs => by
    simp only [List.nodup_cons, List.mem_cons, not_or] at hnd
    obtain ⟨⟨h1, h2⟩, h3, h4⟩ := hnd
    obtain ⟨sm, em, cm, tg, hm, hT⟩ := hcs m (by simp)
    obtain ⟨hd1, R1, le1, v1, s1, o1, k1⟩ := R.steal (Ne.symm h1) hn hcl hm ⟨hT, h7⟩
    have hn1 : setF ob m (some (.row sm [] Z (Z :: tg) false)) n = some (.row sn en cn tn false) := by rw [setF_ne _ _ _ _ h1]; exact hn
    have hr : ∀ k, k ∈ r → k ≠ m := fun k hk q => h3 (q ▸ hk)
    obtain ⟨hd2, R2, le2, n2, v2, s2, o2, k2⟩ := Rel.absorb hcl h7 r R1 hn1 (by simp [h2, h4]) (fun k hk => by
      obtain ⟨a1, a2, a3, a4, a5, a6⟩ := hcs k (by simp [hk])
      exact ⟨a1, a2, a3, a4, by rw [setF_ne _ _ _ _ (hr k hk)]; exact a5, a6⟩)
    have et : tomb (setF ob m (some (.row sm [] Z (Z :: tg) false))) Z r = tomb ob Z r := tomb_congr fun k hk => setF_ne _ _ _ _ (hr k hk)
    have e : updO ob (tomb ob Z (m :: r)) = updO (setF ob m (some (.row sm [] Z (Z :: tg) false))) (tomb (setF ob m (some (.row sm [] Z (Z :: tg) false))) Z r) := by
      rw [et, ← updO_one, ← updO_append']
      simp [tomb, hm]
    rw [e]
    refine ⟨hd2, R2, le1.trans' le2, n2.trans (hn1.trans hn.symm), v2.trans v1, s2.trans s1, fun b hb => o2 b ((o1 b).2 (.inl hb)), fun k hk b hb => ?_⟩
    rcases List.mem_cons.1 hk with q | hk
    · subst q; exact o2 b ((o1 b).2 (.inr hb))
    · refine k2 k hk b ?_
      rw [k1 k (fun q => h2 (q ▸ hk)) (hr k hk)]
      exact hb
theorem flatsR_inv {k : SR} : ∀ {l : List (List (List T))}, (flatsR std l k).holds std cl K → (∀ es, es ∈ l → std.flat es) ∧ k.holds std cl K
  | [], h => ⟨fun es h => (by cases h), h⟩
  | e :: r, h => by
    obtain ⟨h1, h2⟩ := h
    obtain ⟨i1, i2⟩ := flatsR_inv h2
    refine ⟨fun es hes => ?_, i2⟩
    rcases List.mem_cons.1 hes with q | q
    · subst q; exact h1
    · exact i1 es q
theorem RowS.dp {h : Hd} {sz : Nat} {es : List (List T)} (hR : RowS w ok h sz es false) (hf : std.flat es) : Dp w (fun b => b ∈ h.own) h.v (.sl es) := by
  rcases hR with ⟨rfl, h1, _⟩ | ⟨b, c, e, fr, cap, h1, h2, h3, h4, h5, h6, h7, h7', h8, h9⟩
  · rw [h1]; exact .snil _
  · have hsel : ∀ i j : Nat, ∃ v : Value, ∀ x t, es[i]? = some x → x[j]? = some t → c[i * sz + j]? = some v ∧ Rep w ok v t := by
      intro i j
      cases hx : es[i]? with
      | none => exact ⟨undef, fun x t q => by cases q⟩
      | some x =>
        cases ht : x[j]? with
        | none => exact ⟨undef, fun x' t q q' => by injection q with q; subst q; rw [ht] at q'; cases q'⟩
        | some t =>
          obtain ⟨v, hv, hr⟩ := h9 i j x t hx ht
          exact ⟨v, fun x' t' q q' => by injection q with q; subst q; rw [ht] at q'; injection q' with q'; subst q'; exact ⟨hv, hr⟩⟩
    obtain ⟨vs, hvs⟩ := Classical.axiomOfChoice fun p : Nat × Nat => hsel p.1 p.2
    rw [h1]
    exact .sl _ b cap sz es c e fr (fun i j => vs (i, j)) (fun _ _ _ => False) h7' h7 h8 (by rw [h2]; simp) h4 h5 (fun i j x t hx ht => (hvs (i, j) x t hx ht).1)
      (fun i j x t hx ht => (hvs (i, j) x t hx ht).2.dp (hf x (List.mem_of_getElem? hx) t (List.mem_of_getElem? ht))) (fun _ _ _ h => h.elim) (fun _ _ _ _ _ h => h.elim)
/-- An own row, taken as it is. -/
theorem ObR.dp {h : Hd} {sz : Nat} {es : List (List T)} {cur : Nat} {tags : List Nat} (hR : ObR w ok hd ob h (.row sz es cur tags false)) (hf : cls sz false = .s → std.flat es) : Dp w (fun b => b ∈ h.own) h.v (.sl es) := by
  obtain ⟨_, _, hR⟩ := hR
  cases hc : cls sz false with
  | s => rw [hc] at hR; exact RowS.dp hR (hf hc)
  | d =>
    rw [hc] at hR
    rcases hR with ⟨rfl, h1⟩ | ⟨b, cap, c, e, fr, vs, subs, d, _⟩
    · rw [h1]; exact .snil _
    · exact d.toDp
  | p =>
    rw [hc] at hR
    rcases hR with ⟨rfl, x, n, h1, h2⟩ | ⟨b, cap, c, e, fr, vs, subs, d, _⟩
    · rw [h1]
      cases x with
      | none => rw [h2 rfl]; exact .snil _
      | some x => exact .szero _ x n
    · exact d.toDp
  | f => exact absurd hc cls_false_f

/-- What the cells that are taken read as: each with blocks of its own. -/
theorem absC_rel (R : ORel ok hd ob w) : ∀ {vs : List V} {b : Abs} {cvs : List Value}, absC ob vs = some b → cvs.length = vs.length → (∀ (i : Nat) c x, cvs[i]? = some c → vs[i]? = some x → VR w ok hd ob c x) → (∀ es, es ∈ b.fl → std.flat es) → b.cs.Nodup →
    cvs.length = b.ts.length ∧ (∀ m, m ∈ b.cs → ∃ sm em cm tg, ob m = some (.row sm em cm tg false)) ∧ (∀ v ∈ cvs, v.oneCell' = true) ∧ ∃ S : Nat → Nat → Prop, (∀ (j : Nat) v t, cvs[j]? = some v → b.ts[j]? = some t → Dp w (S j) v t) ∧
      (∀ j k, S j k → ∃ m, m ∈ b.cs ∧ k ∈ (hd m).own) ∧ ∀ j j' k, S j k → S j' k → j = j'
  | [], b, cvs, h, hl, _, _, _ => by
    simp only [absC] at h; injection h with h; subst h
    have : cvs = [] := List.length_eq_zero_iff.1 hl
    subst this
    exact ⟨rfl, fun m hm => (by cases hm), fun v hv => (by cases hv), fun _ _ => False, fun j v t h => by simp at h, fun _ _ h => h.elim, fun _ _ _ h => h.elim⟩
  | x :: r, b, [], h, hl, _, _, _ => by simp at hl
  | x :: r, b, cv :: cvs, h, hl, hv, hf, hnd => by
    unfold absC at h
    split at h
    · cases h
    rename_i b' hb'
    have hv0 := hv 0 cv x rfl rfl
    have hvr : ∀ (i : Nat) c y, cvs[i]? = some c → r[i]? = some y → VR w ok hd ob c y := fun i c y p q => hv (i + 1) c y (by simpa using p) (by simpa using q)
    have hl' : cvs.length = r.length := by simpa using hl
    -- a cell that takes nothing
    have plain : ∀ t, (∀ S, Dp w S cv t) → cv.oneCell' = true → b = ⟨t :: b'.ts, b'.cs, b'.fl⟩ → (cv :: cvs).length = b.ts.length ∧ (∀ m, m ∈ b.cs → ∃ sm em cm tg, ob m = some (.row sm em cm tg false)) ∧ (∀ v ∈ cv :: cvs, v.oneCell' = true) ∧ ∃ S : Nat → Nat → Prop, (∀ (j : Nat) v t, (cv :: cvs)[j]? = some v → b.ts[j]? = some t → Dp w (S j) v t) ∧
        (∀ j k, S j k → ∃ m, m ∈ b.cs ∧ k ∈ (hd m).own) ∧ ∀ j j' k, S j k → S j' k → j = j' := by
      intro t hd' h1 e
      subst e
      obtain ⟨i1, i2, i3, S, i4, i5, i6⟩ := absC_rel R hb' hl' hvr hf hnd
      refine ⟨by simp [i1], i2, fun v hv => ?_, fun j k => match j with | 0 => False | j + 1 => S j k, fun j v t' p q => ?_, fun j k hS => ?_, fun j j' k h1 h2 => ?_⟩
      · rcases List.mem_cons.1 hv with q | q
        · subst q; exact h1
        · exact i3 v q
      · cases j with
        | zero => simp at p q; subst p; subst q; exact hd' _
        | succ j => exact i4 j v t' (by simpa using p) (by simpa using q)
      · cases j with
        | zero => exact hS.elim
        | succ j => exact i5 j k hS
      · cases j with
        | zero => exact h1.elim
        | succ j => cases j' with
          | zero => exact h2.elim
          | succ j' => rw [i6 j j' k h1 h2]
    split at h
    · rename_i c
      cases hfl : flatT c with
      | false => rw [hfl] at h; cases h
      | true =>
        rw [hfl] at h
        injection h with h
        have hr : Rep w ok cv c := hv0
        exact plain c (fun S => hr.dp hfl) hr.oneCell h.symm
    · injection h with h
      have hv0 : cv = .slice none 0 0 := hv0
      subst hv0
      exact plain (.sl []) (fun S => .snil S) rfl h.symm
    · rename_i o g
      split at h
      rotate_left
      · cases h
      rename_i sz es cur tags hob
      cases hg : eqB g cur with
      | false => rw [hg] at h; cases h
      | true =>
        rw [hg] at h
        simp only [cond_true] at h
        obtain ⟨sz', es', cur', tags', fz', p1, p2, p2', p3⟩ := hv0
        rw [hob] at p1; injection p1 with p1; injection p1 with q1 q2 q3 q4 q5; subst q1; subst q2; subst q3; subst q4; subst q5
        have hval := p3 (eq_of_eqB hg)
        have key : b.ts = .sl es :: b'.ts ∧ b.cs = o :: b'.cs ∧ (∀ e, e ∈ b'.fl → std.flat e) ∧ (cls sz false = .s → std.flat es) := by
          split at h
          · injection h with h; subst h
            exact ⟨rfl, rfl, fun e he => hf e (by simp [he]), fun _ => hf es (by simp)⟩
          · rename_i hc
            injection h with h; subst h
            exact ⟨rfl, rfl, hf, fun e => absurd e hc⟩
        obtain ⟨k1, k2, k3, k4⟩ := key
        rw [k2] at hnd
        simp only [List.nodup_cons] at hnd
        obtain ⟨i1, i2, i3, S, i4, i5, i6⟩ := absC_rel R hb' hl' hvr k3 hnd.2
        have hdp := (R.obs o _ hob).dp k4
        rw [k1, k2]
        refine ⟨by simp [i1], fun m hm => ?_, fun v hv => ?_, fun j k => match j with | 0 => k ∈ (hd o).own | j + 1 => S j k, fun j v t' p q => ?_, fun j k hS => ?_, fun j j' k h1 h2 => ?_⟩
        · rcases List.mem_cons.1 hm with q | q
          · subst q; exact ⟨_, _, _, _, hob⟩
          · exact i2 m q
        · rcases List.mem_cons.1 hv with q | q
          · subst q
            obtain ⟨y1, y2, y3, rfl⟩ := p2'
            rfl
          · exact i3 v q
        · cases j with
          | zero => simp at p q; subst p; subst q; rw [hval]; exact hdp
          | succ j => exact i4 j v t' (by simpa using p) (by simpa using q)
        · cases j with
          | zero => exact ⟨o, .head _, hS⟩
          | succ j =>
            obtain ⟨m, h1, h2⟩ := i5 j k hS
            exact ⟨m, .tail _ h1, h2⟩
        · have far : ∀ j, S j k → k ∈ (hd o).own → False := by
            intro j hj hk
            obtain ⟨m, h1, h2⟩ := i5 j k hj
            obtain ⟨y1, y2, y3, y4, hy⟩ := i2 m h1
            exact R.disj m o k (fun q => hnd.1 (q ▸ h1)) (by rw [hy]; simp) (by rw [hob]; simp) h2 hk
          cases j with
          | zero => cases j' with
            | zero => rfl
            | succ j' => exact (far j' h2 h1).elim
          | succ j => cases j' with
            | zero => exact (far j h1 h2).elim
            | succ j' => rw [i6 j j' k h1 h2]
    · cases h
theorem newTag_mem' {lk : OF} {g : Nat} : ∀ {l : List Nat}, newTag lk g l = true → ∀ n, n ∈ l → ∀ sz es cur tags fz, lk n = some (.row sz es cur tags fz) → g ∉ tags
  | [], _, n, h => by cases h
  | a :: l, h, n, hm => by
    intro sz es cur tags fz hx
    simp only [newTag, Bool.and_eq_true] at h
    rcases List.mem_cons.1 hm with e | hm
    · subst e
      have := h.1
      rw [hx] at this
      simp only [Bool.not_eq_true'] at this
      exact memB_false'.1 this
    · exact newTag_mem' h.2 n hm sz es cur tags fz hx

/-- A store of own rows into an element of a row that owns what it leads to. -/
theorem op_storeD {t n : Nat} {x y : Operand} (ho : o.op = .store t x y) (hT : TabOk P tab) (R : Rel E ok hd tm ob a.tmps w) (h : (sStoreD std tab t n ob (ev tm x) (ev tm y)).holds std cl K) : Goes P E tm ob a.tmps K o a w := by
  unfold sStoreD at h
  split at h
  rotate_left
  · exact op_store ho hT R h
  rename_i m g i j av hx hy
  split at h
  rotate_left
  · exact h.elim
  rename_i ti sz es cur tags vs hti hob hvs
  split at h
  rotate_left
  · exact op_store ho hT R (by rw [hx, hy]; exact h)
  rename_i hcl
  split at h
  rotate_left
  · exact h.elim
  rename_i b hb
  obtain ⟨hc, h⟩ := bif_inv h
  simp only [Bool.and_eq_true, Bool.not_eq_true'] at hc
  obtain ⟨c1, c2, c3, c4, c5, c6⟩ := hc
  have hg := eq_of_eqB c1
  have hl := eq_of_eqB c2
  have hle := le_of_leB c3
  have hnd := nodupB_iff'.1 c4
  have h7 : n ≠ 7 := fun e => by subst e; simp at c6
  obtain ⟨hin, h⟩ := h
  obtain ⟨hfl, h⟩ := flatsR_inv h
  obtain ⟨h0, h1⟩ := index_inv hin
  obtain ⟨sz', es', cur', tags', fz', p1, p2, _, p3⟩ := (ev_rel R hx).one_inv
  rw [hob] at p1; injection p1 with p1; injection p1 with q1 q2 q3 q4 q5; subst q1; subst q2; subst q3; subst q4; subst q5
  obtain ⟨_, bk, len, cap, p4, p5⟩ := p3 hg
  obtain ⟨hcur, hz, hR⟩ := R.obs m _ hob
  rw [hcl] at hR
  rcases hR with ⟨he, _⟩ | ⟨b', cap', c, e, fr, vv, subs, d, hs⟩
  · subst he; simp at h1; omega
  have g1 := d.v
  rw [p4] at g1; injection g1 with g1 g1' g1''; injection g1 with g1; injection g1 with g1; subst g1
  obtain ⟨k1, k2⟩ := (ev_rel R hy).cells hvs
  have k1' : (a.eval y).cells.toList.length = vs.length := by simpa using k1
  have hnd' := hnd
  simp only [List.nodup_cons] at hnd'
  obtain ⟨l1, l2, l3, S, l4, l5, l6⟩ := absC_rel R.toORel hb k1' (fun i c x p q => k2 i c x (by simpa using p) q) hfl hnd'.2
  have e1 : (a.eval y).cells.size = ti.size := by rw [← hl, ← l1]; simp
  obtain ⟨hd1, R1, le1, n1, v1, s1, o1, o2⟩ := Rel.absorb (n := m) (Z := n) hcl h7 b.cs R hob hnd (fun k hk => by
    obtain ⟨y1, y2, y3, y4, hy⟩ := l2 k hk
    exact ⟨y1, y2, y3, y4, hy, newTag_mem' c5 k hk _ _ _ _ _ hy⟩)
  have hob1 : updO ob (tomb ob n b.cs) m = some (.row sz es cur tags false) := n1.trans hob
  obtain ⟨hrun, c', m1, m2, m3, m4⟩ := d.runStore (P := P) (t := t) hT hti (i := i.toNat) (j := j) (by omega) (by omega) e1 l3
  have d1 : Deep w (hd1 m) (wd sz) es bk cap' c e fr vv subs := d.mono v1 o1 (fun _ _ => rfl)
  have hne : ob m ≠ none := by rw [hob]; simp
  have hbown : ∀ j k, S j k → k ∈ (hd1 m).own ∧ k ≠ bk ∧ k < w.heap.size ∧ k ∉ (hd m).own := by
    intro j k hS
    obtain ⟨q, h1, h2⟩ := l5 j k hS
    obtain ⟨y1, y2, y3, y4, hy⟩ := l2 q h1
    have hq : ob q ≠ none := by rw [hy]; simp
    have hqm : q ≠ m := fun e => hnd'.1 (e ▸ h1)
    have hno := R.disj q m k hqm hq hne h2
    exact ⟨o2 q h1 k h2, fun e => hno (e ▸ d.own), (R.own q k hq h2).2, hno⟩
  have d2 := d1.store (w' := w.setCells bk (i.toNat * wd sz + j) (a.eval y).cells.toList) (h' := hd1 m) (c' := c') (i := i) (j := j) (l := b.ts) (nv := (a.eval y).cells.toList)
    (subs' := fun i' j' k => if i' = i.toNat ∧ j ≤ j' ∧ j' < j + b.ts.length then S (j' - j) k else subs i' j' k) l1 (by omega) rfl (fun _ h => h) m1 m2 m3
    (fun k hk hkb => m4.block k (R1.own m k (by rw [hob1]; simp) hk).2 (by simpa using hkb))
    (fun i' j' => by
      by_cases q : i' = i.toNat ∧ j ≤ j' ∧ j' < j + b.ts.length
      · exact .inl q
      · refine .inr ?_
        funext k
        simp only [if_neg q])
    (fun k v t hv ht => by
      have hk : k < b.ts.length := by
        by_cases q : k < b.ts.length
        · exact q
        · rw [List.getElem?_eq_none (by omega)] at ht; cases ht
      have := l4 k v t hv ht
      refine this.mono (fun q hq => ?_) fun q hq => m4.block q (hbown k q hq).2.2.1 (by simpa using (hbown k q hq).2.1)
      show if _ then _ else _
      rw [if_pos ⟨rfl, by omega, by omega⟩, Nat.add_sub_cancel_left]
      exact hq)
    (fun i' j' k hk => by
      by_cases q : i' = i.toNat ∧ j ≤ j' ∧ j' < j + b.ts.length
      · rw [if_pos q] at hk
        exact ⟨(hbown _ k hk).1, (hbown _ k hk).2.1⟩
      · rw [if_neg q] at hk
        exact d1.sub i' j' k hk)
    (fun i1 j1 i2 j2 k hk1 hk2 => by
      by_cases q : i1 = i.toNat ∧ j ≤ j1 ∧ j1 < j + b.ts.length
      · rw [if_pos q] at hk1
        by_cases q2 : i2 = i.toNat ∧ j ≤ j2 ∧ j2 < j + b.ts.length
        · rw [if_pos q2] at hk2
          have := l6 _ _ k hk1 hk2
          exact ⟨q.1.trans q2.1.symm, by omega⟩
        · rw [if_neg q2] at hk2
          exact absurd (d.sub i2 j2 k hk2).1 (hbown _ k hk1).2.2.2
      · rw [if_neg q] at hk1
        by_cases q2 : i2 = i.toNat ∧ j ≤ j2 ∧ j2 < j + b.ts.length
        · rw [if_pos q2] at hk2
          exact absurd (d.sub i1 j1 k hk1).1 (hbown _ k hk2).2.2.2
        · rw [if_neg q2] at hk2
          exact d.dis i1 j1 i2 j2 k hk1 hk2)
  have hbn : ∀ b2, b2 ∉ (hd1 m).own → b2 ∉ [bk] := fun b2 h q => h (by simp at q; subst q; exact d1.own)
  have R2 := R1.turn (x' := .row sz (std.setc es i j b.ts) cur tags false) (h' := hd1 m) hob1 ⟨m4.os, m4.tape, m4.output, m4.size, fun b2 h1 h2 => m4.block b2 h1 (hbn b2 h2)⟩
    (fun b2 hb2 => ⟨.inl hb2, Nat.lt_of_lt_of_le (R1.own m b2 (by rw [hob1]; simp) hb2).2 m4.size⟩) (le_row hob1 rfl rfl) (by
      refine ⟨hcur, hz, ?_⟩
      rw [hcl]
      exact .inr ⟨bk, cap', c', e, fr, _, _, d2, by rw [m2]; exact hs⟩)
  have hupd : updO ob (tomb ob n b.cs ++ [(m, .row sz (std.setc es i j b.ts) cur tags false)]) = setF (updO ob (tomb ob n b.cs)) m (some (.row sz (std.setc es i j b.ts) cur tags false)) := by
    rw [updO_append', updO_one]
  exact goes_skip (w' := w.setCells bk (i.toNat * wd sz + j) (a.eval y).cells.toList) (by simp [execOp, ho, p5, Instr.storeAt, Instr.sureAddr, hrun]) h (by rw [hupd]; exact R2)

/-- One element more. -/
theorem Deep.snoc {h' : Hd} {sz b' cap' : Nat} {es : List (List T)} {ts : List T} {cvs : List Value} {c' : Array Value} {e' : TypeId} {fr' : Nat × Nat} {vs : Nat → Nat → Value} {subs : Nat → Nat → Nat → Prop} {S : Nat → Nat → Prop} {w' : World}
    (hv : h'.v = .slice (some ⟨b', 0, none⟩) (es.length + 1) cap') (hb : b' ∈ h'.own) (hblk : w'.heap[b']? = some (.cells c' e' fr')) (hfr : Free c'.size fr') (hcap : es.length + 1 ≤ cap') (hmax : es.length + 1 ≤ 2 ^ 63 - 1)
    (hwid : ∀ x ∈ es, x.length = sz) (hts : ts.length = sz) (hcv : cvs.length = sz)
    (hold : ∀ i j x t, es[i]? = some x → x[j]? = some t → c'[i * sz + j]? = some (vs i j) ∧ Dp w' (subs i j) (vs i j) t)
    (hnew : ∀ j, j < sz → c'[es.length * sz + j]? = cvs[j]?) (hdp : ∀ (j : Nat) v t, cvs[j]? = some v → ts[j]? = some t → Dp w' (S j) v t)
    (hsub : ∀ i j k, subs i j k → k ∈ h'.own ∧ k ≠ b') (hS : ∀ j k, S j k → k ∈ h'.own ∧ k ≠ b')
    (hdis : ∀ i j i' j' k, subs i j k → subs i' j' k → i = i' ∧ j = j') (hSd : ∀ j j' k, S j k → S j' k → j = j') (hx : ∀ i j j' k, subs i j k → S j' k → False) :
    Deep w' h' sz (es ++ [ts]) b' cap' c' e' fr' (fun i j => if i < es.length then vs i j else cvs.getD j undef) (fun i j k => (i < es.length ∧ subs i j k) ∨ (i = es.length ∧ S j k)) := by
  have get : ∀ i (x : List T), (es ++ [ts])[i]? = some x → (i < es.length ∧ es[i]? = some x) ∨ (i = es.length ∧ x = ts) := by
    intro i x hx
    by_cases q : i < es.length
    · rw [List.getElem?_append_left q] at hx; exact .inl ⟨q, hx⟩
    · rw [List.getElem?_append_right (by omega)] at hx
      have : i - es.length = 0 := by
        by_cases q2 : i - es.length = 0
        · exact q2
        · rw [List.getElem?_eq_none (by simp; omega)] at hx; cases hx
      rw [this] at hx
      simp at hx
      exact .inr ⟨by omega, hx.symm⟩
  refine ⟨by simpa using hv, hb, hblk, hfr, by simpa using hcap, by simpa using hmax, fun x hx => ?_, fun i j x t hx ht => ?_, fun i j x t hx ht => ?_, fun i j k hk => ?_, fun i j i' j' k h1 h2 => ?_⟩
  · rcases List.mem_append.1 hx with q | q
    · exact hwid x q
    · simp at q; subst q; exact hts
  · rcases get i x hx with ⟨q, hx'⟩ | ⟨rfl, rfl⟩
    · rw [if_pos q]; exact (hold i j x t hx' ht).1
    · have hj : j < sz := by rw [← hts]; exact (List.getElem?_eq_some_iff.1 ht).1
      rw [if_neg (by omega), hnew j hj, List.getD_eq_getElem?_getD, List.getElem?_eq_getElem (by omega)]
      rfl
  · rcases get i x hx with ⟨q, hx'⟩ | ⟨rfl, rfl⟩
    · simp only [if_pos q]
      exact (hold i j x t hx' ht).2.mono (fun k hk => .inl ⟨q, hk⟩) (fun _ _ => rfl)
    · have hj : j < sz := by rw [← hts]; exact (List.getElem?_eq_some_iff.1 ht).1
      have hd' : Dp w' (S j) (cvs.getD j undef) t := hdp j _ t (by
        rw [List.getD_eq_getElem?_getD, List.getElem?_eq_getElem (by omega)]
        rfl) ht
      rw [if_neg (show ¬ es.length < es.length by omega)]
      exact hd'.mono (fun k hk => .inr ⟨rfl, hk⟩) (fun _ _ => rfl)
  · rcases hk with ⟨_, hk⟩ | ⟨_, hk⟩
    · exact hsub i j k hk
    · exact hS j k hk
  · rcases h1 with ⟨q1, h1⟩ | ⟨q1, h1⟩ <;> rcases h2 with ⟨q2, h2⟩ | ⟨q2, h2⟩
    · exact hdis i j i' j' k h1 h2
    · exact (hx _ _ _ k h1 h2).elim
    · exact (hx _ _ _ k h2 h1).elim
    · exact ⟨by omega, hSd j j' k h1 h2⟩

theorem snoc_D {q n e t u ty : Nat} {te : TI} {i : TypeInfo} {zv : Value} {es : List (List T)} {ts : List T} {cur : Nat} {tags cs : List Nat} {cvs : List Value} {S : Nat → Nat → Prop} {xv yv : Value} {zl : Nat} (hsm : te.size < 1000000)
    (hu : P.underlying t = some (.slice e)) (hi : P.info? e = some i) (hzv : i.zero = some zv) (hsz : i.size = te.size) (hby : i.bytes = te.bytes) (hzs : zv.cells.size = zl) (hzl : zl = te.size) (hz : 0 < te.size)
    (R : Rel E ok hd tm ob tmps w) (hq : ob q = some (.row (te.size + 1000000) es cur tags false)) (hnt : n ∉ tags ∧ n ≠ 7) (hcv : cvs.length = te.size) (hts : ts.length = te.size) (hnd : (q :: cs).Nodup)
    (hcs : ∀ m, m ∈ cs → ∃ sm em cm tg, ob m = some (.row sm em cm tg false) ∧ n ∉ tg) (hdp : ∀ (j : Nat) v t, cvs[j]? = some v → ts[j]? = some t → Dp w (S j) v t) (hSo : ∀ j k, S j k → ∃ m, m ∈ cs ∧ k ∈ (hd m).own) (hSd : ∀ j j' k, S j k → S j' k → j = j')
    (hSrc : Src P te.size u yv 1 cvs w) (hxv : xv = (hd q).v) (r1 : es.length + 1 ≤ 2 ^ 46) (r2 : (es.length + 1) * te.bytes ≤ 2 ^ 46) :
    ∃ v w' hd', (Builtin.append_ #[t, u] ty #[xv, yv]).run P w = .ok v w' ∧ Rel E ok hd' tm (setF (updO ob (tomb ob n cs)) q (some (.row (te.size + 1000000) (es ++ [ts]) n (n :: tags) false))) tmps w' ∧
      VR w' ok hd' (setF (updO ob (tomb ob n cs)) q (some (.row (te.size + 1000000) (es ++ [ts]) n (n :: tags) false))) v (.row q n) := by
  have hcl := cls_D hsm
  have hwd := wd_D hsm
  have hnd' := hnd
  simp only [List.nodup_cons] at hnd'
  have hne : ob q ≠ none := by rw [hq]; simp
  obtain ⟨hd1, R1, le1, n1, v1, s1, o1, o2⟩ := Rel.absorb (n := q) (Z := n) hcl hnt.2 cs R hq hnd hcs
  have hob1 : updO ob (tomb ob n cs) q = some (.row (te.size + 1000000) es cur tags false) := n1.trans hq
  have hbown : ∀ j k, S j k → k ∈ (hd1 q).own ∧ k < w.heap.size ∧ k ∉ (hd q).own := by
    intro j k hS
    obtain ⟨m, h1, h2⟩ := hSo j k hS
    obtain ⟨y1, y2, y3, y4, hy, _⟩ := hcs m h1
    have hm : ob m ≠ none := by rw [hy]; simp
    have hqm : m ≠ q := fun e => hnd'.1 (e ▸ h1)
    exact ⟨o2 m h1 k h2, (R.own m k hm h2).2, R.disj m q k hqm hm hne h2⟩
  obtain ⟨hcur, hz0, hR⟩ := R.obs q _ hq
  rw [hcl, hwd] at hR
  -- what is left, once the block is there
  have fin : ∀ (w' : World) (b' cap' : Nat) (c' : Array Value) (e' : TypeId) (fr' : Nat × Nat) (vs : Nat → Nat → Value) (subs : Nat → Nat → Nat → Prop) (ow : List Nat),
      Fr (hd1 q).own w w' → (∀ b, b ∈ (hd1 q).own → b ∈ ow) → (∀ b, b ∈ ow → b ∈ (hd1 q).own ∨ (w.heap.size ≤ b ∧ b < w'.heap.size)) → b' ∈ ow → (∀ k, k ∈ (hd1 q).own → k ≠ b' → w'.heap[k]? = w.heap[k]?) → (b' ∈ (hd q).own ∨ w.heap.size ≤ b') →
      w'.heap[b']? = some (.cells c' e' fr') → Free c'.size fr' → es.length + 1 ≤ cap' → c'.size = cap' * te.size → (∀ x ∈ es, x.length = te.size) →
      (∀ i j x t, es[i]? = some x → x[j]? = some t → c'[i * te.size + j]? = some (vs i j) ∧ Dp w (subs i j) (vs i j) t) → (∀ i j k, subs i j k → k ∈ (hd q).own ∧ k ≠ b') → (∀ i j i' j' k, subs i j k → subs i' j' k → i = i' ∧ j = j') →
      (∀ j, j < te.size → c'[es.length * te.size + j]? = cvs[j]?) →
      ∃ hd', Rel E ok hd' tm (setF (updO ob (tomb ob n cs)) q (some (.row (te.size + 1000000) (es ++ [ts]) n (n :: tags) false))) tmps w' ∧
        VR w' ok hd' (setF (updO ob (tomb ob n cs)) q (some (.row (te.size + 1000000) (es ++ [ts]) n (n :: tags) false))) (.slice (some ⟨b', 0, none⟩) (es.length + 1) cap') (.row q n) := by
    intro w' b' cap' c' e' fr' vs subs ow f1 f2 f3 f4 f5 f6 f7 f8 f9 f10 f11 f12 f13 f14 f15
    have hb' : ∀ j k, S j k → k ≠ b' := by
      intro j k hS e
      subst e
      obtain ⟨_, h2, h3⟩ := hbown j k hS
      rcases f6 with h | h
      · exact h3 h
      · omega
    have d := Deep.snoc (w' := w') (h' := ⟨.slice (some ⟨b', 0, none⟩) (es.length + 1) cap', ow, fun _ _ => undef⟩) (S := S) (vs := vs) (subs := subs) (cvs := cvs) (ts := ts) (sz := te.size) rfl f4 f7 f8 f9 (by omega) f11 hts hcv
      (fun i j x t hx ht => ⟨(f12 i j x t hx ht).1, (f12 i j x t hx ht).2.mono (fun _ h => h) fun k hk => f5 k (o1 k (f13 i j k hk).1) (f13 i j k hk).2⟩) f15
      (fun j v t hv ht => (hdp j v t hv ht).mono (fun _ h => h) fun k hk => f5 k (hbown j k hk).1 (hb' j k hk))
      (fun i j k hk => ⟨f2 k (o1 k (f13 i j k hk).1), (f13 i j k hk).2⟩) (fun j k hk => ⟨f2 k (hbown j k hk).1, hb' j k hk⟩) f14 hSd
      (fun i j j' k h1 h2 => (hbown j' k h2).2.2 (f13 i j k h1).1)
    refine ⟨_, R1.turn (x' := .row (te.size + 1000000) (es ++ [ts]) n (n :: tags) false) (h' := ⟨.slice (some ⟨b', 0, none⟩) (es.length + 1) cap', ow, fun _ _ => undef⟩) hob1 f1 (fun b hb => ?_) (le_tag hob1 hnt) ?_, ref_row (by simp) rfl rfl⟩
    · rcases f3 b hb with h | h
      · exact ⟨.inl h, Nat.lt_of_lt_of_le (R1.own q b (by rw [hob1]; simp) h).2 f1.size⟩
      · exact ⟨.inr h.1, h.2⟩
    · refine ⟨by simp, hz0, ?_⟩
      rw [hcl, hwd]
      exact .inr ⟨b', cap', c', e', fr', _, _, d, f10⟩
  have hzc : ∀ k, (Builtin.zeroCells zv.cells k).size = k * te.size := fun k => by
    have : (Builtin.zeroCells zv.cells k).toList.length = k * te.size := by rw [zlen, hzs, hzl]
    simpa using this
  have hgap : ∀ m c0, m ≤ c0 → m * te.size + (c0 - m) * te.size = c0 * te.size := fun m c0 h => by rw [← Nat.add_mul, Nat.add_sub_cancel' h]
  rcases hR with ⟨he, hv0⟩ | ⟨b, cap, c, eb, fr, vs, subs, d, hcs2⟩
  · -- no memory as yet
    subst he
    rw [hv0] at hxv
    have hold : (Builtin.firstCells i.size 0 (.slice none 0 0)).run P w.drew = .ok (([] : List Value)).toArray w.drew := run_firstCells_none w.drew i.size 0 0 0
    have hrun := run_append_grow_src (P := P) w t u ty e i zv hu hi hzv none 0 0 [] hold yv 1 cvs (by rw [hsz]; exact hSrc) (by omega) (by omega) (by
      refine growslice_fits (by omega) ?_
      rw [hby]; simp at r2; omega)
    have hge := grownCap_ge w (0 + 1) 0 e
    have hx1 := (drew_ext w).trans (alloc_ext w.drew (.cells (([] ++ cvs).toArray ++ Builtin.zeroCells zv.cells (grownCap w (0 + 1) 0 e - (0 + 1))) e (0, 0)))
    obtain ⟨hd', F1, F2⟩ := fin _ w.heap.size (grownCap w (0 + 1) 0 e) _ e (0, 0) (fun _ _ => undef) (fun _ _ _ => False) (w.heap.size :: (hd1 q).own) (hx1.fr _) (fun _ h => .tail _ h)
      (fun b hb => by rcases List.mem_cons.1 hb with h | h; exact .inr (by subst h; simp); exact .inl h) (.head _) (fun k hk _ => hx1.block k (R1.own q k (by rw [hob1]; simp) hk).2) (.inr (Nat.le_refl _))
      (alloc_new w.drew _) (.inl rfl) (by simpa using hge) (by
        rw [Array.size_append, hzc]
        have := hgap (0 + 1) (grownCap w (0 + 1) 0 e) hge
        simp only [List.nil_append, List.size_toArray, hcv]
        omega) (by simp) (by simp) (fun _ _ _ h => h.elim) (fun _ _ _ _ _ h => h.elim) (fun j hj => by
        simp only [List.length_nil, Nat.zero_mul, Nat.zero_add, List.nil_append]
        rw [Array.getElem?_append_left (by simp; omega)]
        simp)
    refine ⟨_, _, hd', ?_, F1, F2⟩
    rw [hxv, hrun]
    simp
  · have hxl : xv = .slice (some ⟨b, 0, none⟩) es.length cap := hxv.trans d.v
    have hfull : es.length * te.size ≤ c.size := by rw [hcs2]; exact Nat.mul_le_mul_right _ d.cap
    have hlt : ∀ i j x t, es[i]? = some x → x[j]? = some t → i * te.size + j < es.length * te.size := by
      intro i j x t hx ht
      have h1 := (List.getElem?_eq_some_iff.1 hx).1
      have h2 := (List.getElem?_eq_some_iff.1 ht).1
      have h3 := d.wid x (List.mem_of_getElem? hx)
      have : (i + 1) * te.size ≤ es.length * te.size := Nat.mul_le_mul_right _ h1
      rw [Nat.succ_mul] at this
      omega
    by_cases hroom : es.length + 1 ≤ cap
    · -- room
      have hmul : (es.length + 1) * te.size ≤ cap * te.size := Nat.mul_le_mul_right _ hroom
      rw [Nat.succ_mul] at hmul
      have hrun := run_append_room_src (P := P) w t u ty e i hu hi b 0 es.length cap yv 1 cvs (by rw [hsz]; exact hSrc) hroom
        (fun j hj => by rw [cell_of d.blk]; rw [hsz]; simp; omega)
        (fun j hj => by
          have := d.free.at (0 + es.length * i.size + j) (by rw [hsz]; omega)
          simp only [World.frozen?, d.blk, Bool.and_eq_false_iff, decide_eq_false_iff_not]
          omega)
      rw [hsz, Nat.zero_add] at hrun
      obtain ⟨c', m1, m2, m3, m4⟩ := setCells_block cvs (o := es.length * te.size) d.blk (by omega)
      obtain ⟨hd', F1, F2⟩ := fin (w.setCells b (es.length * te.size) cvs) b cap c' eb fr vs subs (hd1 q).own
        ⟨m4.os, m4.tape, m4.output, m4.size, fun k h1 h2 => m4.block k h1 (fun r => h2 (by simp at r; subst r; exact o1 _ d.own))⟩ (fun _ h => h) (fun _ h => .inl h) (o1 _ d.own)
        (fun k hk hkb => m4.block k (R1.own q k (by rw [hob1]; simp) hk).2 (by simpa using hkb)) (.inl d.own) m1 (by rw [m2]; exact d.free) hroom (by rw [m2]; exact hcs2) d.wid
        (fun i j x t hx ht => ⟨by
          rw [m3, if_neg (by have := hlt i j x t hx ht; omega)]
          exact d.cell i j x t hx ht, d.dp i j x t hx ht⟩) d.sub d.dis (fun j hj => by
          rw [m3, if_pos (by omega), Nat.add_sub_cancel_left])
      exact ⟨_, _, hd', by rw [hxl]; exact hrun, F1, F2⟩
    · -- none
      have hold : (Builtin.firstCells i.size es.length (.slice (some ⟨b, 0, none⟩) es.length cap)).run P w.drew = .ok (c.toList.take (es.length * te.size)).toArray w.drew :=
        run_firstCells_some w.drew i.size es.length _ _ _ _ (by rw [hsz]; simp; omega) (fun j v hj => by
          rw [Addr.add_mid, Nat.zero_add]
          have : w.drew.cell? ⟨b, j, none⟩ = w.cell? ⟨b, j, none⟩ := rfl
          rw [this, cell_of d.blk]
          have hlt : j < es.length * te.size := by
            by_cases q : j < es.length * te.size
            · exact q
            · rw [List.getElem?_take_eq_none (by omega)] at hj; cases hj
          rw [List.getElem?_take_of_lt hlt] at hj
          simpa using hj)
      have hrun := run_append_grow_src (P := P) w t u ty e i zv hu hi hzv (some ⟨b, 0, none⟩) es.length cap _ hold yv 1 cvs (by rw [hsz]; exact hSrc) (by omega) (by omega) (by
        refine growslice_fits (by omega) ?_
        rw [hby]; omega)
      have hge := grownCap_ge w (es.length + 1) cap e
      have hx1 := (drew_ext w).trans (alloc_ext w.drew (.cells ((c.toList.take (es.length * te.size) ++ cvs).toArray ++ Builtin.zeroCells zv.cells (grownCap w (es.length + 1) cap e - (es.length + 1))) e (0, 0)))
      have htl : (c.toList.take (es.length * te.size)).length = es.length * te.size := by simp; omega
      obtain ⟨hd', F1, F2⟩ := fin _ w.heap.size (grownCap w (es.length + 1) cap e) _ e (0, 0) vs subs (w.heap.size :: (hd1 q).own) (hx1.fr _) (fun _ h => .tail _ h)
        (fun b hb => by rcases List.mem_cons.1 hb with h | h; exact .inr (by subst h; simp); exact .inl h) (.head _) (fun k hk _ => hx1.block k (R1.own q k (by rw [hob1]; simp) hk).2) (.inr (Nat.le_refl _))
        (alloc_new w.drew _) (.inl rfl) hge (by
          rw [Array.size_append, hzc]
          have := hgap (es.length + 1) (grownCap w (es.length + 1) cap e) hge
          rw [Nat.succ_mul] at this
          simp only [List.size_toArray, List.length_append, htl, hcv]
          omega) d.wid
        (fun i j x t hx ht => ⟨by
          have hl := hlt i j x t hx ht
          rw [Array.getElem?_append_left (by simp only [List.size_toArray, List.length_append, htl]; omega)]
          have : ((c.toList.take (es.length * te.size) ++ cvs).toArray)[i * te.size + j]? = (c.toList.take (es.length * te.size) ++ cvs)[i * te.size + j]? := by simp
          rw [this, List.getElem?_append_left (by omega), List.getElem?_take_of_lt hl]
          simpa using d.cell i j x t hx ht, d.dp i j x t hx ht⟩)
        (fun i j k hk => ⟨(d.sub i j k hk).1, fun r => by
          have := (R.own q k hne (d.sub i j k hk).1).2
          omega⟩) d.dis (fun j hj => by
          rw [Array.getElem?_append_left (by simp only [List.size_toArray, List.length_append, htl, hcv]; omega)]
          have : ((c.toList.take (es.length * te.size) ++ cvs).toArray)[es.length * te.size + j]? = (c.toList.take (es.length * te.size) ++ cvs)[es.length * te.size + j]? := by simp
          rw [this, List.getElem?_append_right (by omega), htl, Nat.add_sub_cancel_left])
      exact ⟨_, _, hd', by rw [hxl]; exact hrun, F1, F2⟩

theorem op_appendD {c : Call} {x y : Operand} {t u n : Nat} (ho : o.op = .call c) (hc : c.callee = .builtin .append) (hx : c.args.toList = [x, y]) (ht : c.argTypes.toList = [t, u]) (hT : TabOk P tab) (R : Rel E ok hd tm ob a.tmps w)
    (hn0 : n ≠ 0) (h : (sAppendD std tab t u n ob (ev tm x) (ev tm y)).holds std cl K) : Goes P E tm ob a.tmps K o a w := by
  unfold sAppendD at h
  split at h
  rotate_left
  · exact h.elim
  rename_i e m k sz he hy
  have hu := sliceOf_und hT he
  split at h
  rotate_left
  · exact h.elim
  rename_i te cs fz hte hob
  split at h
  rotate_left
  · exact h.elim
  rename_i b hb
  obtain ⟨hcd, h2⟩ := bif_inv h
  clear h
  have h := h2
  clear h2
  simp only [Bool.and_eq_true, Bool.not_eq_true'] at hcd
  obtain ⟨c1, c2, c3, c4, c5, c6, c7, c8⟩ := hcd
  have hk1 := eq_of_eqB c1
  have hsz2 := eq_of_eqB c2
  have hcl := eq_of_eqB c3
  obtain ⟨e', hk⟩ := isSlice_und hT c4
  have hz : 0 < te.size := le_of_leB c5
  obtain ⟨z, hzz⟩ := Option.isSome_iff_exists.1 c6
  have h7 : n ≠ 7 := fun e => by subst e; simp at c8
  have hsm := (hT e te hte).small
  obtain ⟨i, hi, hsz, hby, hzero⟩ := (hT e te hte).info
  obtain ⟨zv, hzv, hzs, hzl, _⟩ := hzero z hzz
  subst hk1
  obtain ⟨cs', fz', bb, p1, p2, hv, _⟩ := (ev_rel R hy).one_inv
  rw [hob] at p1; injection p1 with p1; injection p1 with p1 p1'; subst p1; subst p1'
  obtain ⟨b', cc, eb, fr, g1, g2, g3, g4, g5, g6, g7⟩ := R.obs m _ hob
  rw [p2] at g1; injection g1 with g1; injection g1 with g1; injection g1 with g1; subst g1
  have hcvl : cc.toList.length = cs.length := by simpa using g6
  have hrel : ∀ (i : Nat) c x, cc.toList[i]? = some c → cs[i]? = some x → VR w ok hd ob c x := fun i c x p q => g7 i c x (by simpa using p) q
  -- what is appended
  have main : (∀ es, es ∈ b.fl → std.flat es) → b.cs.Nodup → cc.toList.length = te.size ∧ b.ts.length = te.size ∧ (∀ m, m ∈ b.cs → ∃ sm em cm tg, ob m = some (.row sm em cm tg false) ∧ n ∉ tg) ∧
      ∃ S : Nat → Nat → Prop, (∀ (j : Nat) v t, cc.toList[j]? = some v → b.ts[j]? = some t → Dp w (S j) v t) ∧ (∀ j k, S j k → ∃ m, m ∈ b.cs ∧ k ∈ (hd m).own) ∧ (∀ j j' k, S j k → S j' k → j = j') ∧ Src P te.size u (a.eval y) 1 cc.toList w := by
    intro hfl hnd
    obtain ⟨l1, l2, l3, S, l4, l5, l6⟩ := absC_rel R.toORel hb hcvl hrel hfl hnd
    have hts : b.ts.length = te.size := by rw [← l1, hcvl, hcl]
    refine ⟨by rw [hcvl, hcl], hts, fun q hq => ?_, S, l4, l5, l6, ?_⟩
    · obtain ⟨y1, y2, y3, y4, hy⟩ := l2 q hq
      exact ⟨y1, y2, y3, y4, hy, newTag_mem' c7 q hq _ _ _ _ _ hy⟩
    · have hF : Flat w (fun _ => True) te.size [b.ts] cc.toList := ⟨by simp [hcvl, hcl], fun x hx => by simp at hx; subst hx; exact hts, fun i j x t hx ht => by
        have hi0 : i = 0 := by
          cases i with
          | zero => rfl
          | succ i => simp at hx
        subst hi0
        simp at hx; subst hx
        have hj := (List.getElem?_eq_some_iff.1 ht).1
        refine ⟨cc.toList[j], ?_, (l4 j _ t (List.getElem?_eq_getElem (by omega)) ht).rep fun _ _ => trivial⟩
        rw [Nat.zero_mul, Nat.zero_add]
        exact List.getElem?_eq_getElem (by omega)⟩
      have := src_flat (P := P) (w := w) (u := u) (.inl ⟨e', hk⟩) hz hv rfl hF (fun j v hj => by
        rw [cell_of g4, Nat.zero_add]; simpa using hj)
      simpa using this
  split at h
  · -- onto nil
    rename_i hxn
    split at h
    rotate_left
    · exact h.elim
    rename_i hn
    obtain ⟨hnd, h⟩ := bif_inv h
    have hnd := nodupB_iff'.1 hnd
    obtain ⟨hroom, h⟩ := h
    obtain ⟨hfl, h⟩ := flatsR_inv h
    obtain ⟨q1, q2, q3, S, q4, q5, q6, q7⟩ := main hfl hnd
    obtain ⟨r1, r2⟩ := room_le hroom
    have hxv : a.eval x = .slice none 0 0 := (ev_rel R hxn).one_inv
    have R0 := rel_vrow (n := n) (sz := te.size + 1000000) (cur := 0) (tags := [0]) R hn (by simp) (by rw [wd_D hsm]; exact hz)
    have hne : ∀ m, m ∈ b.cs → m ≠ n := fun m hm e => by
      obtain ⟨_, _, _, _, hy, _⟩ := q3 m hm
      rw [e, hn] at hy; cases hy
    obtain ⟨v, w', hd', hrun, F1, F2⟩ := snoc_D (n := n) (q := n) (ty := o.type) (ts := b.ts) (cs := b.cs) (cvs := cc.toList) (S := S) (xv := a.eval x) (yv := a.eval y) hsm hu hi hzv hsz hby hzs hzl hz R0 (setF_same _ _ _) ⟨by simpa using hn0, h7⟩ q1 q2
      (by simp only [List.nodup_cons]; exact ⟨fun hm => hne n hm rfl, hnd⟩)
      (fun m hm => by
        obtain ⟨y1, y2, y3, y4, hy, ht⟩ := q3 m hm
        exact ⟨y1, y2, y3, y4, by rw [setF_ne _ _ _ _ (hne m hm)]; exact hy, ht⟩) q4
      (fun j k hS => by
        obtain ⟨m, h1, h2⟩ := q5 j k hS
        exact ⟨m, h1, by rw [setF_ne _ _ _ _ (hne m h1)]; exact h2⟩) q6 q7 (by rw [setF_same]; exact hxv) (by simpa using r1) (by simpa using r2)
    have hupd : updO ob (tomb ob n b.cs ++ [(n, .row (te.size + 1000000) [b.ts] n [n, 0] false)]) = setF (updO (setF ob n (some (.row (te.size + 1000000) [] 0 [0] false))) (tomb (setF ob n (some (.row (te.size + 1000000) [] 0 [0] false))) n b.cs)) n (some (.row (te.size + 1000000) ([] ++ [b.ts]) n [n, 0] false)) := by
      rw [updO_append', updO_one, tomb_congr (lk := setF ob n (some (.row (te.size + 1000000) [] 0 [0] false))) (lk' := ob) fun k hk => setF_ne _ _ _ _ (hne k hk)]
      funext k
      by_cases e : k = n
      · subst e; rw [setF_same, setF_same]; rfl
      · rw [setF_ne _ _ _ _ e, setF_ne _ _ _ _ e]
        simp only [updO]
        rw [setF_ne _ _ _ _ e]
    exact goes_value (run_appendOp ho hc hx ht hrun) h (by rw [hupd]; exact F1) (by rw [hupd]; exact .one _ _ F2)
  · -- onto a row
    rename_i q g hxn
    split at h
    rotate_left
    · exact h.elim
    rename_i sx es cur tags hoq
    obtain ⟨hc2, h⟩ := bif_inv h
    simp only [Bool.and_eq_true, Bool.not_eq_true'] at hc2
    obtain ⟨d1, d2, d3, d4⟩ := hc2
    have hg := eq_of_eqB d1
    have hsx := eq_of_eqB d2
    have hnt : n ∉ tags := memB_false'.1 d3
    have hnd := nodupB_iff'.1 d4
    subst hsx
    obtain ⟨hroom, h⟩ := h
    obtain ⟨hfl, h⟩ := flatsR_inv h
    have hnd' := hnd
    simp only [List.nodup_cons] at hnd'
    obtain ⟨q1, q2, q3, S, q4, q5, q6, q7⟩ := main hfl hnd'.2
    obtain ⟨r1, r2⟩ := room_le hroom
    have hla : (std.app es [b.ts]).length = es.length + 1 := by show (es ++ [b.ts]).length = _; simp
    rw [hla] at r1 r2
    obtain ⟨sz', es', cur', tags', fz', y1, y2, _, y3⟩ := (ev_rel R hxn).one_inv
    rw [hoq] at y1; injection y1 with y1; injection y1 with z1 z2 z3 z4 z5; subst z1; subst z2; subst z3; subst z4; subst z5
    obtain ⟨v, w', hd', hrun, F1, F2⟩ := snoc_D (n := n) (q := q) (ty := o.type) (ts := b.ts) (cs := b.cs) (cvs := cc.toList) (S := S) (xv := a.eval x) (yv := a.eval y) hsm hu hi hzv hsz hby hzs hzl hz R hoq ⟨hnt, h7⟩ q1 q2 hnd q3 q4 q5 q6 q7 (y3 hg) r1 r2
    have hupd : updO ob (tomb ob n b.cs ++ [(q, .row (te.size + 1000000) (std.app es [b.ts]) n (n :: tags) false)]) = setF (updO ob (tomb ob n b.cs)) q (some (.row (te.size + 1000000) (es ++ [b.ts]) n (n :: tags) false)) := by
      rw [updO_append', updO_one]; rfl
    exact goes_value (run_appendOp ho hc hx ht hrun) h (by rw [hupd]; exact F1) (by rw [hupd]; exact .one _ _ F2)
  · exact h.elim

theorem op_makeD {t n : Nat} {x y : Operand} (ho : o.op = .makeSlice t x y) (hT : TabOk P tab) (R : Rel E ok hd tm ob a.tmps w)
    (h : (sMakeD std tab t n ob (ev tm x) (ev tm y)).holds std cl K) : Goes P E tm ob a.tmps K o a w := by
  unfold sMakeD at h
  split at h
  rotate_left
  · exact h.elim
  rename_i l c hxl hyc
  split at h
  rotate_left
  · exact h.elim
  rename_i ti hti
  split at h
  rotate_left
  · exact h.elim
  rename_i e hk
  split at h
  rotate_left
  · exact h.elim
  rename_i te hte
  split at h
  rotate_left
  · exact h.elim
  rename_i z hz
  split at h
  rotate_left
  · exact h.elim
  rename_i zt hzt
  obtain ⟨h1, h2⟩ := bif_inv h
  clear h
  have h1 : 0 < te.size := le_of_leB h1
  obtain ⟨⟨hlc, hroom⟩, h⟩ := h2
  subst hlc
  obtain ⟨hl0, hl1⟩ : 0 ≤ l ∧ l * ((te.bytes : Int) + 1) ≤ 2 ^ 46 := hroom
  unfold SR.new at h
  split at h
  rotate_left
  · exact h.elim
  rename_i hn
  obtain ⟨d, hu, hkd, _⟩ := (hT t ti hti).kd
  rw [hk] at hkd
  have hkd : d = .slice e := hkd
  subst hkd
  have hsm := (hT e te hte).small
  obtain ⟨i, hi, hsz, hby, hzero⟩ := (hT e te hte).info
  obtain ⟨zv, hzv, hzs, hzl, hzr⟩ := hzero z hz
  obtain ⟨ex, _⟩ := ev_int R hxl
  obtain ⟨ey, _⟩ := ev_int R hyc
  have hlb : l * (te.bytes : Int) ≤ 2 ^ 46 := by rw [Int.mul_add] at hl1; omega
  have hl2 : l ≤ 2 ^ 46 := by
    have : 0 ≤ l * (te.bytes : Int) := Int.mul_nonneg hl0 (by omega)
    rw [Int.mul_add] at hl1; omega
  have hrun := run_make (P := P) w t e i zv hu hi hzv .i64 .i64 l l hl0 (Int.le_refl _) (by rw [hby, Int.mul_comm]; omega) (by omega)
  have hcells := treesC_rel (w := w) (ok := fun _ => False) (hd := hd) (ob := ob) (cvs := zv.cells.toList) hzt (by simpa using hzs) (fun i c x p q => (hzr i c x (by simpa using p) q).vr _ _ _ _)
  have hzt' : zt.length = te.size := by rw [← hcells.1]; simp; omega
  have hDp : ∀ (j : Nat) t, zt[j]? = some t → ∃ v, zv.cells[j]? = some v ∧ ∀ (w' : World) S, Dp w' S v t := by
    intro j t ht
    have hj : j < zt.length := (List.getElem?_eq_some_iff.1 ht).1
    have hv : zv.cells.toList[j]? = some (zv.cells.toList[j]'(by omega)) := List.getElem?_eq_getElem (by omega)
    refine ⟨_, by rw [← Array.getElem?_toList]; exact hv, fun w' S => ?_⟩
    have hr := hcells.2 j _ t hv ht
    generalize hq : zv.cells.toList[j]'(by omega) = v at hr
    cases hr with
    | bool b => exact .bool _ b
    | int k n h => exact .int _ k n h
    | str s h => exact .str _ s h
    | snil => exact .snil _
    | szero x n => exact .szero _ x n
    | sl b off cap sz es vs hm hcap hsz hok => exact hok.elim
    | pt b off0 off cs vs hok => exact hok.elim
    | fn f first caps fvs cvs hf hfl hc hfr hcr =>
      -- no zero reads as a function
      exfalso
      have hzj : ∃ x, z[j]? = some x := ⟨z[j]'(by rw [hzl, ← hzt']; omega), List.getElem?_eq_getElem _⟩
      obtain ⟨x, hx⟩ := hzj
      have := hzr j _ x (by rw [← Array.getElem?_toList]; exact hv) hx
      rw [hq] at this
      have hxt : x = .any := by
        cases x with
        | any => rfl
        | t c => cases c <;> exact False.elim this
        | _ => exact False.elim this
      subst hxt
      have key : ∀ (vs : List V) (ts : List T), treesC vs = some ts → ∀ k : Nat, vs[k]? ≠ some .any := by
        intro vs
        induction vs with
        | nil => intro ts _ k hk; simp at hk
        | cons v vs ih =>
          intro ts hts k hk
          unfold treesC at hts
          split at hts
          · rename_i heq; cases heq
          · rename_i c l heq
            injection heq with q1 q2; subst q1; subst q2
            cases k with
            | zero => simp at hk
            | succ k =>
              split at hts
              · rename_i r hr; exact ih r hr k (by simpa using hk)
              · cases hts
          · rename_i l heq
            injection heq with q1 q2; subst q1; subst q2
            cases k with
            | zero => simp at hk
            | succ k =>
              split at hts
              · rename_i r hr; exact ih r hr k (by simpa using hk)
              · cases hts
          · cases hts
      exact key z zt hzt j hx
  have hlen : (std.rep l zt).length = l.toNat := by simp [std]
  have hx1 := alloc_ext w (.cells (madeCells zv.cells (l.toNat * i.size)) e (0, 0))
  have hR := R.newOb (n := n) (h := ⟨.slice (some ⟨w.heap.size, 0, none⟩) l.toNat l.toNat, [w.heap.size], fun _ _ => undef⟩) (o := .row (te.size + 1000000) (std.rep l zt) n [n] false) hn hx1 (fun b hb => by simp at hb; subst hb; simp) (by
    refine ⟨by simp, by rw [wd_D hsm]; exact h1, ?_⟩
    rw [cls_D hsm, wd_D hsm]
    refine .inr ⟨w.heap.size, l.toNat, _, e, (0, 0), fun _ j => zv.cells.getD j undef, fun _ _ _ => False, ⟨by rw [hlen], by simp, alloc_new w _, .inl rfl, by rw [hlen]; exact Nat.le_refl _, by rw [hlen]; omega, fun x hx => by simp [std] at hx; rw [hx.2]; exact hzt', fun i' j x t hx ht => ?_, fun i' j x t hx ht => ?_, fun _ _ _ h => h.elim, fun _ _ _ _ _ h => h.elim⟩, by rw [size_madeCells, hsz]⟩
    · have hi' : i' < l.toNat := by have := (List.getElem?_eq_some_iff.1 hx).1; rwa [hlen] at this
      have hx' : x = zt := by simp [std, hi'] at hx; exact hx.symm
      subst hx'
      have hj : j < te.size := by rw [← hzt']; exact (List.getElem?_eq_some_iff.1 ht).1
      obtain ⟨v, hv, _⟩ := hDp j t ht
      have hlt : (i' + 1) * te.size ≤ l.toNat * te.size := Nat.mul_le_mul_right _ hi'
      rw [Nat.succ_mul] at hlt
      have e2 : (i' * te.size + j) % te.size = j := by rw [Nat.mul_comm, Nat.mul_add_mod, Nat.mod_eq_of_lt hj]
      simp only [madeCells, hsz, Array.getElem?_map]
      rw [Array.getElem?_range, if_pos (by omega)]
      simp only [Option.map_some, hzs, hzl, e2]
      rw [getElem!_def, hv, Array.getD_eq_getD_getElem?, hv]
      rfl
    · have hi' : i' < l.toNat := by have := (List.getElem?_eq_some_iff.1 hx).1; rwa [hlen] at this
      have hx' : x = zt := by simp [std, hi'] at hx; exact hx.symm
      subst hx'
      obtain ⟨v, hv, hd'⟩ := hDp j t ht
      rw [Array.getD_eq_getD_getElem?, hv]
      exact hd' _ _)
  refine goes_value (v := .slice (some ⟨w.heap.size, 0, none⟩) l.toNat l.toNat) ?_ h (by rw [updO_one]; exact hR) (by rw [updO_one]; exact .one _ _ (ref_row (by simp) rfl rfl))
  simp [execOp, ho, ex, ey, hrun]

end Go.TL

/- TlS -/
namespace Go.TL
open Go

variable {P : Program} {E : Env P} {ok : Nat → Prop} {hd : HF} {tm : Nat → Option A} {ob : OF} {w : World} {a : Act} {K : A → Obs → Prop} {o : Oper} {tab : TF} {cl : Nat → List A → Obs → (A → Obs → Prop) → Prop} {tmps : Array Value}

theorem memB_iff {n : Nat} : ∀ {l : List Nat}, memB n l = true ↔ n ∈ l
  | [] => by simp [memB]
  | m :: r => by
    simp only [memB]
    cases h : eqB n m with
    | true => simp [eq_of_eqB h]
    | false =>
      have : n ≠ m := fun e => by subst e; simp at h
      simp [memB_iff (l := r), this]
theorem memB_false {n : Nat} {l : List Nat} : memB n l = false ↔ n ∉ l := by
  rw [← Bool.not_eq_true, memB_iff]
theorem nodupB_iff : ∀ {l : List Nat}, nodupB l = true ↔ l.Nodup
  | [] => by simp [nodupB]
  | n :: r => by
    simp only [nodupB]
    cases h : memB n r with
    | true => simp [memB_iff.1 h]
    | false => simp [memB_false.1 h, nodupB_iff (l := r)]
theorem fsts_map : ∀ (l : List (Nat × Nat)), fsts l = l.map (·.1)
  | [] => rfl
  | (a, b) :: r => by simp [fsts, fsts_map r]
theorem snds_map : ∀ (l : List (Nat × Nat)), snds l = l.map (·.2)
  | [] => rfl
  | (a, b) :: r => by simp [snds, snds_map r]
theorem look_mem {α : Type} {n : Nat} {x : α} : ∀ {l : List (Nat × α)}, look l n = some x → (n, x) ∈ l
  | [], h => by cases h
  | (i, v) :: r, h => by
    by_cases e : i = n
    · subst e; simp [look] at h; subst h; simp
    · simp [look, e] at h; exact .tail _ (look_mem h)
theorem mem_look {α : Type} {n : Nat} {x : α} : ∀ {l : List (Nat × α)}, (l.map (·.1)).Nodup → (n, x) ∈ l → look l n = some x
  | [], _, h => by cases h
  | (i, v) :: r, hn, h => by
    simp only [List.map_cons, List.nodup_cons] at hn
    rcases List.mem_cons.1 h with h | h
    · injection h with h1 h2; subst h1; subst h2; simp [look]
    · have : i ≠ n := fun e => hn.1 (e ▸ List.mem_map.2 ⟨(n, x), h, rfl⟩)
      simp [look, this, mem_look hn.2 h]

structure Ren (ρ : List (Nat × Nat)) : Prop where
  f : (ρ.map (·.1)).Nodup
  s : (ρ.map (·.2)).Nodup
theorem okRen_iff {ρ : List (Nat × Nat)} (h : okRen ρ = true) : Ren ρ := by
  simp only [okRen, Bool.and_eq_true, nodupB_iff, fsts_map, snds_map] at h
  exact ⟨h.1, h.2⟩
theorem Ren.inj {ρ : List (Nat × Nat)} (h : Ren ρ) {o1 o2 o' : Nat} (h1 : (o1, o') ∈ ρ) (h2 : (o2, o') ∈ ρ) : o1 = o2 := by
  have hs := h.s
  clear h
  induction ρ with
  | nil => cases h1
  | cons p r ih =>
    simp only [List.map_cons, List.nodup_cons] at hs
    rcases List.mem_cons.1 h1 with e1 | m1 <;> rcases List.mem_cons.1 h2 with e2 | m2
    · rw [← e1] at e2; injection e2 with e2; exact e2.symm
    · exact absurd (List.mem_map.2 ⟨(o2, o'), m2, by rw [← e1]⟩) hs.1
    · exact absurd (List.mem_map.2 ⟨(o1, o'), m1, by rw [← e2]⟩) hs.1
    · exact ih m1 m2 hs.2
theorem Ren.fn {ρ : List (Nat × Nat)} (h : Ren ρ) {o o1 o2 : Nat} (h1 : (o, o1) ∈ ρ) (h2 : (o, o2) ∈ ρ) : o1 = o2 := by
  have e1 := mem_look h.f h1
  rw [mem_look h.f h2] at e1
  injection e1 with e1; exact e1.symm

/-- The old name. -/
def inv (ρ : List (Nat × Nat)) (n : Nat) : Option Nat := look (ρ.map fun p => (p.2, p.1)) n
theorem inv_some {ρ : List (Nat × Nat)} (h : Ren ρ) {o o' : Nat} : inv ρ o' = some o ↔ (o, o') ∈ ρ := by
  constructor
  · intro e
    obtain ⟨⟨x, y⟩, hm, e1⟩ := List.mem_map.1 (look_mem e)
    injection e1 with e1 e2
    simp only at e1 e2
    subst e1; subst e2
    exact hm
  · intro e
    refine mem_look ?_ (List.mem_map.2 ⟨(o, o'), e, rfl⟩)
    rw [List.map_map]
    exact h.s
theorem keep7_eq {o c : Nat} (h : keep7 o c = 7) : c = 7 := by
  unfold keep7 at h
  cases e : eqB c 7 with
  | true => exact eq_of_eqB e
  | false => rw [e] at h; cases h
def hdR (ρ : List (Nat × Nat)) (hd : HF) : HF := fun n => match inv ρ n with
  | some o => hd o
  | none => hd n
def obR (ρ : List (Nat × Nat)) (g : Nat → Nat → Nat) (ob : OF) : OF := fun n => match inv ρ n with
  | some o => (ob o).map (Ob.ren ρ g ob o)
  | none => none
theorem hdR_of {ρ : List (Nat × Nat)} (h : Ren ρ) {o o' : Nat} (e : (o, o') ∈ ρ) : hdR ρ hd o' = hd o := by
  simp [hdR, (inv_some h).2 e]
theorem obR_of {ρ : List (Nat × Nat)} (h : Ren ρ) {o o' : Nat} {g : Nat → Nat → Nat} (e : (o, o') ∈ ρ) : obR ρ g ob o' = (ob o).map (Ob.ren ρ g ob o) := by
  simp [obR, (inv_some h).2 e]
theorem obR_some {ρ : List (Nat × Nat)} (h : Ren ρ) {n : Nat} {g : Nat → Nat → Nat} {x : Ob} (e : obR ρ g ob n = some x) : ∃ o y, (o, n) ∈ ρ ∧ ob o = some y ∧ x = y.ren ρ g ob o := by
  unfold obR at e
  split at e
  · rename_i o ho
    cases hy : ob o with
    | none => rw [hy] at e; cases e
    | some y => rw [hy] at e; injection e with e; exact ⟨o, y, (inv_some h).1 ho, hy, e.symm⟩
  · cases e
theorem look_renO_none {ρ0 : List (Nat × Nat)} {g : Nat → Nat → Nat} {n : Nat} : ∀ {l : List (Nat × Nat)}, n ∉ l.map (·.2) → look (renO ρ0 g ob l) n = none
  | [], _ => rfl
  | (o, o') :: r, h => by
    simp only [List.map_cons, List.mem_cons, not_or] at h
    simp only [renO]
    split
    · simp [look, Ne.symm h.1, look_renO_none h.2]
    · exact look_renO_none h.2
theorem look_renO_of {ρ0 : List (Nat × Nat)} {g : Nat → Nat → Nat} {o n : Nat} : ∀ {l : List (Nat × Nat)}, (l.map (·.2)).Nodup → (o, n) ∈ l → look (renO ρ0 g ob l) n = (ob o).map (Ob.ren ρ0 g ob o)
  | [], _, h => by cases h
  | (o1, o') :: r, hn, h => by
    simp only [List.map_cons, List.nodup_cons] at hn
    simp only [renO]
    rcases List.mem_cons.1 h with e | e
    · injection e with e1 e2; subst e1; subst e2
      cases hb : ob o with
      | none => simp only []; rw [look_renO_none hn.1]; rfl
      | some b => simp [look]
    · have hne : o' ≠ n := fun q => hn.1 (q ▸ List.mem_map.2 ⟨(o, n), e, rfl⟩)
      split
      · simp [look, hne, look_renO_of hn.2 e]
      · exact look_renO_of hn.2 e
theorem look_renO {ρ : List (Nat × Nat)} (h : Ren ρ) (g : Nat → Nat → Nat) : look (renO ρ g ob ρ) = obR ρ g ob := by
  funext n
  unfold obR
  split
  · rename_i o ho
    exact look_renO_of h.s ((inv_some h).1 ho)
  · rename_i ho
    refine look_renO_none fun hm => ?_
    obtain ⟨⟨o, n'⟩, hm2, e⟩ := List.mem_map.1 hm
    simp only at e; subst e
    rw [(inv_some h).2 hm2] at ho; cases ho

theorem capsRen_rel {ρ : List (Nat × Nat)} (h : Ren ρ) (g : Nat → Nat → Nat) : ∀ {l l' : List Cap}, capsRen ρ l = some l' → l'.length = l.length ∧
    ∀ (j : Nat) v t, l'[j]? = some t → (∀ s, l[j]? = some s → CapR w ok hd ob v s) → CapR w ok (hdR ρ hd) (obR ρ g ob) v t
  | [], l', e => by simp [capsRen] at e; subst e; simp
  | .t c :: r, l', e => by
    simp only [capsRen] at e
    split at e
    · rename_i l hl
      injection e with e; subst e
      obtain ⟨h1, h2⟩ := capsRen_rel h g hl
      refine ⟨by simp [h1], fun j v t ht hs => ?_⟩
      cases j with
      | zero => simp at ht; subst ht; exact hs (.t c) rfl
      | succ j => exact h2 j v t (by simpa using ht) fun s q => hs s (by simpa using q)
    · cases e
  | .ptr o off :: r, l', e => by
    simp only [capsRen] at e
    split at e
    · rename_i o' l ho hl
      injection e with e; subst e
      obtain ⟨h1, h2⟩ := capsRen_rel h g hl
      refine ⟨by simp [h1], fun j v t ht hs => ?_⟩
      cases j with
      | zero =>
        simp at ht; subst ht
        obtain ⟨cs, fz, b, q1, q2, q3⟩ := hs (.ptr o off) rfl
        have hm := look_mem ho
        exact ⟨vsRen ρ g ob cs, fz, b, by rw [obR_of h hm, q1]; rfl, by rw [hdR_of h hm]; exact q2, q3⟩
      | succ j => exact h2 j v t (by simpa using ht) fun s q => hs s (by simpa using q)
    · cases e
theorem VR.ren {ρ : List (Nat × Nat)} (h : Ren ρ) (g : Nat → Nat → Nat) {v : Value} {c : V} (hv : VR w ok hd ob v c) : VR w ok (hdR ρ hd) (obR ρ g ob) v (c.ren ρ g ob) := by
  cases c with
  | t c => exact hv
  | nil => exact hv
  | any => exact hv
  | row o g' =>
    obtain ⟨sz, es, cur, tags, fz, h1, h2, h3, h4⟩ := hv
    simp only [V.ren, h1]
    cases ho : look ρ o with
    | none => trivial
    | some o' =>
      have hm := look_mem ho
      simp only []
      cases hg : eqB g' cur with
      | false => trivial
      | true => exact ⟨sz, es, g o cur, [g o cur], fz, by rw [obR_of h hm, h1]; rfl, by rw [eq_of_eqB hg]; simp, h3, fun _ => by rw [hdR_of h hm]; exact h4 (eq_of_eqB hg)⟩
  | ptr o off =>
    obtain ⟨cs, fz, b, q1, q2, q3⟩ := hv
    simp only [V.ren]
    cases ho : look ρ o with
    | none => trivial
    | some o' =>
      have hm := look_mem ho
      exact ⟨vsRen ρ g ob cs, fz, b, by rw [obR_of h hm, q1]; rfl, by rw [hdR_of h hm]; exact q2, q3⟩
  | bsl o n sz =>
    obtain ⟨cs, fz, b, q1, q2, q3, q4⟩ := hv
    simp only [V.ren]
    cases ho : look ρ o with
    | none => trivial
    | some o' =>
      have hm := look_mem ho
      exact ⟨vsRen ρ g ob cs, fz, b, by rw [obR_of h hm, q1]; rfl, by rw [hdR_of h hm]; exact q2, q3, q4⟩
  | part o g' i j =>
    obtain ⟨sz, es, cur, tags, fz, h1, h2, h3, h4⟩ := hv
    simp only [V.ren, h1]
    cases ho : look ρ o with
    | none => trivial
    | some o' =>
      have hm := look_mem ho
      simp only []
      cases hg : eqB g' cur with
      | false => trivial
      | true => exact ⟨sz, es, g o cur, [g o cur], fz, by rw [obR_of h hm, h1]; rfl, by rw [eq_of_eqB hg]; simp, h3, fun _ => by rw [hdR_of h hm]; exact h4 (eq_of_eqB hg)⟩
  | elt o g' i j =>
    obtain ⟨sz, es, cur, tags, fz, h1, h2, h3, h4⟩ := hv
    simp only [V.ren, h1]
    cases ho : look ρ o with
    | none => trivial
    | some o' =>
      have hm := look_mem ho
      simp only []
      cases hg : eqB g' cur with
      | false => trivial
      | true => exact ⟨sz, es, g o cur, [g o cur], fz, by rw [obR_of h hm, h1]; rfl, by rw [eq_of_eqB hg]; simp, h3, fun _ => by rw [hdR_of h hm]; exact h4 (eq_of_eqB hg)⟩
  | sub o g' i j =>
    obtain ⟨sz, es, cur, tags, fz, h1, h2, h3, h4⟩ := hv
    simp only [V.ren, h1]
    cases ho : look ρ o with
    | none => trivial
    | some o' =>
      have hm := look_mem ho
      simp only []
      cases hg : eqB g' cur with
      | false => trivial
      | true => exact ⟨sz, es, g o cur, [g o cur], fz, by rw [obR_of h hm, h1]; rfl, by rw [eq_of_eqB hg]; simp, h3, fun _ => by rw [hdR_of h hm]; exact h4 (eq_of_eqB hg)⟩
  | selt o g' i j k =>
    obtain ⟨sz, es, cur, tags, fz, h1, h2, h3, h4⟩ := hv
    simp only [V.ren, h1]
    cases ho : look ρ o with
    | none => trivial
    | some o' =>
      have hm := look_mem ho
      simp only []
      cases hg : eqB g' cur with
      | false => trivial
      | true => exact ⟨sz, es, g o cur, [g o cur], fz, by rw [obR_of h hm, h1]; rfl, by rw [eq_of_eqB hg]; simp, h3, fun _ => by rw [hdR_of h hm]; exact h4 (eq_of_eqB hg)⟩
  | fn f first caps =>
    obtain ⟨fvs, cvs, h1, h2, h3, h4, h5, h6⟩ := hv
    simp only [V.ren]
    split
    · rename_i l hl
      obtain ⟨l1, l2⟩ := capsRen_rel (w := w) (ok := ok) (hd := hd) (ob := ob) h g hl
      refine ⟨fvs, cvs, h1, h2, h3, by omega, h5, fun j v t p q => l2 j v t q fun s hs => h6 j v s p hs⟩
    · trivial
theorem vsRen_get {ρ : List (Nat × Nat)} {g : Nat → Nat → Nat} : ∀ (l : List V) (i : Nat), (vsRen ρ g ob l)[i]? = l[i]?.map (V.ren ρ g ob)
  | [], i => by simp [vsRen]
  | v :: l, i => by cases i with
    | zero => simp [vsRen]
    | succ i => simp [vsRen, vsRen_get l i]
theorem vsRen_len {ρ : List (Nat × Nat)} {g : Nat → Nat → Nat} : ∀ (l : List V), (vsRen ρ g ob l).length = l.length
  | [] => rfl
  | v :: l => by simp [vsRen, vsRen_len l]
theorem goRen_get {ρ : List (Nat × Nat)} {g : Nat → Nat → Nat} : ∀ (l : List A) (i : Nat), (A.ren.go ρ g ob l)[i]? = l[i]?.map (A.ren ρ g ob)
  | [], i => by simp [A.ren.go]
  | v :: l, i => by cases i with
    | zero => simp [A.ren.go]
    | succ i => simp [A.ren.go, goRen_get l i]
theorem goRen_len {ρ : List (Nat × Nat)} {g : Nat → Nat → Nat} : ∀ (l : List A), (A.ren.go ρ g ob l).length = l.length
  | [] => rfl
  | v :: l => by simp [A.ren.go, goRen_len l]
theorem AR.ren {ρ : List (Nat × Nat)} (h : Ren ρ) (g : Nat → Nat → Nat) {v : Value} {x : A} (hv : AR w ok hd ob v x) : AR w ok (hdR ρ hd) (obR ρ g ob) v (x.ren ρ g ob) := by
  induction hv with
  | one v c hc => exact .one _ _ (hc.ren h g)
  | agg cs vs hl hc =>
    refine .agg cs _ (by rw [vsRen_len]; exact hl) fun i c x p q => ?_
    rw [vsRen_get] at q
    cases hx : vs[i]? with
    | none => rw [hx] at q; cases q
    | some y => rw [hx] at q; injection q with q; subst q; exact (hc i c y p hx).ren h g
  | tup xs as hl hc ih =>
    refine .tup xs _ (by rw [goRen_len]; exact hl) fun i x y p q => ?_
    rw [goRen_get] at q
    cases hx : as[i]? with
    | none => rw [hx] at q; cases q
    | some z => rw [hx] at q; injection q with q; subst q; exact ih i x z p hx
theorem ObR.ren {ρ : List (Nat × Nat)} (h : Ren ρ) (g : Nat → Nat → Nat) (o : Nat) {k : Hd} {x : Ob} (hx : ObR w ok hd ob k x) : ObR w ok (hdR ρ hd) (obR ρ g ob) k (x.ren ρ g ob o) := by
  cases x with
  | box cs fz =>
    obtain ⟨b, c, e, fr, h1, h2, h3, h4, h5, h6, h7⟩ := hx
    refine ⟨b, c, e, fr, h1, h2, h3, h4, h5, by rw [vsRen_len]; exact h6, fun j v x p q => ?_⟩
    rw [vsRen_get] at q
    cases hx : cs[j]? with
    | none => rw [hx] at q; cases q
    | some y => rw [hx] at q; injection q with q; subst q; exact (h7 j v y p hx).ren h g
  | row sz es cur tags fz =>
    obtain ⟨_, hz, hh⟩ := hx
    exact ⟨by simp, hz, hh⟩
theorem ORel.ren {ρ : List (Nat × Nat)} (h : Ren ρ) (g : Nat → Nat → Nat) (R : ORel ok hd ob w) : ORel ok (hdR ρ hd) (obR ρ g ob) w where
  okLt := R.okLt
  own n b hn hb := by
    cases hx : obR ρ g ob n with
    | none => exact absurd hx hn
    | some x =>
      obtain ⟨o, y, hm, hy, _⟩ := obR_some h hx
      rw [hdR_of h hm] at hb
      exact R.own o b (by rw [hy]; simp) hb
  disj n m b hnm hn hm' hb := by
    cases hx : obR ρ g ob n with
    | none => exact absurd hx hn
    | some x =>
      cases hx' : obR ρ g ob m with
      | none => exact absurd hx' hm'
      | some x' =>
        obtain ⟨o, y, hm, hy, _⟩ := obR_some h hx
        obtain ⟨o1, y1, hm1, hy1, _⟩ := obR_some h hx'
        rw [hdR_of h hm] at hb
        rw [hdR_of h hm1]
        have hne : o ≠ o1 := fun e => hnm (h.fn hm (e ▸ hm1))
        exact R.disj o o1 b hne (by rw [hy]; simp) (by rw [hy1]; simp) hb
  obs n x hx := by
    obtain ⟨o, y, hm, hy, rfl⟩ := obR_some h hx
    rw [hdR_of h hm]
    exact (R.obs o y hy).ren h g o

theorem keepB_get {ρ : List (Nat × Nat)} : ∀ {m : Nat}, keepB ρ m = true → ∀ n, n < m → look ρ n = some n
  | 0, _, n, hn => by omega
  | k + 1, h, n, hn => by
    simp only [keepB, Bool.and_eq_true] at h
    by_cases e : n = k
    · subst e
      have h1 := h.1
      split at h1
      · rename_i k' hk; rw [hk, eq_of_eqB h1]
      · cases h1
    · exact keepB_get h.2 n (by omega)
theorem look_renT {ρ : List (Nat × Nat)} {g : Nat → Nat → Nat} : ∀ (l : Tms) (t : Nat), look (renT ρ g ob l) t = (look l t).map (A.ren ρ g ob)
  | [], t => rfl
  | (i, x) :: r, t => by
    by_cases e : i = t
    · simp [renT, look, e]
    · simp [renT, look, e, look_renT r t]
theorem Rel.ren {m : Nat} {ρ : List (Nat × Nat)} {st st' : St} (R : Rel E ok hd (look st.tm) (look st.ob) tmps w) (hm : ∀ n, E.ob0 n ≠ none → n < m) (h : renS m ρ st = some st') :
    Rel E ok (hdR ρ hd) (look st'.tm) (look st'.ob) tmps w := by
  unfold renS at h
  cases hc : (okRen ρ && keepB ρ m) with
  | false => rw [hc] at h; cases h
  | true =>
    rw [hc] at h
    simp only [cond_true] at h
    injection h with h; subst h
    obtain ⟨hc1, hc2⟩ := bif_and hc
    have hR := okRen_iff hc1
    simp only
    rw [look_renO hR]
    exact {
      toORel := R.toORel.ren hR keep7
      fr := R.fr
      ok0 := R.ok0
      okSub := R.okSub
      ownSub := fun n b hn hb => by
        cases hx : obR ρ keep7 (look st.ob) n with
        | none => exact absurd hx hn
        | some x =>
          obtain ⟨o, y, hm, hy, _⟩ := obR_some hR hx
          rw [hdR_of hR hm] at hb
          exact R.ownSub o b (by rw [hy]; simp) hb
      nt := R.nt
      kp := by
        refine ⟨fun o cs fz ho => ?_, fun o sz es cur tags fz ho => ?_⟩
        · obtain ⟨cs', fz', h1, h2⟩ := R.kp.box o cs fz ho
          have hm' := look_mem (keepB_get hc2 o (hm o (by rw [ho]; simp)))
          exact ⟨_, fz', by rw [obR_of hR hm', h1]; rfl, by rw [hdR_of hR hm']; exact h2⟩
        · obtain ⟨es', cur', tags', fz', h1, h2⟩ := R.kp.row o sz es cur tags fz ho
          have hm' := look_mem (keepB_get hc2 o (hm o (by rw [ho]; simp)))
          exact ⟨es', keep7 o cur', [keep7 o cur'], fz', by rw [obR_of hR hm', h1]; rfl, fun q => by rw [hdR_of hR hm']; exact h2 (keep7_eq q)⟩
      tms := fun t x hx => by
        rw [look_renT] at hx
        cases hy : look st.tm t with
        | none => rw [hy] at hx; cases hx
        | some y => rw [hy] at hx; injection hx with hx; subst hx; exact (R.tms t y hy).ren hR keep7 }

end Go.TL

/- TlU -/
namespace Go.TL
open Go

variable {P : Program} {E : Env P} {ok : Nat → Prop} {hd : HF} {tm : Nat → Option A} {ob : OF} {w : World} {a : Act} {K : A → Obs → Prop} {o : Oper} {tab : TF} {cl : Nat → List A → Obs → (A → Obs → Prop) → Prop} {tmps : Array Value}

/-- A call's run: what it comes to, whatever waits for it. -/
def Goto (P : Program) (f : Nat) (vs : Array Value) (w : World) (Q : Value → World → Prop) : Prop :=
  ∀ (o : Oper) (a : Act) (next : Act → World → Prop) (Qx : Exit → Act → World → Prop), (∀ v w', Q v w' → next (a.put o.dst v) w') → o.upon P a next Qx ((callFunc f vs).run P w)

/-- What a call may have done with what it was handed. -/
structure Ret (ok : Nat → Prop) (hd : HF) (ob : OF) (w : World) (ok' : Nat → Prop) (hd' : HF) (ob' : OF) (w' : World) : Prop where
  rel : ORel ok' hd' ob' w'
  os : w'.os = w.os
  tape : w'.tape = w.tape
  output : w'.output = w.output
  size : w.heap.size ≤ w'.heap.size
  block : ∀ b, b < w.heap.size → (∀ n, ob n ≠ none → b ∉ (hd n).own) → w'.heap[b]? = w.heap[b]?
  okUp : ∀ b, ok b → ok' b
  okSub : ∀ b, ok' b → ok b ∨ w.heap.size ≤ b ∨ ∃ n, ob n ≠ none ∧ b ∈ (hd n).own
  ownSub : ∀ n b, ob' n ≠ none → b ∈ (hd' n).own → w.heap.size ≤ b ∨ ∃ m, ob m ≠ none ∧ b ∈ (hd m).own
  kp : Keep hd ob hd' ob'

/-- A function's contract: arguments and objects as they are handed in, results and objects as they come back. -/
def ACall (P : Program) (f : Nat) (args : List A) (ob : Obs) (K : A → Obs → Prop) : Prop :=
  ∀ (w : World) (ok : Nat → Prop) (hd : HF) (vs : List Value), Gl P w ok → ORel ok hd (look ob) w → vs.length = args.length → (∀ (i : Nat) v x, vs[i]? = some v → args[i]? = some x → AR w ok hd (look ob) v x) →
    Goto P f vs.toArray w fun v w' => ∃ ok' hd' r ob', K r ob' ∧ Ret ok hd (look ob) w ok' hd' (look ob') w' ∧ AR w' ok' hd' (look ob') v r
theorem ACall.mono {f : Nat} {args : List A} {ob : Obs} {K K' : A → Obs → Prop} (h : ACall P f args ob K) (hk : ∀ r ob', K r ob' → K' r ob') : ACall P f args ob K' := by
  intro w ok hd vs G R hl ha o a next Qx hn
  refine h w ok hd vs G R hl ha o a next Qx fun v w' ⟨ok', hd', r, ob', k, h1, h2⟩ => hn v w' ⟨ok', hd', r, ob', hk r ob' k, h1, h2⟩

theorem look_rev {α : Type} {l : List (Nat × α)} (h : (l.map (·.1)).Nodup) (n : Nat) : look l.reverse n = look l n := by
  cases hl : look l n with
  | some x => exact mem_look (by rw [List.map_reverse]; exact (List.reverse_perm _).nodup_iff.2 h) (List.mem_reverse.2 (look_mem hl))
  | none =>
    cases hr : look l.reverse n with
    | none => rfl
    | some x => rw [mem_look h (List.mem_reverse.1 (look_mem hr))] at hl; cases hl
theorem updO_append (ob : OF) (l m : Obs) : updO ob (l ++ m) = updO (updO ob l) m := by
  funext n
  simp only [updO, List.reverse_append, look_append]
  cases look m.reverse n <;> rfl

def tagOld (x : Option Ob) : Ob → Ob
  | .row sz es cur tags fz => match x with
    | some (.row _ _ _ old _) => .row sz es cur (tags ++ old) fz
    | _ => .row sz es cur tags fz
  | b => b
theorem oldTags_fst {lk : OF} : ∀ (l : Obs), (oldTags lk l).map (·.1) = l.map (·.1)
  | [] => rfl
  | (n, .box cs fz) :: r => by simp [oldTags, oldTags_fst r]
  | (n, .row sz es cur tags fz) :: r => by
    simp only [oldTags, List.map_cons, oldTags_fst r]
    congr 1
    split <;> rfl
theorem look_oldTags {lk : OF} : ∀ (l : Obs) (n : Nat), look (oldTags lk l) n = (look l n).map (tagOld (lk n))
  | [], n => rfl
  | (i, .box cs fz) :: r, n => by
    by_cases e : i = n
    · simp [oldTags, look, e, tagOld]
    · simp [oldTags, look, e, look_oldTags r n]
  | (i, .row sz es cur tags fz) :: r, n => by
    by_cases e : i = n
    · subst e
      simp only [oldTags]
      split <;> simp_all [look, tagOld]
    · simp only [oldTags]
      split <;> simp [look, e, look_oldTags r n]
theorem renO_fst {ρ0 : List (Nat × Nat)} {g : Nat → Nat → Nat} : ∀ (l : List (Nat × Nat)), (l.map (·.2)).Nodup → ((renO ρ0 g ob l).map (·.1)).Nodup ∧ ∀ n, n ∈ (renO ρ0 g ob l).map (·.1) → n ∈ l.map (·.2)
  | [], _ => by simp [renO]
  | (o, o') :: r, h => by
    simp only [List.map_cons, List.nodup_cons] at h
    obtain ⟨h1, h2⟩ := renO_fst (ρ0 := ρ0) (g := g) r h.2
    simp only [renO]
    split
    · refine ⟨?_, ?_⟩
      · simp only [List.map_cons, List.nodup_cons]; exact ⟨fun q => h.1 (h2 _ q), h1⟩
      · intro n hn
        simp only [List.map_cons, List.mem_cons] at hn ⊢
        rcases hn with hn | hn
        · exact .inl hn
        · exact .inr (h2 n hn)
    · exact ⟨h1, fun n hn => by simp only [List.map_cons, List.mem_cons]; exact .inr (h2 n hn)⟩

/-- The objects behind a call. -/
def obN (ρ : List (Nat × Nat)) (T : Nat → Nat → Nat) (obB ob' : OF) : OF := fun n => match obR ρ T ob' n with
  | some x => some (tagOld (obB n) x)
  | none => obB n
def hdN (ρ : List (Nat × Nat)) (T : Nat → Nat → Nat) (hdB hd' : HF) (ob' : OF) : HF := fun n => match obR ρ T ob' n with
  | some _ => hdR ρ hd' n
  | none => hdB n
theorem updO_back {ρ : List (Nat × Nat)} (h : Ren ρ) (T : Nat → Nat → Nat) (obB ob' : OF) : updO obB (oldTags obB (renO ρ T ob' ρ)) = obN ρ T obB ob' := by
  funext n
  have hn : ((oldTags obB (renO ρ T ob' ρ)).map (·.1)).Nodup := by rw [oldTags_fst]; exact (renO_fst ρ h.s).1
  simp only [updO, look_rev hn, look_oldTags, look_renO h, obN]
  cases obR ρ T ob' n <;> rfl

theorem tagOld_box {x : Option Ob} {b : Ob} {cs : List V} {fz : Bool} (h : tagOld x b = .box cs fz) : b = .box cs fz := by
  cases b with
  | box => exact h
  | row => simp only [tagOld] at h; split at h <;> cases h

theorem le_obN {ρ : List (Nat × Nat)} {T : Nat → Nat → Nat} {hdB hd' : HF} {obB ob' : OF} : Le (hdR ρ hd') (obR ρ T ob') (hdN ρ T hdB hd' ob') (obN ρ T obB ob') where
  box n cs fz h := ⟨cs, fz, by simp [obN, h, tagOld], by simp [hdN, h]⟩
  row n sz es cur tags fz h := by
    refine ⟨es, cur, (match obB n with | some (.row _ _ _ old _) => tags ++ old | _ => tags), fz, ?_, ?_, .inl ⟨rfl, by simp [hdN, h], by simp [hdN, h]⟩⟩
    · simp only [obN, h, tagOld]; split <;> rfl
    · intro g hg; split
      · exact List.mem_append_left _ hg
      · exact hg

theorem ObR.tagOld {w : World} {ok : Nat → Prop} {hd : HF} {ob : OF} {h : Hd} {x : Ob} {y : Option Ob} (hx : ObR w ok hd ob h x) : ObR w ok hd ob h (tagOld y x) := by
  cases x with
  | box => exact hx
  | row sz es cur tags fz =>
    obtain ⟨h1, h2, h3⟩ := hx
    simp only [Go.TL.tagOld]
    split
    · exact ⟨List.mem_append_left _ h1, h2, h3⟩
    · exact ⟨h1, h2, h3⟩

/-- What is passed, by its names there and here. -/
structure BackOk (ρ : List (Nat × Nat)) (ns : List Nat) (T : Nat → Nat → Nat) (obB : OF) (ob' : OF) (hdB hd' : HF) : Prop where
  ren : Ren ρ
  /-- Names here are those of what was passed, or new. -/
  nam : ∀ k n, (k, n) ∈ ρ → n ∈ ns ∨ obB n = none
  /-- What was passed came back. -/
  cam : ∀ n, n ∈ ns → obB n ≠ none → ∃ k, (k, n) ∈ ρ ∧ ob' k ≠ none
  box : ∀ k n, (k, n) ∈ ρ → ∀ cs fz, obB n = some (.box cs fz) → ∃ cs' fz', ob' k = some (.box cs' fz') ∧ (hd' k).v = (hdB n).v
  row : ∀ k n, (k, n) ∈ ρ → ∀ sz es cur tags fz, obB n = some (.row sz es cur tags fz) → ∃ es' cur' tags' fz', ob' k = some (.row sz es' cur' tags' fz') ∧ ((T k cur' = cur ∧ (hd' k).v = (hdB n).v ∧ (hd' k).sub = (hdB n).sub) ∨ (T k cur' ∉ tags ∧ T k cur' ≠ 7))

theorem le_back {ρ : List (Nat × Nat)} {ns : List Nat} {T : Nat → Nat → Nat} {hdB hd' : HF} {obB ob' : OF} (B : BackOk ρ ns T obB ob' hdB hd') : Le hdB obB (hdN ρ T hdB hd' ob') (obN ρ T obB ob') where
  box n cs fz h := by
    cases hi : inv ρ n with
    | none =>
      have : obR ρ T ob' n = none := by simp [obR, hi]
      exact ⟨cs, fz, by simp [obN, this, h], by simp [hdN, this]⟩
    | some k =>
      have hm := (inv_some B.ren).1 hi
      obtain ⟨cs', fz', h1, h2⟩ := B.box k n hm cs fz h
      have : obR ρ T ob' n = some (.box (vsRen ρ T ob' cs') fz') := by rw [obR_of B.ren hm, h1]; rfl
      exact ⟨vsRen ρ T ob' cs', fz', by simp [obN, this, tagOld], by simp only [hdN, this]; rw [hdR_of B.ren hm]; exact h2⟩
  row n sz es cur tags fz h := by
    cases hi : inv ρ n with
    | none =>
      have : obR ρ T ob' n = none := by simp [obR, hi]
      exact ⟨es, cur, tags, fz, by simp [obN, this, h], fun _ h => h, .inl ⟨rfl, by simp [hdN, this], by simp [hdN, this]⟩⟩
    | some k =>
      have hm := (inv_some B.ren).1 hi
      obtain ⟨es', cur', tags', fz', h1, hT⟩ := B.row k n hm sz es cur tags fz h
      have : obR ρ T ob' n = some (.row sz es' (T k cur') [T k cur'] fz') := by rw [obR_of B.ren hm, h1]; rfl
      exact ⟨es', T k cur', T k cur' :: tags, fz', by simp [obN, this, tagOld, h], fun g hg => .tail _ hg, hT.imp_left fun ⟨e1, e2, e3⟩ => ⟨e1, by simp only [hdN, this]; rw [hdR_of B.ren hm]; exact e2, by simp only [hdN, this]; rw [hdR_of B.ren hm]; exact e3⟩⟩

theorem Rel.back {okB okN : Nat → Prop} {hdB hd' : HF} {obB ob' : OF} {w' : World} {ρ : List (Nat × Nat)} {ns : List Nat} {T : Nat → Nat → Nat} (B : Rel E okB hdB tm obB tmps w) (O : BackOk ρ ns T obB ob' hdB hd') (R1 : ORel okN (hdR ρ hd') (obR ρ T ob') w')
    (up : ∀ b, okB b → okN b) (sub : ∀ b, okN b → okB b ∨ w.heap.size ≤ b ∨ ∃ n, n ∈ ns ∧ obB n ≠ none ∧ b ∈ (hdB n).own)
    (os : w'.os = w.os) (tape : w'.tape = w.tape) (output : w'.output = w.output) (size : w.heap.size ≤ w'.heap.size)
    (block : ∀ b, b < w.heap.size → (∀ n, n ∈ ns → obB n ≠ none → b ∉ (hdB n).own) → w'.heap[b]? = w.heap[b]?)
    (ownSub : ∀ k b, ob' k ≠ none → b ∈ (hd' k).own → w.heap.size ≤ b ∨ ∃ n, n ∈ ns ∧ obB n ≠ none ∧ b ∈ (hdB n).own) :
    Rel E okN (hdN ρ T hdB hd' ob') tm (obN ρ T obB ob') tmps w' := by
  have le := le_back O
  have hok : ∀ b, okB b → w'.heap[b]? = w.heap[b]? := fun b hb => block b (B.okLt b hb) fun n _ hne q => (B.own n b hne q).1 hb
  -- an object behind the call is one that came back, or one that was not passed
  have cases : ∀ n x, obN ρ T obB ob' n = some x → (∃ y, obR ρ T ob' n = some y ∧ x = tagOld (obB n) y ∧ hdN ρ T hdB hd' ob' n = hdR ρ hd' n) ∨ (obR ρ T ob' n = none ∧ obB n = some x ∧ n ∉ ns ∧ hdN ρ T hdB hd' ob' n = hdB n) := by
    intro n x hx
    cases hy : obR ρ T ob' n with
    | some y => simp [obN, hy] at hx; exact .inl ⟨y, rfl, hx.symm, by simp [hdN, hy]⟩
    | none =>
      simp [obN, hy] at hx
      refine .inr ⟨rfl, hx, fun hn => ?_, by simp [hdN, hy]⟩
      obtain ⟨k, hk, hk2⟩ := O.cam n hn (by rw [hx]; simp)
      rw [obR_of O.ren hk] at hy
      cases hz : ob' k with
      | none => exact hk2 hz
      | some z => rw [hz] at hy; cases hy
  have ownR : ∀ n y, obR ρ T ob' n = some y → ∀ b, b ∈ (hdR ρ hd' n).own → w.heap.size ≤ b ∨ ∃ n, n ∈ ns ∧ obB n ≠ none ∧ b ∈ (hdB n).own := by
    intro n y hy b hb
    obtain ⟨k, z, hm, hz, _⟩ := obR_some O.ren hy
    rw [hdR_of O.ren hm] at hb
    exact ownSub k b (by rw [hz]; simp) hb
  refine { okLt := R1.okLt, own := ?_, disj := ?_, obs := ?_, fr := ?_, ok0 := fun b hb => up b (B.ok0 b hb), okSub := ?_, ownSub := ?_, nt := B.nt, kp := B.kp.trans le.keep, tms := fun t x hx => (B.tms t x hx).mono up hok le }
  · intro n b hn hb
    cases hx : obN ρ T obB ob' n with
    | none => exact absurd hx hn
    | some x =>
      rcases cases n x hx with ⟨y, hy, _, hh⟩ | ⟨_, hy, hns, hh⟩
      · rw [hh] at hb
        exact R1.own n b (by rw [hy]; simp) hb
      · rw [hh] at hb
        have hne : obB n ≠ none := by rw [hy]; simp
        obtain ⟨h1, h2⟩ := B.own n b hne hb
        refine ⟨fun hk => ?_, Nat.lt_of_lt_of_le h2 size⟩
        rcases sub b hk with h | h | ⟨m, hm, hm2, hm3⟩
        · exact h1 h
        · omega
        · exact B.disj m n b (fun q => hns (q ▸ hm)) hm2 hne hm3 hb
  · intro n m b hnm hn hm hb hb2
    cases hx : obN ρ T obB ob' n with
    | none => exact absurd hx hn
    | some x =>
      cases hx2 : obN ρ T obB ob' m with
      | none => exact absurd hx2 hm
      | some x2 =>
        rcases cases n x hx with ⟨y, hy, _, hh⟩ | ⟨_, hy, hns, hh⟩ <;> rcases cases m x2 hx2 with ⟨y2, hy2, _, hh2⟩ | ⟨_, hy2, hns2, hh2⟩ <;> rw [hh] at hb <;> rw [hh2] at hb2
        · exact R1.disj n m b hnm (by rw [hy]; simp) (by rw [hy2]; simp) hb hb2
        · have hne : obB m ≠ none := by rw [hy2]; simp
          rcases ownR n y hy b hb with h | ⟨k, hk, hk2, hk3⟩
          · have := (B.own m b hne hb2).2; omega
          · exact B.disj k m b (fun q => hns2 (q ▸ hk)) hk2 hne hk3 hb2
        · have hne : obB n ≠ none := by rw [hy]; simp
          rcases ownR m y2 hy2 b hb2 with h | ⟨k, hk, hk2, hk3⟩
          · have := (B.own n b hne hb).2; omega
          · exact B.disj k n b (fun q => hns (q ▸ hk)) hk2 hne hk3 hb
        · exact B.disj n m b hnm (by rw [hy]; simp) (by rw [hy2]; simp) hb hb2
  · intro n x hx
    rcases cases n x hx with ⟨y, hy, he, hh⟩ | ⟨_, hy, hns, hh⟩
    · rw [hh, he]
      exact ((R1.obs n y hy).mono (fun _ h => h) (fun _ _ => rfl) (fun _ _ => rfl) le_obN).tagOld
    · rw [hh]
      have hne : obB n ≠ none := by rw [hy]; simp
      exact (B.obs n x hy).mono up hok (fun b hb => block b (B.own n b hne hb).2 fun m hm hm2 q => B.disj m n b (fun q => hns (q ▸ hm)) hm2 hne q hb) le
  · exact ⟨os.trans B.fr.os, tape.trans B.fr.tape, output.trans B.fr.output, Nat.le_trans B.fr.size size, fun b hb hn => by
      refine (block b (Nat.lt_of_lt_of_le hb B.fr.size) fun m hm hm2 q => ?_).trans (B.fr.block b hb hn)
      rcases B.ownSub m b hm2 q with h | h
      · omega
      · exact hn h⟩
  · intro b hb
    have := B.fr.size
    rcases sub b hb with h | h | ⟨m, hm, hm2, hm3⟩
    · exact B.okSub b h
    · exact .inr (.inl (by omega))
    · exact .inr (B.ownSub m b hm2 hm3)
  · intro n b hn hb
    have := B.fr.size
    cases hx : obN ρ T obB ob' n with
    | none => exact absurd hx hn
    | some x =>
      rcases cases n x hx with ⟨y, hy, _, hh⟩ | ⟨_, hy, hns, hh⟩ <;> rw [hh] at hb
      · rcases ownR n y hy b hb with h | ⟨k, hk, hk2, hk3⟩
        · exact .inl (by omega)
        · exact B.ownSub k b hk2 hk3
      · exact B.ownSub n b (by rw [hy]; simp) hb

end Go.TL

/- TlV -/
namespace Go.TL
open Go

variable {P : Program} {E : Env P} {ok : Nat → Prop} {hd : HF} {tm : Nat → Option A} {ob : OF} {w : World} {a : Act} {K : A → Obs → Prop} {o : Oper} {tab : TF} {cl : Nat → List A → Obs → (A → Obs → Prop) → Prop} {tmps : Array Value}

theorem Le.trans {h1 h2 h3 : HF} {o1 o2 o3 : OF} (a : Le h1 o1 h2 o2) (b : Le h2 o2 h3 o3) : Le h1 o1 h3 o3 where
  box o cs fz h := by
    obtain ⟨cs', fz', h', e⟩ := a.box o cs fz h
    obtain ⟨cs'', fz'', h'', e'⟩ := b.box o cs' fz' h'
    exact ⟨cs'', fz'', h'', e'.trans e⟩
  row o sz es cur tags fz h := by
    obtain ⟨es', cur', tags', fz', h', ht, hc⟩ := a.row o sz es cur tags fz h
    obtain ⟨es2, cur2, tags2, fz2, h2', ht2, hc2⟩ := b.row o sz es' cur' tags' fz' h'
    refine ⟨es2, cur2, tags2, fz2, h2', fun g hg => ht2 g (ht g hg), ?_⟩
    rcases hc2 with ⟨e1, e2, e3⟩ | ⟨hn, hn7⟩
    · rcases hc with ⟨f1, f2, f3⟩ | ⟨hn, hn7⟩
      · exact .inl ⟨e1.trans f1, e2.trans f2, e3.trans f3⟩
      · exact .inr (e1 ▸ ⟨hn, hn7⟩)
    · exact .inr ⟨fun q => hn (ht _ q), hn7⟩

def nilHd : Hd := (hdOf (.slice none 0 0) [])
/-- Rows of one's own that are empty as yet. -/
def Virt (vo : Obs) : Prop := ∀ n x, (n, x) ∈ vo → ∃ sz, x = .row sz [] 0 [0] false
theorem posB_mem : ∀ {vo : Obs}, posB vo = true → ∀ n sz es cur tags fz, (n, Ob.row sz es cur tags fz) ∈ vo → 0 < wd sz
  | [], _, n, sz, es, cur, tags, fz, hm => by cases hm
  | (i, .box cs f) :: r, h, n, sz, es, cur, tags, fz, hm => by simp [posB] at h
  | (i, .row sz' es' cur' tags' fz') :: r, h, n, sz, es, cur, tags, fz, hm => by
    simp only [posB, Bool.and_eq_true] at h
    rcases List.mem_cons.1 hm with e | hm
    · injection e with e1 e2; injection e2 with e2; subst e2; exact le_of_leB h.1
    · exact posB_mem h.2 n sz es cur tags fz hm
theorem freshB_mem {lk : OF} : ∀ {l : List Nat}, freshB lk l = true → ∀ n, n ∈ l → lk n = none
  | [], _, n, hm => by cases hm
  | i :: r, h, n, hm => by
    simp only [freshB, Bool.and_eq_true] at h
    rcases List.mem_cons.1 hm with e | hm
    · subst e
      have := h.1
      split at this
      · assumption
      · cases this
    · exact freshB_mem h.2 n hm
theorem keys_map : ∀ (l : Obs), keys l = l.map (·.1)
  | [] => rfl
  | (n, x) :: r => by simp [keys, keys_map r]

theorem Rel.virt : ∀ {vo : Obs} {hd : HF} {ob : OF}, Virt vo → posB vo = true → (vo.map (·.1)).Nodup → (∀ n, n ∈ vo.map (·.1) → ob n = none) → Rel E ok hd tm ob tmps w →
    ∃ hd1, Rel E ok hd1 tm (updO ob vo) tmps w ∧ Le hd ob hd1 (updO ob vo) ∧ (∀ n, n ∉ vo.map (·.1) → hd1 n = hd n ∧ updO ob vo n = ob n) ∧ ∀ n x, (n, x) ∈ vo → hd1 n = nilHd ∧ updO ob vo n = some x := by
  intro vo
  induction vo with
  | nil => intro hd ob _ _ _ _ R; exact ⟨hd, R, Le.refl _ _, fun n _ => ⟨rfl, rfl⟩, fun n x h => by cases h⟩
  | cons p vo ih =>
    obtain ⟨n, x⟩ := p
    intro hd ob hv hp hn hf R
    obtain ⟨sz, rfl⟩ := hv n x (by simp)
    have hz := posB_mem hp n sz [] 0 [0] false (by simp)
    simp only [List.map_cons, List.nodup_cons] at hn
    have hfn := hf n (by simp)
    have hp' : posB vo = true := by simp only [posB, Bool.and_eq_true] at hp; exact hp.2
    obtain ⟨hd1, R1, le1, h1, h2⟩ := ih (hd := setF hd n nilHd) (ob := setF ob n (some (.row sz [] 0 [0] false))) (fun m x hm => hv m x (by simp [hm])) hp' hn.2 (fun m hm => by
      have hne : m ≠ n := by intro e; subst e; exact hn.1 hm
      rw [setF_ne _ _ _ _ hne]; exact hf m (by simp only [List.map_cons, List.mem_cons]; exact .inr hm)) (rel_vrow R hfn (by simp) hz)
    have e : updO (setF ob n (some (.row sz [] 0 [0] false))) vo = updO ob ((n, .row sz [] 0 [0] false) :: vo) := by
      rw [← updO_one, ← updO_append]; rfl
    rw [e] at R1 le1 h1 h2
    refine ⟨hd1, R1, (le_new hfn nilHd _).trans le1, fun m hm => ?_, fun m x hm => ?_⟩
    · simp only [List.map_cons, List.mem_cons, not_or] at hm
      obtain ⟨a1, a2⟩ := h1 m hm.2
      rw [setF_ne _ _ _ _ hm.1] at a1 a2
      exact ⟨a1, a2⟩
    · rcases List.mem_cons.1 hm with e | hm
      · injection e with e1 e2; subst e1; subst e2
        obtain ⟨a1, a2⟩ := h1 m hn.1
        rw [setF_same] at a1 a2
        exact ⟨a1, a2⟩
      · exact h2 m x hm

theorem virtL_rel {hd1 : HF} {ob1 : OF} : ∀ (vl : List (Nat × Nat)) (n : Nat) (cs cs' : List V) (vo : Obs), virtL n vl cs = (cs', vo) → Virt vo ∧ cs'.length = cs.length ∧
    ∀ (cvs : List Value), (∀ (i : Nat) v x, cvs[i]? = some v → cs[i]? = some x → VR w ok hd1 ob1 v x) → (∀ m x, (m, x) ∈ vo → hd1 m = nilHd ∧ ob1 m = some x) → ∀ (i : Nat) v x, cvs[i]? = some v → cs'[i]? = some x → VR w ok hd1 ob1 v x
  | [], n, cs, cs', vo, h => by
    simp only [virtL] at h; injection h with h1 h2; subst h1; subst h2
    exact ⟨fun n x h => (by cases h), rfl, fun cvs hv _ => hv⟩
  | (j, sz) :: r, n, cs, cs', vo, h => by
    simp only [virtL] at h
    split at h
    · rename_i hj
      generalize hq : virtL (n + 1) r (setAt cs j [V.row n 0]) = q at h
      obtain ⟨cs2, o2⟩ := q
      simp only at h
      injection h with h1 h2; subst h1; subst h2
      obtain ⟨i1, i2, i3⟩ := virtL_rel r (n + 1) (setAt cs j [V.row n 0]) cs2 o2 hq
      have hlt : j < cs.length := by
        by_cases q : j < cs.length
        · exact q
        · rw [List.getElem?_eq_none (by omega)] at hj; cases hj
      refine ⟨fun m x hm => ?_, by rw [i2, length_setAt], fun cvs hv hvo => i3 cvs (fun i v x p q => ?_) fun m x hm => hvo m x (.tail _ hm)⟩
      · rcases List.mem_cons.1 hm with e | hm
        · injection e with _ e2; exact ⟨sz, e2⟩
        · exact i1 m x hm
      · rw [getElem?_setAt _ _ _ _ (by simp; omega)] at q
        by_cases e : j ≤ i ∧ i < j + [V.row n 0].length
        · have : i = j := by simp at e; omega
          subst this
          rw [if_pos e] at q
          simp at q; subst q
          have hn := hv i v .nil p hj
          obtain ⟨a1, a2⟩ := hvo n _ (.head _)
          exact ⟨sz, [], 0, [0], false, a2, by simp, ⟨none, 0, 0, hn⟩, fun _ => by rw [a1]; exact hn⟩
        · rw [if_neg e] at q; exact hv i v x p q
    · exact virtL_rel r (n + 1) cs cs' vo h
theorem virtA_rel {hd1 : HF} {ob1 : OF} {vl : List (Nat × Nat)} {n : Nat} {x x' : A} {vo : Obs} (h : virtA n vl x = (x', vo)) : Virt vo ∧
    ∀ v, AR w ok hd1 ob1 v x → (∀ m x, (m, x) ∈ vo → hd1 m = nilHd ∧ ob1 m = some x) → AR w ok hd1 ob1 v x' := by
  cases x with
  | one c =>
    simp only [virtA] at h
    split at h
    · rename_i v' o hq
      injection h with h1 h2; subst h1; subst h2
      obtain ⟨i1, i2, i3⟩ := virtL_rel (w := w) (ok := ok) (hd1 := hd1) (ob1 := ob1) vl n [c] [v'] o hq
      refine ⟨i1, fun v hv hvo => .one _ _ ?_⟩
      exact i3 [v] (fun i u y p q => by cases i with | zero => simp at p q; subst p; subst q; exact hv.one_inv | succ i => simp at p) hvo 0 v v' rfl rfl
    · injection h with h1 h2; subst h1; subst h2; exact ⟨fun n x h => (by cases h), fun v hv _ => hv⟩
  | agg vs =>
    simp only [virtA] at h
    generalize hq : virtL n vl vs = q at h
    obtain ⟨cs2, o2⟩ := q
    simp only at h
    injection h with h1 h2; subst h1; subst h2
    obtain ⟨i1, i2, i3⟩ := virtL_rel (w := w) (ok := ok) (hd1 := hd1) (ob1 := ob1) vl n vs cs2 o2 hq
    refine ⟨i1, fun v hv hvo => ?_⟩
    obtain ⟨cs, rfl, hl, hc⟩ := hv.agg_inv
    exact .agg cs cs2 (by omega) fun i u y p q => i3 cs hc hvo i u y p q
  | tup l =>
    simp only [virtA] at h
    injection h with h1 h2; subst h1; subst h2; exact ⟨fun n x h => (by cases h), fun v hv _ => hv⟩

mutual
theorem A.tree_frz (ns : List Nat) : ∀ x : A, x.tree (frzO ob ns) = x.tree ob
  | .one v => by simp only [A.tree, ← Go.TL.tree_frz]
  | .agg vs => by simp only [A.tree, trees_frz]
  | .tup l => by simp only [A.tree, go_frz ns l]
theorem go_frz (ns : List Nat) : ∀ l : List A, A.tree.go (frzO ob ns) l = A.tree.go ob l
  | [] => rfl
  | x :: l => by simp only [A.tree.go, A.tree_frz ns x, go_frz ns l]
end

theorem AR.repF {v : Value} {x y : A} {ns : List Nat} (R : ORel ok hd ob w) (h : AR w ok hd ob v x) (ht : x.tree ob = some y) (hs : ∀ n, n ∈ x.refs → n ∈ ns) : AR w (frzK ok hd ob ns) (frzH hd ns) (frzO ob ns) v y := by
  refine AR.rep (R.freeze ns) (h.mono (fun _ h => .inl h) (fun _ _ => rfl) (le_frz ns)) (by rw [A.tree_frz]; exact ht) fun n hn x hx => allFr_frzO ob ns n (hs n hn) x hx

theorem pre_rel (R : ORel ok hd ob w) {FR : List Nat} {hd1 : HF} {ob1 : OF} (le : Le (frzH hd FR) (frzO ob FR) hd1 ob1) : ∀ (ms : List (Option (List (Nat × Nat)))) (n : Nat) (as : List A) (p : Pre), preArgs ob n ms as = some p →
    (∀ m, m ∈ p.fr → m ∈ FR) → Virt p.vo ∧ ∀ (vs : List Value), (∀ (i : Nat) v x, vs[i]? = some v → as[i]? = some x → AR w ok hd ob v x) → (∀ m x, (m, x) ∈ p.vo → hd1 m = nilHd ∧ ob1 m = some x) →
      p.args.length = as.length ∧ ∀ (i : Nat) v x, vs[i]? = some v → p.args[i]? = some x → AR w (frzK ok hd ob FR) hd1 ob1 v x := by
  have tree : ∀ (n : Nat) (ms : List (Option (List (Nat × Nat)))) (x : A) (as : List A) (p : Pre), (∃ t q, x.tree ob = some t ∧ preArgs ob n ms as = some q ∧ p = Pre.mk (t :: q.args) q.vo (x.refs ++ q.fr) q.own) → (∀ m, m ∈ p.fr → m ∈ FR) →
      (∀ q, preArgs ob n ms as = some q → (∀ m, m ∈ q.fr → m ∈ FR) → Virt q.vo ∧ ∀ (vs : List Value), (∀ (i : Nat) v x, vs[i]? = some v → as[i]? = some x → AR w ok hd ob v x) → (∀ m x, (m, x) ∈ q.vo → hd1 m = nilHd ∧ ob1 m = some x) →
        q.args.length = as.length ∧ ∀ (i : Nat) v x, vs[i]? = some v → q.args[i]? = some x → AR w (frzK ok hd ob FR) hd1 ob1 v x) →
      Virt p.vo ∧ ∀ (vs : List Value), (∀ (i : Nat) v y, vs[i]? = some v → (x :: as)[i]? = some y → AR w ok hd ob v y) → (∀ m x, (m, x) ∈ p.vo → hd1 m = nilHd ∧ ob1 m = some x) →
        p.args.length = (x :: as).length ∧ ∀ (i : Nat) v x, vs[i]? = some v → p.args[i]? = some x → AR w (frzK ok hd ob FR) hd1 ob1 v x := by
    intro n ms x as p h hfr ih
    obtain ⟨t, q, ht, hq, rfl⟩ := h
    obtain ⟨i1, i2⟩ := ih q hq (fun m hm => hfr m (by simp [hm]))
    refine ⟨i1, fun vs hv hvo => ?_⟩
    cases vs with
    | nil => 
      obtain ⟨j1, j2⟩ := i2 [] (by simp) hvo
      exact ⟨by simp [j1], by simp⟩
    | cons v vs =>
      obtain ⟨j1, j2⟩ := i2 vs (fun i u y p q => hv (i + 1) u y (by simpa using p) (by simpa using q)) hvo
      refine ⟨by simp [j1], fun i u y p q => ?_⟩
      cases i with
      | zero =>
        simp at p q; subst p; subst q
        exact ((hv 0 v x rfl rfl).repF R ht (fun m hm => hfr m (by simp [hm]))).mono (fun _ h => h) (fun _ _ => rfl) le
      | succ i => exact j2 i u y (by simpa using p) (by simpa using q)
  intro ms n as
  induction as generalizing ms n with
  | nil =>
    intro p h hfr
    have : p = ⟨[], [], [], []⟩ := by unfold preArgs at h; injection h with h; exact h.symm
    subst this
    exact ⟨fun n x h => (by cases h), fun vs _ _ => ⟨rfl, by simp⟩⟩
  | cons x as ih =>
    intro p h hfr
    match ms, h with
    | [], h =>
      unfold preArgs at h
      split at h
      · rename_i t q ht hq; injection h with h; exact tree n [] x as p ⟨t, q, ht, hq, h.symm⟩ hfr (ih [] n)
      · cases h
    | none :: ms, h =>
      unfold preArgs at h
      split at h
      · rename_i t q ht hq; injection h with h; exact tree n ms x as p ⟨t, q, ht, hq, h.symm⟩ hfr (ih ms n)
      · cases h
    | some vl :: ms, h =>
      unfold preArgs at h
      generalize hq : virtA n vl x = q at h
      obtain ⟨x', vo⟩ := q
      split at h
      · rename_i x2 vo2 q2 e1 hq3
        injection e1 with e1 e2
        subst e1; subst e2
        injection h with h; subst h
        obtain ⟨i1, i2⟩ := ih ms (n + 2) q2 hq3 hfr
        obtain ⟨k1, k2⟩ := virtA_rel (w := w) (ok := frzK ok hd ob FR) (hd1 := hd1) (ob1 := ob1) hq
        refine ⟨fun m y hm => ?_, fun vs hv hvo => ?_⟩
        · rcases List.mem_append.1 hm with hm | hm
          · exact k1 m y hm
          · exact i1 m y hm
        · cases vs with
          | nil =>
            obtain ⟨j1, j2⟩ := i2 [] (by simp) fun m y hm => hvo m y (List.mem_append_right _ hm)
            exact ⟨by simp [j1], by simp⟩
          | cons v vs =>
            obtain ⟨j1, j2⟩ := i2 vs (fun i u y p q => hv (i + 1) u y (by simpa using p) (by simpa using q)) fun m y hm => hvo m y (List.mem_append_right _ hm)
            refine ⟨by simp [j1], fun i u y p q => ?_⟩
            cases i with
            | zero =>
              simp at p q; subst p; subst q
              exact k2 v ((hv 0 v x rfl rfl).mono (fun _ h => .inl h) (fun _ _ => rfl) ((le_frz FR).trans le)) fun m y hm => hvo m y (List.mem_append_left _ hm)
            | succ i => exact j2 i u y (by simpa using p) (by simpa using q)
      · cases h

end Go.TL

/- TlW -/
namespace Go.TL
open Go

variable {P : Program} {E : Env P} {ok : Nat → Prop} {hd : HF} {tm : Nat → Option A} {ob : OF} {w : World} {a : Act} {K : A → Obs → Prop} {o : Oper} {tab : TF} {tmps : Array Value}

/-- Values that hold no memory hold whatever may be looked at. -/
theorem Rep.flat {ok' : Nat → Prop} {w' : World} {v : Value} {t : T} (h : Rep w ok v t) (hf : flatT t = true) : Rep w' ok' v t := by
  cases h with
  | bool b => exact .bool b
  | int k n h => exact .int k n h
  | str s h => exact .str s h
  | snil => cases hf
  | szero => cases hf
  | sl => cases hf
  | pt => cases hf
  | fn => cases hf
theorem VR.flat {ok' : Nat → Prop} {v : Value} {x : V} (h : VR w ok hd ob v x) (hf : flatV x = true) : VR w ok' hd ob v x := by
  cases x with
  | t c => exact Rep.flat h hf
  | nil => exact h
  | row o g => exact h
  | ptr o off => exact h
  | elt => cases hf
  | fn => cases hf
  | bsl => cases hf
  | part => cases hf
  | sub => cases hf
  | selt => cases hf
  | any => cases hf
theorem flatVs_mem : ∀ {l : List V}, flatVs l = true → ∀ (i : Nat) x, l[i]? = some x → flatV x = true
  | [], _, i, x, h => by simp at h
  | v :: l, hf, i, x, h => by
    simp only [flatVs, Bool.and_eq_true] at hf
    cases i with
    | zero => simp at h; subst h; exact hf.1
    | succ i => exact flatVs_mem hf.2 i x (by simpa using h)
theorem flatGo_mem : ∀ {l : List A}, flatA.go l = true → ∀ (i : Nat) x, l[i]? = some x → flatA x = true
  | [], _, i, x, h => by simp at h
  | v :: l, hf, i, x, h => by
    simp only [flatA.go, Bool.and_eq_true] at hf
    cases i with
    | zero => simp at h; subst h; exact hf.1
    | succ i => exact flatGo_mem hf.2 i x (by simpa using h)
theorem AR.flat {ok' : Nat → Prop} {v : Value} {x : A} (h : AR w ok hd ob v x) : flatA x = true → AR w ok' hd ob v x := by
  induction h with
  | one v c h => intro hf; exact .one _ _ (h.flat hf)
  | agg cs vs hl h => intro hf; exact .agg _ _ hl fun i c x p q => (h i c x p q).flat (flatVs_mem hf i x q)
  | tup xs as hl h ih => intro hf; exact .tup _ _ hl fun i x y p q => ih i x y p q (flatGo_mem hf i y q)
def FlatOb : Ob → Prop
  | .box cs fz => fz = false ∧ flatVs cs = true
  | .row sz es _ _ fz => fz = false ∧ (cls sz false = .s → std.flat es)
theorem ORel.flat {okN : Nat → Prop} (R : ORel ok hd ob w) (hf : ∀ n x, ob n = some x → FlatOb x) (hlt : ∀ b, okN b → b < w.heap.size) (hown : ∀ n b, ob n ≠ none → b ∈ (hd n).own → ¬ okN b) : ORel okN hd ob w where
  okLt := hlt
  own n b hn hb := ⟨hown n b hn hb, (R.own n b hn hb).2⟩
  disj := R.disj
  obs n x hx := by
    have := R.obs n x hx
    have hfx := hf n x hx
    cases x with
    | box cs fz =>
      obtain ⟨rfl, hf2⟩ := hfx
      obtain ⟨b, c, e, fr, h1, h2, h3, h4, h5, h6, h7⟩ := this
      exact ⟨b, c, e, fr, h1, h2, fun q => (by cases q), h4, h5, h6, fun j v x p q => (h7 j v x p q).flat (flatVs_mem hf2 j x q)⟩
    | row sz es cur tags fz =>
      obtain ⟨rfl, hf2⟩ := hfx
      obtain ⟨h0, hz, h⟩ := this
      refine ⟨h0, hz, ?_⟩
      cases hc : cls sz false with
      | d => rw [hc] at h; exact h
      | p => rw [hc] at h; exact h
      | f => exact absurd hc cls_false_f
      | s =>
      have hf2 := hf2 hc
      rw [hc] at h
      rcases h with h | ⟨b, c, e, fr, cap, h1, h2, h3, h4, h5, h6, h7, h7', h8, h9⟩
      · exact .inl h
      · refine .inr ⟨b, c, e, fr, cap, h1, h2, fun q => (by cases q), h4, h5, h6, h7, h7', h8, fun i j x t p q => ?_⟩
        obtain ⟨v, hv, hr⟩ := h9 i j x t p q
        exact ⟨v, hv, hr.flat (hf2 x (List.mem_of_getElem? p) t (List.mem_of_getElem? q))⟩
theorem flatO_inv {cl : Nat → List A → Obs → (A → Obs → Prop) → Prop} {k : SR} : ∀ {l : Obs}, (flatO std l k).holds std cl K → (∀ n x, (n, x) ∈ l → FlatOb x) ∧ k.holds std cl K
  | [], h => ⟨fun n x h => (by cases h), h⟩
  | (n, .box cs true) :: r, h => h.elim
  | (n, .box cs false) :: r, h => by
    obtain ⟨h1, h2⟩ := bif_inv h
    obtain ⟨i1, i2⟩ := flatO_inv h2
    refine ⟨fun m x hm => ?_, i2⟩
    rcases List.mem_cons.1 hm with e | hm
    · injection e with _ e; subst e; exact ⟨rfl, h1⟩
    · exact i1 m x hm
  | (n, .row sz es cur tags true) :: r, h => h.elim
  | (n, .row sz es cur tags false) :: r, h => by
    have key : (cls sz false = .s → std.flat es) ∧ (flatO std r k).holds std cl K := by
      unfold flatO at h
      split at h
      · exact ⟨fun _ => h.1, h.2⟩
      · rename_i hn
        exact ⟨fun e => absurd e hn, h⟩
    obtain ⟨h1, h2⟩ := key
    obtain ⟨i1, i2⟩ := flatO_inv h2
    refine ⟨fun m x hm => ?_, i2⟩
    rcases List.mem_cons.1 hm with e | hm
    · injection e with _ e; subst e; exact ⟨rfl, h1⟩
    · exact i1 m x hm

/-! Renaming looks at what it names alone. -/
theorem V.ren_congr {ρ : List (Nat × Nat)} {g : Nat → Nat → Nat} {lk lk' : OF} (h : ∀ o o', look ρ o = some o' → lk o = lk' o) (v : V) : v.ren ρ g lk = v.ren ρ g lk' := by
  cases v with
  | row o g =>
    cases ho : look ρ o with
    | none => simp [V.ren, ho]
    | some o' => simp [V.ren, ho, h o o' ho]
  | elt o g i j =>
    cases ho : look ρ o with
    | none => simp [V.ren, ho]
    | some o' => simp [V.ren, ho, h o o' ho]
  | part o g i j =>
    cases ho : look ρ o with
    | none => simp [V.ren, ho]
    | some o' => simp [V.ren, ho, h o o' ho]
  | sub o g i j =>
    cases ho : look ρ o with
    | none => simp [V.ren, ho]
    | some o' => simp [V.ren, ho, h o o' ho]
  | selt o g i j k =>
    cases ho : look ρ o with
    | none => simp [V.ren, ho]
    | some o' => simp [V.ren, ho, h o o' ho]
  | _ => rfl
theorem vsRen_congr {ρ : List (Nat × Nat)} {g : Nat → Nat → Nat} {lk lk' : OF} (h : ∀ o o', look ρ o = some o' → lk o = lk' o) : ∀ (l : List V), vsRen ρ g lk l = vsRen ρ g lk' l
  | [] => rfl
  | v :: l => by simp only [vsRen, V.ren_congr h v, vsRen_congr h l]
mutual
theorem A.ren_congr {ρ : List (Nat × Nat)} {g : Nat → Nat → Nat} {lk lk' : OF} (h : ∀ o o', look ρ o = some o' → lk o = lk' o) : ∀ (x : A), x.ren ρ g lk = x.ren ρ g lk'
  | .one v => by simp only [A.ren, V.ren_congr h v]
  | .agg vs => by simp only [A.ren, vsRen_congr h vs]
  | .tup l => by simp only [A.ren, goRen_congr h l]
theorem goRen_congr {ρ : List (Nat × Nat)} {g : Nat → Nat → Nat} {lk lk' : OF} (h : ∀ o o', look ρ o = some o' → lk o = lk' o) : ∀ (l : List A), A.ren.go ρ g lk l = A.ren.go ρ g lk' l
  | [] => rfl
  | x :: l => by simp only [A.ren.go, A.ren_congr h x, goRen_congr h l]
end
theorem Ob.ren_congr {ρ : List (Nat × Nat)} {g : Nat → Nat → Nat} {lk lk' : OF} (h : ∀ o o', look ρ o = some o' → lk o = lk' o) (n : Nat) (x : Ob) : x.ren ρ g lk n = x.ren ρ g lk' n := by
  cases x with
  | box cs fz => simp only [Ob.ren, vsRen_congr h cs]
  | row => rfl
theorem renO_congr {ρ : List (Nat × Nat)} {g : Nat → Nat → Nat} {lk lk' : OF} (h : ∀ o o', look ρ o = some o' → lk o = lk' o) : ∀ (l : List (Nat × Nat)), (∀ o o', (o, o') ∈ l → lk o = lk' o) → renO ρ g lk l = renO ρ g lk' l
  | [], _ => rfl
  | (o, o') :: r, hl => by
    simp only [renO, hl o o' (.head _), renO_congr h r fun o o' hm => hl o o' (.tail _ hm)]
    cases lk' o with
    | none => rfl
    | some b => simp only [Ob.ren_congr h o b]

theorem numFrom_mem : ∀ {l : List Nat} {k n m : Nat}, (n, m) ∈ numFrom k l → n ∈ l ∧ k ≤ m ∧ l[m - k]? = some n
  | [], k, n, m, h => by cases h
  | x :: r, k, n, m, h => by
    rcases List.mem_cons.1 h with e | h
    · injection e with e1 e2; subst e1; subst e2; simp
    · obtain ⟨h1, h2, h3⟩ := numFrom_mem h
      refine ⟨.tail _ h1, by omega, ?_⟩
      rw [show m - k = (m - (k + 1)) + 1 by omega]
      simpa using h3
theorem mem_numFrom : ∀ {l : List Nat} {k n i : Nat}, l[i]? = some n → (n, k + i) ∈ numFrom k l
  | [], k, n, i, h => by simp at h
  | x :: r, k, n, i, h => by
    cases i with
    | zero => simp at h; subst h; simp [numFrom]
    | succ i =>
      have := mem_numFrom (k := k + 1) (show r[i]? = some n by simpa using h)
      rw [show k + 1 + i = k + (i + 1) by omega] at this
      exact .tail _ this
theorem numTo_swap : ∀ (l : List Nat) (k : Nat), numTo k l = (numFrom k l).map fun p => (p.2, p.1)
  | [], _ => rfl
  | n :: r, k => by simp [numTo, numFrom, numTo_swap r]
theorem fst_numFrom : ∀ (l : List Nat) (k : Nat), (numFrom k l).map (·.1) = l
  | [], _ => rfl
  | n :: r, k => by simp [numFrom, fst_numFrom r]
theorem snd_numFrom_ge : ∀ (l : List Nat) (k m : Nat), m ∈ (numFrom k l).map (·.2) → k ≤ m
  | [], _, m, h => by cases h
  | n :: r, k, m, h => by
    simp only [numFrom, List.map_cons, List.mem_cons] at h
    rcases h with h | h
    · omega
    · have := snd_numFrom_ge r (k + 1) m h; omega
theorem snd_numFrom_nodup : ∀ (l : List Nat) (k : Nat), ((numFrom k l).map (·.2)).Nodup
  | [], _ => by simp [numFrom]
  | n :: r, k => by
    simp only [numFrom, List.map_cons, List.nodup_cons]
    refine ⟨fun h => ?_, snd_numFrom_nodup r (k + 1)⟩
    have := snd_numFrom_ge r (k + 1) k h; omega
theorem ren_numFrom {l : List Nat} (h : l.Nodup) (k : Nat) : Ren (numFrom k l) := ⟨by rw [fst_numFrom]; exact h, snd_numFrom_nodup l k⟩

theorem updO_virt_frz {vo : Obs} {fr : List Nat} (hf : ∀ n, n ∈ vo.map (·.1) → ob n = none) (hn : (vo.map (·.1)).Nodup) : updO ob (vo ++ frz ob fr) = updO (frzO ob fr) vo := by
  rw [updO_append]
  funext n
  simp only [updO, look_frz, look_rev hn, frzO]
  by_cases h : n ∈ fr
  · simp only [h, if_true]
    cases hb : ob n with
    | none => rfl
    | some x =>
      have : look vo n = none := by
        cases hl : look vo n with
        | none => rfl
        | some y => have := hf n (List.mem_map.2 ⟨(n, y), look_mem hl, rfl⟩); rw [hb] at this; cases this
      simp [this]
  · simp [h]

/-- Values and what they are, one by one. -/
structure AL (w : World) (ok : Nat → Prop) (hd : HF) (ob : OF) (vs : List Value) (as : List A) : Prop where
  len : vs.length = as.length
  rel : ∀ (i : Nat) v x, vs[i]? = some v → as[i]? = some x → AR w ok hd ob v x
theorem AL.append {vs vs' : List Value} {as as' : List A} (h : AL w ok hd ob vs as) (h' : AL w ok hd ob vs' as') : AL w ok hd ob (vs ++ vs') (as ++ as') where
  len := by simp [h.len, h'.len]
  rel i v x p q := by
    by_cases e : i < vs.length
    · rw [List.getElem?_append_left e] at p
      rw [List.getElem?_append_left (by rw [← h.len]; exact e)] at q
      exact h.rel i v x p q
    · rw [List.getElem?_append_right (by omega)] at p
      rw [List.getElem?_append_right (by rw [← h.len]; omega), ← h.len] at q
      exact h'.rel _ v x p q

theorem disjB_mem : ∀ {l m : List Nat}, disjB l m = true → ∀ n, n ∈ l → n ∉ m
  | [], _, _, n, h => by cases h
  | a :: l, m, h, n, hm => by
    simp only [disjB, Bool.and_eq_true, Bool.not_eq_true'] at h
    rcases List.mem_cons.1 hm with e | hm
    · subst e; exact memB_false.1 h.1
    · exact disjB_mem h.2 n hm
theorem newTag_mem {lk : OF} {g : Nat} : ∀ {l : List Nat}, newTag lk g l = true → ∀ n, n ∈ l → ∀ sz es cur tags fz, lk n = some (.row sz es cur tags fz) → g ∉ tags
  | [], _, n, h => by cases h
  | a :: l, h, n, hm => by
    intro sz es cur tags fz hx
    simp only [newTag, Bool.and_eq_true] at h
    rcases List.mem_cons.1 hm with e | hm
    · subst e
      have := h.1
      rw [hx] at this
      simp only [Bool.not_eq_true'] at this
      exact memB_false.1 this
    · exact newTag_mem h.2 n hm sz es cur tags fz hx

theorem gB_ne {lk : OF} {ns : List Nat} {T k c : Nat} (h : c ≠ 7) : gB lk ns T k c = T := by
  unfold gB
  cases e : eqB c 7 with
  | true => exact absurd (eq_of_eqB e) h
  | false => rfl
theorem gB_7 {lk : OF} {ns : List Nat} {T k n : Nat} {sz es cur tags fz} (hk : ns[k]? = some n) (hn : lk n = some (.row sz es cur tags fz)) : gB lk ns T k 7 = cur := by
  unfold gB
  rw [hk]
  simp only [hn]
  rfl
/-- What was passed came back under its names. -/
theorem backOk {ns l : List Nat} {T k0 g0 : Nat} {obB obC ob' : OF} {hdB hdC hd' : HF} (hT7 : T ≠ 7) (hR : okRen (numTo 0 ns ++ numFrom k0 l) = true) (hnd : ns.Nodup) (hfr : freshB obB (snds (numFrom k0 l)) = true) (hT : newTag obB T ns = true)
    (hs : ∀ n, n ∈ ns → obC n = obB n ∧ hdC n = hdB n) (kp : Keep (hdR (numFrom 0 ns) hdC) (obR (numFrom 0 ns) (gAll g0) obC) hd' ob') : BackOk (numTo 0 ns ++ numFrom k0 l) ns (gB obB ns T) obB ob' hdB hd' := by
  have hρ := ren_numFrom hnd 0
  have split : ∀ k n, (k, n) ∈ numTo 0 ns ++ numFrom k0 l → ((n, k) ∈ numFrom 0 ns ∧ n ∈ ns) ∨ obB n = none := by
    intro k n hm
    rcases List.mem_append.1 hm with h | h
    · rw [numTo_swap] at h
      obtain ⟨⟨x, y⟩, h1, h2⟩ := List.mem_map.1 h
      injection h2 with h2 h3
      simp only at h2 h3
      subst h2; subst h3
      exact .inl ⟨h1, (numFrom_mem h1).1⟩
    · refine .inr (freshB_mem hfr n ?_)
      rw [snds_map]
      exact List.mem_map.2 ⟨(k, n), h, rfl⟩
  refine ⟨okRen_iff hR, fun k n hm => ?_, fun n hn hne => ?_, fun k n hm cs fz hb => ?_, fun k n hm sz es cur tags fz hb => ?_⟩
  · rcases split k n hm with h | h
    · exact .inl h.2
    · exact .inr h
  · obtain ⟨i, hi⟩ := List.getElem?_of_mem hn
    have hm := mem_numFrom (k := 0) hi
    rw [Nat.zero_add] at hm
    refine ⟨i, List.mem_append_left _ (by rw [numTo_swap]; exact List.mem_map.2 ⟨(n, i), hm, rfl⟩), ?_⟩
    have hc := obR_of (ob := obC) (g := gAll g0) hρ hm
    rw [(hs n hn).1] at hc
    cases hx : obB n with
    | none => exact absurd hx hne
    | some x =>
      rw [hx] at hc
      cases x with
      | box cs fz => obtain ⟨cs', fz', h1, _⟩ := kp.box i _ fz hc; rw [h1]; simp
      | row sz es cur tags fz => obtain ⟨es', cur', tags', fz', h1, _⟩ := kp.row i sz es _ _ fz hc; rw [h1]; simp
  · rcases split k n hm with ⟨h1, h2⟩ | h
    · have hc := obR_of (ob := obC) (g := gAll g0) hρ h1
      rw [(hs n h2).1, hb] at hc
      obtain ⟨cs', fz', h3, h4⟩ := kp.box k _ fz hc
      exact ⟨cs', fz', h3, by rw [h4, hdR_of hρ h1, (hs n h2).2]⟩
    · rw [hb] at h; cases h
  · rcases split k n hm with ⟨h1, h2⟩ | h
    · have hc := obR_of (ob := obC) (g := gAll g0) hρ h1
      rw [(hs n h2).1, hb] at hc
      obtain ⟨es', cur', tags', fz', h3, h4⟩ := kp.row k sz es _ _ fz hc
      refine ⟨es', cur', tags', fz', h3, ?_⟩
      by_cases e : cur' = 7
      · refine .inl ⟨?_, by rw [(h4 e).2.1, hdR_of hρ h1, (hs n h2).2], by rw [(h4 e).2.2, hdR_of hρ h1, (hs n h2).2]⟩
        rw [e]
        exact gB_7 (by have := (numFrom_mem h1).2.2; simpa using this) hb
      · rw [gB_ne e]
        exact .inr ⟨newTag_mem hT n h2 sz es cur tags fz hb, hT7⟩
    · rw [hb] at h; cases h

end Go.TL
