/- Texts of a proof, joined by a program (merge.py): TlAA TlAB TlAC TlAD TlAE TlAF TlAG TlAH TlAI TlAJ TlAK. -/
import Derived.Test.YtpnhfpjpmjdgmaaGreatDoorT03
set_option linter.all false
/- TlAA -/
namespace Go.TL
open Go

variable {S : Nat → Prop} {lk lk' : OF} {tab : TF} {md : MF} {ρ ρ' : Operand → Option A}

/-- All that is named lies within. -/
def AS (S : Nat → Prop) (a : A) : Prop := ∀ m, m ∈ a.refs → S m
def OS (S : Nat → Prop) (a : Option A) : Prop := ∀ x, a = some x → AS S x
structure Ag (S : Nat → Prop) (lk lk' : OF) : Prop where
  eq : ∀ n, S n → lk n = lk' n
  cl : ∀ n cs fz, S n → lk n = some (.box cs fz) → ∀ m, m ∈ vrefs cs → S m

theorem Cap.tree_ag (h : Ag S lk lk') {c : Cap} (hs : ∀ m, m ∈ crefs [c] → S m) : c.tree lk = c.tree lk' := by
  cases c with
  | t c => rfl
  | ptr o off => simp only [Cap.tree, h.eq o (hs o (by simp [crefs]))]
theorem capsTree_ag (h : Ag S lk lk') : ∀ {l : List Cap}, (∀ m, m ∈ crefs l → S m) → capsTree lk l = capsTree lk' l
  | [], _ => rfl
  | .t c :: r, hs => by
    have := capsTree_ag h (l := r) hs
    simp only [capsTree, this, Cap.tree]
  | .ptr o off :: r, hs => by
    have h1 := capsTree_ag h (l := r) fun m hm => hs m (by simp [crefs, hm])
    have h2 : Cap.tree lk (.ptr o off) = Cap.tree lk' (.ptr o off) := Cap.tree_ag h fun m hm => hs m (by simp only [crefs, List.mem_cons] at hm ⊢; exact hm.elim .inl (fun h => by cases h))
    simp only [capsTree, h1, h2]
theorem V.tree_ag (h : Ag S lk lk') {v : V} (hs : ∀ m, m ∈ v.refs → S m) : v.tree lk = v.tree lk' := by
  cases v with
  | row o g => simp only [V.tree, h.eq o (hs o (by simp [V.refs]))]
  | ptr o off => exact Cap.tree_ag h (c := .ptr o off) fun m hm => hs m hm
  | fn f first caps =>
    have := capsTree_ag h (l := caps) hs
    simp only [V.tree, this]
  | _ => rfl
theorem trees_ag (h : Ag S lk lk') : ∀ {l : List V}, (∀ m, m ∈ vrefs l → S m) → trees lk l = trees lk' l
  | [], _ => rfl
  | v :: l, hs => by
    have h1 := V.tree_ag h (v := v) fun m hm => hs m (by simp [vrefs, hm])
    have h2 := trees_ag h (l := l) fun m hm => hs m (by simp [vrefs, hm])
    simp only [trees, h1, h2]
mutual
theorem A.tree_ag (h : Ag S lk lk') : ∀ {a : A}, AS S a → a.tree lk = a.tree lk'
  | .one v, hs => by simp only [A.tree, V.tree_ag h (v := v) hs]
  | .agg vs, hs => by simp only [A.tree, trees_ag h (l := vs) hs]
  | .tup l, hs => by simp only [A.tree, goTree_ag h (l := l) hs]
theorem goTree_ag (h : Ag S lk lk') : ∀ {l : List A}, (∀ m, m ∈ A.refs.go l → S m) → A.tree.go lk l = A.tree.go lk' l
  | [], _ => rfl
  | x :: l, hs => by
    have h1 := A.tree_ag h (a := x) fun m hm => hs m (by simp [A.refs.go, hm])
    have h2 := goTree_ag h (l := l) fun m hm => hs m (by simp [A.refs.go, hm])
    simp only [A.tree.go, h1, h2]
end
theorem frz_ag (h : Ag S lk lk') : ∀ {l : List Nat}, (∀ m, m ∈ l → S m) → frz lk l = frz lk' l
  | [], _ => rfl
  | n :: r, hs => by simp only [frz, h.eq n (hs n (by simp)), frz_ag h (l := r) fun m hm => hs m (by simp [hm])]
theorem freshB_ag (h : Ag S lk lk') : ∀ {l : List Nat}, (∀ m, m ∈ l → S m) → freshB lk l = freshB lk' l
  | [], _ => rfl
  | n :: r, hs => by simp only [freshB, h.eq n (hs n (by simp)), freshB_ag h (l := r) fun m hm => hs m (by simp [hm])]
theorem newTag_ag (h : Ag S lk lk') {g : Nat} : ∀ {l : List Nat}, (∀ m, m ∈ l → S m) → newTag lk g l = newTag lk' g l
  | [], _ => rfl
  | n :: r, hs => by simp only [newTag, h.eq n (hs n (by simp)), newTag_ag h (l := r) fun m hm => hs m (by simp [hm])]
theorem oldTags_ag (h : Ag S lk lk') : ∀ {l : Obs}, (∀ m, m ∈ l.map (·.1) → S m) → oldTags lk l = oldTags lk' l
  | [], _ => rfl
  | (n, .box cs fz) :: r, hs => by simp only [oldTags, oldTags_ag h (l := r) fun m hm => hs m (by simp only [List.map_cons, List.mem_cons]; exact .inr hm)]
  | (n, .row sz es cur tags fz) :: r, hs => by
    simp only [oldTags, oldTags_ag h (l := r) fun m hm => hs m (by simp only [List.map_cons, List.mem_cons]; exact .inr hm), h.eq n (hs n (by simp))]
theorem mem_nub {n : Nat} : ∀ {l acc : List Nat}, n ∈ nub l acc → n ∈ l ∨ n ∈ acc
  | [], acc, h => .inr h
  | m :: r, acc, h => by
    simp only [nub] at h
    cases hb : memB m acc with
    | true =>
      rw [hb] at h
      rcases mem_nub h with h | h
      · exact .inl (.tail _ h)
      · exact .inr h
    | false =>
      rw [hb] at h
      rcases mem_nub h with h | h
      · exact .inl (.tail _ h)
      · rcases List.mem_append.1 h with h | h
        · exact .inr h
        · simp at h; subst h; exact .inl (.head _)
theorem oref_ag (h : Ag S lk lk') : ∀ {l : List Nat}, (∀ m, m ∈ l → S m) → oref lk l = oref lk' l ∧ ∀ m, m ∈ oref lk l → S m
  | [], _ => ⟨rfl, fun m hm => by cases hm⟩
  | n :: r, hs => by
    obtain ⟨h1, h2⟩ := oref_ag h (l := r) fun m hm => hs m (by simp [hm])
    have hn := hs n (by simp)
    simp only [oref, ← h.eq n hn, ← h1]
    refine ⟨trivial, fun m hm => ?_⟩
    split at hm
    · rename_i cs fz hb
      rcases List.mem_append.1 hm with hm | hm
      · exact h.cl n cs fz hn hb m hm
      · exact h2 m hm
    · exact h2 m hm
theorem reach_ag (h : Ag S lk lk') : ∀ (k : Nat) {l : List Nat}, (∀ m, m ∈ l → S m) → reach lk k l = reach lk' k l ∧ ∀ m, m ∈ reach lk k l → S m
  | 0, l, hs => ⟨rfl, hs⟩
  | k + 1, l, hs => by
    obtain ⟨h1, h2⟩ := oref_ag h hs
    simp only [reach, ← h1]
    exact reach_ag h k fun m hm => (mem_nub hm).elim (h2 m) (hs m)

theorem mem_vrefs {m : Nat} : ∀ {l : List V}, m ∈ vrefs l → ∃ v, v ∈ l ∧ m ∈ v.refs
  | [], h => by cases h
  | v :: l, h => by
    rcases List.mem_append.1 h with h | h
    · exact ⟨v, .head _, h⟩
    · obtain ⟨u, h1, h2⟩ := mem_vrefs h; exact ⟨u, .tail _ h1, h2⟩
theorem vrefs_mem {m : Nat} {v : V} : ∀ {l : List V}, v ∈ l → m ∈ v.refs → m ∈ vrefs l
  | [], h, _ => by cases h
  | u :: l, h, hm => by
    rcases List.mem_cons.1 h with e | h
    · subst e; exact List.mem_append_left _ hm
    · exact List.mem_append_right _ (vrefs_mem h hm)
theorem mem_setAt {α : Type} {x : α} : ∀ {l : List α} {n : Nat} {r : List α}, x ∈ setAt l n r → x ∈ l ∨ x ∈ r
  | l, n, [], h => by cases l <;> exact .inl h
  | [], n, y :: r, h => by cases n <;> cases h
  | a :: l, 0, y :: r, h => by
    simp only [setAt] at h
    rcases List.mem_cons.1 h with e | h
    · exact .inr (e ▸ .head _)
    · rcases mem_setAt h with h | h
      · exact .inl (.tail _ h)
      · exact .inr (.tail _ h)
  | a :: l, n + 1, y :: r, h => by
    simp only [setAt] at h
    rcases List.mem_cons.1 h with e | h
    · exact .inl (e ▸ .head _)
    · rcases mem_setAt h with h | h
      · exact .inl (.tail _ h)
      · exact .inr h
theorem virtL_refs : ∀ (vl : List (Nat × Nat)) (n : Nat) (cs cs' : List V) (vo : Obs), virtL n vl cs = (cs', vo) → ∀ m, m ∈ vrefs cs' → m ∈ vrefs cs ∨ m ∈ keys vo
  | [], n, cs, cs', vo, h, m, hm => by
    simp only [virtL] at h; injection h with h1 h2; subst h1; exact .inl hm
  | (j, sz) :: r, n, cs, cs', vo, h, m, hm => by
    simp only [virtL] at h
    split at h
    · generalize hq : virtL (n + 1) r (setAt cs j [V.row n 0]) = q at h
      obtain ⟨cs2, o2⟩ := q
      simp only at h
      injection h with h1 h2; subst h1; subst h2
      rcases virtL_refs r (n + 1) _ cs2 o2 hq m hm with h | h
      · obtain ⟨v, hv, hv2⟩ := mem_vrefs h
        rcases mem_setAt hv with h | h
        · exact .inl (vrefs_mem h hv2)
        · simp at h; subst h; simp [V.refs] at hv2; subst hv2; exact .inr (.head _)
      · exact .inr (.tail _ h)
    · exact virtL_refs r (n + 1) cs cs' vo h m hm
theorem virtA_refs {vl : List (Nat × Nat)} {n : Nat} {x x' : A} {vo : Obs} (h : virtA n vl x = (x', vo)) : ∀ m, m ∈ x'.refs → m ∈ x.refs ∨ m ∈ keys vo := by
  intro m hm
  cases x with
  | one c =>
    simp only [virtA] at h
    split at h
    · rename_i v' o hq
      injection h with h1 h2; subst h1; subst h2
      rcases virtL_refs vl n [c] [v'] o hq m (by simpa [vrefs, A.refs] using hm) with h | h
      · exact .inl (by simpa [vrefs, A.refs] using h)
      · exact .inr h
    · injection h with h1 h2; subst h1; exact .inl hm
  | agg vs =>
    simp only [virtA] at h
    generalize hq : virtL n vl vs = q at h
    obtain ⟨cs2, o2⟩ := q
    simp only at h
    injection h with h1 h2; subst h1; subst h2
    exact virtL_refs vl n vs cs2 o2 hq m hm
  | tup l =>
    simp only [virtA] at h
    injection h with h1 h2; subst h1; exact .inl hm
theorem keys_append : ∀ (a b : Obs), keys (a ++ b) = keys a ++ keys b
  | [], _ => rfl
  | (n, x) :: r, b => by simp [keys, keys_append r b]

theorem preArgs_ag (h : Ag S lk lk') : ∀ {as : List A} (ms : List (Option (List (Nat × Nat)))) (n : Nat), (∀ a, a ∈ as → AS S a) → preArgs lk n ms as = preArgs lk' n ms as ∧
    ∀ p, preArgs lk n ms as = some p → (∀ m, m ∈ p.fr → S m) ∧ (∀ m, m ∈ p.own → S m ∨ m ∈ keys p.vo) ∧ Virt p.vo
  | [], ms, n, _ => by
    refine ⟨by unfold preArgs; rfl, fun p hp => ?_⟩
    have : p = ⟨[], [], [], []⟩ := by unfold preArgs at hp; injection hp with hp; exact hp.symm
    subst this
    exact ⟨fun m hm => (by cases hm), fun m hm => (by cases hm), fun n x hm => (by cases hm)⟩
  | a :: as, ms, n, hs => by
    have ha := A.tree_ag h (hs a (.head _))
    have tree : ∀ ms, preArgs lk n ms as = preArgs lk' n ms as ∧ (∀ p, preArgs lk n ms as = some p → (∀ m, m ∈ p.fr → S m) ∧ (∀ m, m ∈ p.own → S m ∨ m ∈ keys p.vo) ∧ Virt p.vo) := fun ms => preArgs_ag h ms n fun x hx => hs x (.tail _ hx)
    match ms with
    | [] =>
      obtain ⟨i1, i2⟩ := tree []
      refine ⟨by unfold preArgs; rw [ha, i1], fun p hp => ?_⟩
      unfold preArgs at hp
      split at hp
      · rename_i t q ht hq
        injection hp with hp; subst hp
        obtain ⟨j1, j2, j3⟩ := i2 q hq
        exact ⟨fun m hm => (List.mem_append.1 hm).elim (hs a (.head _) m) (j1 m), j2, j3⟩
      · cases hp
    | none :: ms =>
      obtain ⟨i1, i2⟩ := tree ms
      refine ⟨by unfold preArgs; rw [ha, i1], fun p hp => ?_⟩
      unfold preArgs at hp
      split at hp
      · rename_i t q ht hq
        injection hp with hp; subst hp
        obtain ⟨j1, j2, j3⟩ := i2 q hq
        exact ⟨fun m hm => (List.mem_append.1 hm).elim (hs a (.head _) m) (j1 m), j2, j3⟩
      · cases hp
    | some vl :: ms =>
      obtain ⟨i1, i2⟩ := preArgs_ag h ms (n + 2) fun x hx => hs x (.tail _ hx)
      refine ⟨by unfold preArgs; rw [i1], fun p hp => ?_⟩
      unfold preArgs at hp
      generalize hq : virtA n vl a = q at hp
      obtain ⟨x', vo⟩ := q
      split at hp
      · rename_i x2 vo2 q2 e1 hq3
        injection e1 with e1 e2
        subst e1; subst e2
        injection hp with hp; subst hp
        obtain ⟨j1, j2, j3⟩ := i2 q2 hq3
        refine ⟨j1, fun m hm => ?_, fun m x hm => ?_⟩
        · simp only [keys_append, List.mem_append] at hm ⊢
          rcases hm with hm | hm
          · rcases virtA_refs hq m hm with h | h
            · exact .inl (hs a (.head _) m h)
            · exact .inr (.inl h)
          · rcases j2 m hm with h | h
            · exact .inl h
            · exact .inr (.inr h)
        · rcases List.mem_append.1 hm with hm | hm
          · exact (virtA_rel (w := default) (ok := fun _ => True) (hd1 := fun _ => nilHd) (ob1 := fun _ => none) hq).1 m x hm
          · exact j3 m x hm
      · cases hp
theorem slotB_mem {d : Nat} : ∀ {l : List Nat}, slotB d l = true → ∀ n, n ∈ l → n / 32 = d + 1
  | [], _, n, h => by cases h
  | m :: r, hb, n, h => by
    simp only [slotB, Bool.and_eq_true] at hb
    rcases List.mem_cons.1 h with e | h
    · subst e; exact eq_of_eqB hb.1
    · exact slotB_mem hb.2 n h
theorem updO_ag (h : Ag S lk lk') {wr : Obs} (hw : ∀ n cs fz, (n, Ob.box cs fz) ∈ wr → ∀ m, m ∈ vrefs cs → S m) : Ag S (updO lk wr) (updO lk' wr) where
  eq n hn := by simp only [updO, h.eq n hn]
  cl n cs fz hn hx m hm := by
    simp only [updO] at hx
    split at hx
    · rename_i o ho
      injection hx with hx; subst hx
      exact hw n cs fz (List.mem_reverse.1 (look_mem ho)) m hm
    · exact h.cl n cs fz hn hx m hm
theorem frz_mem {n : Nat} {x : Ob} : ∀ {l : List Nat}, (n, x) ∈ frz lk l → n ∈ l ∧ ∃ y, lk n = some y ∧ x = frOb y
  | [], h => by cases h
  | m :: r, h => by
    simp only [frz] at h
    split at h
    · rename_i o ho
      rcases List.mem_cons.1 h with e | h
      · injection e with e1 e2; subst e1; exact ⟨.head _, o, ho, e2⟩
      · obtain ⟨h1, h2⟩ := frz_mem h; exact ⟨.tail _ h1, h2⟩
    · obtain ⟨h1, h2⟩ := frz_mem h; exact ⟨.tail _ h1, h2⟩
theorem renO_names {ρ0 : List (Nat × Nat)} {g : Nat → Nat → Nat} {n : Nat} {ob : OF} : ∀ {l : List (Nat × Nat)}, n ∈ (renO ρ0 g ob l).map (·.1) → n ∈ l.map (·.2)
  | [], h => by cases h
  | (o, o') :: r, h => by
    simp only [renO] at h
    split at h
    · simp only [List.map_cons, List.mem_cons] at h ⊢
      rcases h with h | h
      · exact .inl h
      · exact .inr (renO_names h)
    · simp only [List.map_cons, List.mem_cons]; exact .inr (renO_names h)

theorem sCall_ag (h : Ag S lk lk') {d f : Nat} (hd : ∀ n, n / 32 = d + 1 → S n) {as : List A} (hs : ∀ a, a ∈ as → AS S a) : sCall std md lk d f as = sCall std md lk' d f as := by
  obtain ⟨i1, i2⟩ := preArgs_ag h (md f).own (nm d 16) hs
  unfold sCall
  rw [← i1]
  cases hp : preArgs lk (nm d 16) (md f).own as with
  | none => rfl
  | some p =>
    obtain ⟨j1, j2, j3⟩ := i2 p hp
    simp only
    cases hb : slotB d (keys p.vo) with
    | false => simp
    | true =>
      have hsl := slotB_mem hb
      rw [freshB_ag h (l := keys p.vo) fun m hm => hd m (hsl m hm)]
      congr 1
      unfold sCall.callW
      have hwr : (p.vo ++ bif (md f).bor then [] else frz lk p.fr) = p.vo ++ bif (md f).bor then [] else frz lk' p.fr := by rw [frz_ag h j1]
      rw [← hwr]
      generalize hw : (p.vo ++ bif (md f).bor then [] else frz lk p.fr) = wr
      have h2 : Ag S (updO lk wr) (updO lk' wr) := by
        refine updO_ag h fun n cs fz hm m hm2 => ?_
        rw [← hw] at hm
        rcases List.mem_append.1 hm with hm | hm
        · obtain ⟨sz, e⟩ := j3 n _ hm; cases e
        · cases hbo : (md f).bor with
          | true => rw [hbo] at hm; cases hm
          | false =>
            rw [hbo] at hm
            obtain ⟨q1, y, q2, q3⟩ := frz_mem hm
            cases y with
            | row => cases q3
            | box cs' fz' => injection q3 with q3 _; subst q3; exact h.cl n _ _ (j1 n q1) q2 m hm2
      obtain ⟨k1, k2⟩ := reach_ag h2 2 (l := nub p.own []) fun m hm => (mem_nub hm).elim (fun hm => (j2 m hm).elim id fun hm => hd m (hsl m hm)) fun hm => by cases hm
      rw [← k1]
      generalize reach (updO lk wr) 2 (nub p.own []) = ns at k2
      unfold sCall.callN
      have hr : ∀ o o', look (numFrom 0 ns) o = some o' → updO lk wr o = updO lk' wr o := fun o o' ho => h2.eq o (k2 o (numFrom_mem (look_mem ho)).1)
      rw [newTag_ag h2 k2, goRen_congr hr, renO_congr hr _ fun o o' hm => h2.eq o (k2 o (numFrom_mem hm).1)]
      congr 2
      funext r ob
      unfold sCall.back sCall.backR
      have hg : gB (updO lk wr) ns (nm d 31) = gB (updO lk' wr) ns (nm d 31) := by
        funext k c
        unfold gB
        cases hk : ns[k]? with
        | none => rfl
        | some n => simp only [h2.eq n (k2 n (List.mem_of_getElem? hk))]
      rw [← hg]
      cases hb2 : slotB d (snds (numFrom (nm d 0) (above ns.length (keys ob)))) with
      | false => simp
      | true =>
        have hsl2 := slotB_mem hb2
        rw [freshB_ag h2 (l := snds (numFrom (nm d 0) (above ns.length (keys ob)))) fun m hm => hd m (hsl2 m hm)]
        rw [oldTags_ag h2 (l := renO (numTo 0 ns ++ numFrom (nm d 0) (above ns.length (keys ob))) (gB (updO lk wr) ns (nm d 31)) (look ob) (numTo 0 ns ++ numFrom (nm d 0) (above ns.length (keys ob)))) fun m hm => by
          have := renO_names hm
          rw [List.map_append, List.mem_append] at this
          rcases this with q | q
          · rw [numTo_swap, List.map_map] at q
            have q2 : m ∈ (numFrom 0 ns).map (·.1) := q
            rw [fst_numFrom] at q2
            exact k2 m q2
          · rw [← snds_map] at q
            exact hd m (hsl2 m q)]

end Go.TL

/- TlAB -/
namespace Go.TL
open Go

variable {S : Nat → Prop} {lk lk' : OF} {tab : TF} {md : MF} {ρ ρ' : Operand → Option A} {ar : Ar}

theorem new_ag (h : Ag S lk lk') {n : Nat} (hn : S n) {x : Ob} {a : A} : SR.new lk n x a = SR.new lk' n x a := by unfold SR.new; rw [h.eq n hn]
theorem OS.refs {v : V} (h : OS S (some (.one v))) : ∀ m, m ∈ v.refs → S m := fun m hm => h _ rfl m hm
theorem sLoad_ag (h : Ag S lk lk') {t : Nat} {a : Option A} (ha : OS S a) : sLoad tab t lk a = sLoad tab t lk' a := by
  match a, ha with
  | some (.one (.ptr o off)), ha => simp only [sLoad, h.eq o (ha.refs o (by simp [V.refs]))]
  | some (.one (.elt o g i j)), ha => simp only [sLoad, h.eq o (ha.refs o (by simp [V.refs]))]
  | some (.one (.t c)), _ => cases c <;> rfl
  | some (.one .nil), _ => rfl
  | some (.one .any), _ => rfl
  | some (.one (.row _ _)), _ => rfl
  | some (.one (.fn _ _ _)), _ => rfl
  | some (.one (.bsl _ _ _)), _ => rfl
  | some (.one (.part _ _ _ _)), _ => rfl
  | some (.agg _), _ => rfl
  | some (.tup _), _ => rfl
  | none, _ => rfl
theorem sStore_ag (h : Ag S lk lk') {t : Nat} {a b : Option A} (ha : OS S a) : sStore ar tab t lk a b = sStore ar tab t lk' a b := by
  match a, ha with
  | some (.one (.ptr o off)), ha => cases b with
    | none => rfl
    | some y => simp only [sStore, h.eq o (ha.refs o (by simp [V.refs]))]
  | some (.one (.elt o g i j)), ha => cases b with
    | none => rfl
    | some y => simp only [sStore, h.eq o (ha.refs o (by simp [V.refs]))]
  | some (.one (.t c)), _ => rfl
  | some (.one .nil), _ => rfl
  | some (.one .any), _ => rfl
  | some (.one (.row _ _)), _ => rfl
  | some (.one (.fn _ _ _)), _ => rfl
  | some (.one (.bsl _ _ _)), _ => rfl
  | some (.one (.part _ _ _ _)), _ => rfl
  | some (.agg _), _ => rfl
  | some (.tup _), _ => rfl
  | none, _ => rfl
theorem sFieldAddr_ag (h : Ag S lk lk') {t f : Nat} {a : Option A} (ha : OS S a) : sFieldAddr tab t f lk a = sFieldAddr tab t f lk' a := by
  match a, ha with
  | some (.one (.elt o g i j)), ha => simp only [sFieldAddr, h.eq o (ha.refs o (by simp [V.refs]))]
  | some (.one (.ptr o off)), _ => rfl
  | some (.one (.t c)), _ => cases c <;> rfl
  | some (.one .nil), _ => rfl
  | some (.one .any), _ => rfl
  | some (.one (.row _ _)), _ => rfl
  | some (.one (.fn _ _ _)), _ => rfl
  | some (.one (.bsl _ _ _)), _ => rfl
  | some (.one (.part _ _ _ _)), _ => rfl
  | some (.agg _), _ => rfl
  | some (.tup _), _ => rfl
  | none, _ => rfl
theorem sIndexAddr_ag (h : Ag S lk lk') {t : Nat} {a b : Option A} (ha : OS S a) : sIndexAddr ar tab t lk a b = sIndexAddr ar tab t lk' a b := by
  match a, ha with
  | some (.one (.row o g)), ha =>
    rcases b with _ | (v | vs | l) <;> try rfl
    cases v <;> try rfl
    rename_i c
    cases c <;> try rfl
    simp only [sIndexAddr, h.eq o (ha.refs o (by simp [V.refs]))]
  | some (.one (.elt o g i j)), ha => rfl
  | some (.one (.ptr o off)), _ =>
    rcases b with _ | (v | vs | l) <;> try rfl
    cases v <;> try rfl
    rename_i c
    cases c <;> rfl
  | some (.one (.t c)), _ =>
    rcases b with _ | (v | vs | l) <;> cases c <;> try rfl
    all_goals (cases v <;> try rfl)
    all_goals (rename_i c; cases c <;> rfl)
  | some (.one .nil), _ => rfl
  | some (.one .any), _ => rfl
  | some (.one (.fn _ _ _)), _ => rfl
  | some (.one (.bsl _ _ _)), _ => rfl
  | some (.one (.part _ _ _ _)), _ => rfl
  | some (.agg _), _ => rfl
  | some (.tup _), _ => rfl
  | none, _ => rfl
theorem sIndexAddr2_ag (h : Ag S lk lk') {t : Nat} {a b : Option A} (ha : OS S a) : sIndexAddr2 ar tab t lk a b = sIndexAddr2 ar tab t lk' a b := by
  have e := sIndexAddr_ag (ar := ar) (tab := tab) h (t := t) (a := a) (b := b) ha
  unfold sIndexAddr2
  split
  · rfl
  · exact e
theorem sIndexAddr3_ag (h : Ag S lk lk') {t : Nat} {a b : Option A} (ha : OS S a) : sIndexAddr3 ar tab t lk a b = sIndexAddr3 ar tab t lk' a b := by
  have e := sIndexAddr2_ag (ar := ar) (tab := tab) h (t := t) (a := a) (b := b) ha
  match a, ha with
  | some (.one (.elt o g i j)), ha =>
    rcases b with _ | (v | vs | l) <;> try exact e
    cases v <;> try exact e
    rename_i c
    cases c <;> try exact e
    simp only [sIndexAddr3, h.eq o (ha.refs o (by simp [V.refs]))]
  | some (.one (.row _ _)), _ => exact e
  | some (.one (.ptr _ _)), _ => exact e
  | some (.one (.t _)), _ => exact e
  | some (.one .nil), _ => exact e
  | some (.one .any), _ => exact e
  | some (.one (.fn _ _ _)), _ => exact e
  | some (.one (.bsl _ _ _)), _ => exact e
  | some (.one (.part _ _ _ _)), _ => exact e
  | some (.agg _), _ => exact e
  | some (.tup _), _ => exact e
  | none, _ => exact e
theorem bnd_cg {x : Option Operand} {d : Int} (h : ∀ y, x = some y → ρ y = ρ' y) : bnd ρ x d = bnd ρ' x d := by
  cases x with
  | none => rfl
  | some y => simp only [bnd, h y rfl]
theorem sSliceT_cg {t : Nat} {lo hi mx : Option Operand} {wr : Obs} {es : List (List T)} (h1 : ∀ y, lo = some y → ρ y = ρ' y) (h2 : ∀ y, hi = some y → ρ y = ρ' y) (h3 : ∀ y, mx = some y → ρ y = ρ' y) :
    sSliceT ar tab t ρ lo hi mx wr es = sSliceT ar tab t ρ' lo hi mx wr es := by
  unfold sSliceT
  rw [bnd_cg h1, bnd_cg (x := hi) h2]
  cases sliceOf tab t with
  | none => rfl
  | some e =>
    simp only
    cases tab e with
    | none => rfl
    | some te =>
      simp only
      cases bnd ρ' lo 0 <;> cases bnd ρ' hi (ar.len es) <;> cases mx <;> try rfl
      rename_i m
      have h3' : ∀ y, some m = some y → ρ y = ρ' y := h3
      simp only [bnd_cg (x := some m) h3']
theorem sSlice_ag (h : Ag S lk lk') {t : Nat} {lo hi mx : Option Operand} {a : Option A} (ha : OS S a) (h1 : ∀ y, lo = some y → ρ y = ρ' y) (h2 : ∀ y, hi = some y → ρ y = ρ' y) (h3 : ∀ y, mx = some y → ρ y = ρ' y) :
    sSlice ar tab t lk ρ lo hi mx a = sSlice ar tab t lk' ρ' lo hi mx a := by
  match a, ha with
  | none, _ => rfl
  | some (.agg _), _ => rfl
  | some (.tup _), _ => rfl
  | some (.one v), ha =>
    have ht := V.tree_ag h (v := v) ha.refs
    have hf := frz_ag h (l := v.refs) ha.refs
    by_cases hs : ∃ s, v = .t (.str s)
    · obtain ⟨s, rfl⟩ := hs
      simp only [sSlice, bnd_cg h1, bnd_cg (x := hi) h2]
    · have e : ∀ (lk : OF) (ρ : Operand → Option A), sSlice ar tab t lk ρ lo hi mx (some (.one v)) = (match v.tree lk with | some (.sl es) => sSliceT ar tab t ρ lo hi mx (frz lk v.refs) es | _ => .bad) := by
        intro lk ρ
        cases v with
        | t c => cases c <;> first | rfl | exact absurd ⟨_, rfl⟩ hs
        | _ => rfl
      rw [e, e, ← ht, ← hf]
      split
      · exact sSliceT_cg h1 h2 h3
      · rfl
theorem sPart_ag (h : Ag S lk lk') {t : Nat} {lo hi mx : Option Operand} {a : Option A} (ha : OS S a) (h1 : ∀ y, lo = some y → ρ y = ρ' y) (h2 : ∀ y, hi = some y → ρ y = ρ' y) :
    sPart ar tab t lk ρ lo hi mx a = sPart ar tab t lk' ρ' lo hi mx a := by
  match a, ha with
  | some (.one (.row o g)), ha => simp only [sPart, h.eq o (ha.refs o (by simp [V.refs])), bnd_cg h1, bnd_cg (x := hi) h2]
  | some (.one (.elt o g i j)), _ => rfl
  | some (.one (.ptr o off)), _ => rfl
  | some (.one (.t c)), _ => rfl
  | some (.one .nil), _ => rfl
  | some (.one .any), _ => rfl
  | some (.one (.fn _ _ _)), _ => rfl
  | some (.one (.bsl _ _ _)), _ => rfl
  | some (.one (.part _ _ _ _)), _ => rfl
  | some (.agg _), _ => rfl
  | some (.tup _), _ => rfl
  | none, _ => rfl
theorem sMark_ag (h : Ag S lk lk') {e dst src : Nat} {v : V} (hv : ∀ n, n ∈ v.refs → S n) : sMark ar tab e dst src lk v = sMark ar tab e dst src lk' v := by
  cases v with
  | row o g => simp only [sMark, h.eq o (hv o (by simp [V.refs]))]
  | _ => rfl
theorem sConv_ag (h : Ag S lk lk') {n dst src : Nat} (hn : S n) {a : Option A} (ha : OS S a) : sConv ar tab n dst src lk a = sConv ar tab n dst src lk' a := by
  match a, ha with
  | none, _ => unfold sConv; split <;> simp_all
  | some (.agg _), _ => unfold sConv; split <;> simp_all
  | some (.tup _), _ => unfold sConv; split <;> simp_all
  | some (.one v), ha =>
    have ht := V.tree_ag h (v := v) ha.refs
    unfold sConv
    cases tab src with
    | none => rfl
    | some ti => cases tab dst with
      | none => rfl
      | some ti' => simp only [← ht, new_ag h hn, sMark_ag h (v := v) ha.refs]
theorem sLen_ag (h : Ag S lk lk') {t : Nat} {a : Option A} (ha : OS S a) : sLen ar tab t lk a = sLen ar tab t lk' a := by
  match a, ha with
  | some (.one (.row o g)), ha => simp only [sLen, h.eq o (ha.refs o (by simp [V.refs]))]
  | some (.one (.elt o g i j)), ha => rfl
  | some (.one (.ptr o off)), _ => rfl
  | some (.one (.t c)), _ => cases c <;> rfl
  | some (.one .nil), _ => rfl
  | some (.one .any), _ => rfl
  | some (.one (.fn _ _ _)), _ => rfl
  | some (.one (.bsl _ _ _)), _ => rfl
  | some (.one (.part _ _ _ _)), _ => rfl
  | some (.agg _), _ => rfl
  | some (.tup _), _ => rfl
  | none, _ => rfl
theorem srcOf_ag (h : Ag S lk lk') {a : Option A} (ha : OS S a) : srcOf ar lk a = srcOf ar lk' a := by
  match a, ha with
  | none, _ => rfl
  | some (.agg _), _ => rfl
  | some (.tup _), _ => rfl
  | some (.one v), ha =>
    have ht := V.tree_ag h (v := v) ha.refs
    cases v with
    | t c => cases c <;> rfl
    | part o g i j => simp only [srcOf, h.eq o (ha.refs o (by simp [V.refs]))]
    | _ => simp only [srcOf, ← ht]
theorem sAppend_ag (h : Ag S lk lk') {t u n : Nat} (hn : S n) {a b : Option A} (ha : OS S a) (hb : OS S b) : sAppend ar tab t u n lk a b = sAppend ar tab t u n lk' a b := by
  unfold sAppend
  rw [← srcOf_ag h hb]
  match a, ha with
  | some (.one (.row o g)), ha => simp only [h.eq o (ha.refs o (by simp [V.refs]))]
  | some (.one (.part o g i j)), ha => simp only [h.eq o (ha.refs o (by simp [V.refs]))]
  | some (.one .nil), _ => simp only [new_ag h hn]
  | some (.one (.elt o g i j)), ha => rfl
  | some (.one (.ptr o off)), _ => rfl
  | some (.one (.t c)), _ => rfl
  | some (.one .any), _ => rfl
  | some (.one (.fn _ _ _)), _ => rfl
  | some (.one (.bsl _ _ _)), _ => rfl
  | some (.agg _), _ => rfl
  | some (.tup _), _ => rfl
  | none, _ => rfl
theorem sMake_ag (h : Ag S lk lk') {t n : Nat} (hn : S n) {a b : Option A} : sMake ar tab t n lk a b = sMake ar tab t n lk' a b := by
  unfold sMake
  simp only [new_ag h hn]
theorem cells_refs {a : A} {vs : List V} (h : a.cells = some vs) (ha : AS S a) : ∀ m, m ∈ vrefs vs → S m := fun m hm => ha m (by rw [vrefs_cells h] at hm; exact hm)
theorem elemsOf_ag (h : Ag S lk lk') {sz : Nat} : ∀ {ps : List (Nat × Option A)} {k : Nat}, (∀ p, p ∈ ps → OS S p.2) → elemsOf lk sz k ps = elemsOf lk' sz k ps
  | [], k, _ => rfl
  | (i, none) :: r, k, _ => rfl
  | (i, some a) :: r, k, hs => by
    have h1 := elemsOf_ag h (sz := sz) (ps := r) (k := k + 1) fun p hp => hs p (.tail _ hp)
    simp only [elemsOf, h1]
    cases hc : a.cells with
    | none => rfl
    | some vs =>
      have := trees_ag h (l := vs) (cells_refs hc (hs (i, some a) (.head _) a rfl))
      simp only [this]
theorem refsOf_S : ∀ {ps : List (Nat × Option A)}, (∀ p, p ∈ ps → OS S p.2) → ∀ m, m ∈ refsOf ps → S m
  | [], _, m, h => by cases h
  | (i, none) :: r, hs, m, h => refsOf_S (ps := r) (fun p hp => hs p (.tail _ hp)) m h
  | (i, some a) :: r, hs, m, h => by
    rcases List.mem_append.1 h with h | h
    · exact hs (i, some a) (.head _) a rfl m h
    · exact refsOf_S (ps := r) (fun p hp => hs p (.tail _ hp)) m h
theorem sBuildSlice_ag (h : Ag S lk lk') {t n len : Nat} (hn : S n) {ps : List (Nat × Option A)} (hs : ∀ p, p ∈ ps → OS S p.2) : sBuildSlice tab t n len lk ps = sBuildSlice tab t n len lk' ps := by
  unfold sBuildSlice
  simp only [elemsOf_ag h hs, h.eq n hn, frz_ag h (refsOf_S hs), sBuildBox, new_ag h hn]

theorem argsOf_cg : ∀ {xs : List Operand}, (∀ x, x ∈ xs → ρ x = ρ' x) → argsOf ρ xs = argsOf ρ' xs
  | [], _ => rfl
  | x :: r, h => by simp only [argsOf, h x (.head _), argsOf_cg (xs := r) fun y hy => h y (.tail _ hy)]
theorem argsOf_S : ∀ {xs : List Operand} {l : List A}, (∀ x, x ∈ xs → OS S (ρ x)) → argsOf ρ xs = some l → ∀ a, a ∈ l → AS S a
  | [], l, _, h, a, ha => by simp [argsOf] at h; subst h; cases ha
  | x :: r, l, hs, h, a, ha => by
    unfold argsOf at h
    split at h
    · rename_i v q hv hq
      injection h with h; subst h
      rcases List.mem_cons.1 ha with e | ha
      · subst e; exact hs x (.head _) _ hv
      · exact argsOf_S (xs := r) (fun y hy => hs y (.tail _ hy)) hq a ha
    · cases h
theorem capsOf_cg : ∀ {xs : List Operand}, (∀ x, x ∈ xs → ρ x = ρ' x) → capsOf ρ xs = capsOf ρ' xs
  | [], _ => rfl
  | x :: r, h => by simp only [capsOf, h x (.head _), capsOf_cg (xs := r) fun y hy => h y (.tail _ hy)]
theorem firstsOf_cg : ∀ {xs : List Operand}, (∀ x, x ∈ xs → ρ x = ρ' x) → firstsOf ρ xs = firstsOf ρ' xs
  | [], _ => rfl
  | x :: r, h => by simp only [firstsOf, h x (.head _), firstsOf_cg (xs := r) fun y hy => h y (.tail _ hy)]
theorem firstA_S : ∀ {l : List (List T)} {a : A}, a ∈ firstA l → AS S a
  | [], a, h => by cases h
  | c :: r, a, h => by
    rcases List.mem_cons.1 h with e | h
    · subst e
      intro m hm
      obtain ⟨v, hv, hv2⟩ := mem_vrefs (show m ∈ vrefs (tV c) from hm)
      obtain ⟨i, hi⟩ := List.getElem?_of_mem hv
      rw [tV_get] at hi
      cases ht : c[i]? with
      | none => rw [ht] at hi; cases hi
      | some t => rw [ht] at hi; injection hi with hi; subst hi; cases hv2
    · exact firstA_S h
theorem capT_S : ∀ {l : List T} {a : A}, a ∈ capT l → AS S a
  | [], a, h => by cases h
  | c :: r, a, h => by
    rcases List.mem_cons.1 h with e | h
    · subst e; intro m hm; cases hm
    · exact capT_S h
theorem capA_S : ∀ {l : List Cap} {a : A}, (∀ m, m ∈ crefs l → S m) → a ∈ capA l → AS S a
  | [], a, _, h => by cases h
  | .t c :: r, a, hs, h => by
    rcases List.mem_cons.1 h with e | h
    · subst e; intro m hm; cases hm
    · exact capA_S (l := r) hs h
  | .ptr o off :: r, a, hs, h => by
    rcases List.mem_cons.1 h with e | h
    · subst e
      intro m hm
      simp only [A.refs, V.refs, List.mem_singleton] at hm
      subst hm; exact hs m (.head _)
    · exact capA_S (l := r) (fun m hm => hs m (.tail _ hm)) h

theorem stepE_no {ρ ρ' : Operand → Option A} {lk lk' : OF} {d ty : Nat} {op : Op} (hn : noLk op = true) (hρ : ∀ x, x ∈ op.operands.toList → ρ x = ρ' x) :
    stepE std tab md d op ty ρ lk = stepE std tab md d op ty ρ' lk' := by
  cases op <;> try (cases hn; done)
  case move x => simp only [stepE, hρ x (by simp [Op.operands])]
  case assign x => simp only [stepE, hρ x (by simp [Op.operands])]
  case pick c x y => simp only [stepE, hρ c (by simp [Op.operands]), hρ x (by simp [Op.operands]), hρ y (by simp [Op.operands])]
  case build t parts =>
    have : (parts.toList.map fun p => (p.1, ρ p.2)) = parts.toList.map fun p => (p.1, ρ' p.2) := List.map_congr_left fun p hp => by rw [hρ p.2 (by simp [Op.operands]; exact ⟨p.1, by simpa using hp⟩)]
    simp only [stepE, this]
  case extract x i => simp only [stepE, hρ x (by simp [Op.operands])]
  case field t x f => simp only [stepE, hρ x (by simp [Op.operands])]
  case binOp o t x y k => simp only [stepE, hρ x (by simp [Op.operands]), hρ y (by simp [Op.operands])]
  case unOp o t x => simp only [stepE, hρ x (by simp [Op.operands])]
theorem stepE_ag (h : Ag S lk lk') {d ty : Nat} {op : Op} (hd : ∀ n, n / 32 = d + 1 → S n) (hρ : ∀ x, x ∈ op.operands.toList → ρ x = ρ' x) (hs : ∀ x, x ∈ op.operands.toList → OS S (ρ x)) :
    stepE std tab md d op ty ρ lk = stepE std tab md d op ty ρ' lk' := by
  have hn : S (nm d 0) := hd _ (by simp [nm])
  cases op <;> try rfl
  case move x => simp only [stepE, hρ x (by simp [Op.operands])]
  case assign x => simp only [stepE, hρ x (by simp [Op.operands])]
  case pick c x y => simp only [stepE, hρ c (by simp [Op.operands]), hρ x (by simp [Op.operands]), hρ y (by simp [Op.operands])]
  case alloc t => simp only [stepE, sAllocArr, new_ag h hn]
  case box t x => simp only [stepE, hρ x (by simp [Op.operands]), new_ag h hn]
  case build t parts =>
    have : (parts.toList.map fun p => (p.1, ρ p.2)) = parts.toList.map fun p => (p.1, ρ' p.2) := List.map_congr_left fun p hp => by rw [hρ p.2 (by simp [Op.operands]; exact ⟨p.1, by simpa using hp⟩)]
    simp only [stepE, this]
  case buildSlice t len parts =>
    have e : (parts.toList.map fun p => (p.1, ρ p.2)) = parts.toList.map fun p => (p.1, ρ' p.2) := List.map_congr_left fun p hp => by rw [hρ p.2 (by simp [Op.operands]; exact ⟨p.1, by simpa using hp⟩)]
    simp only [stepE, ← e]
    split
    · refine sBuildSlice_ag h hn fun p hp => ?_
      obtain ⟨q, hq, rfl⟩ := List.mem_map.1 hp
      exact hs q.2 (by simp [Op.operands]; exact ⟨q.1, by simpa using hq⟩)
    · simp only [sBuildSliceB, sBuildBox, new_ag h hn]
  case load t x => simp only [stepE, ← hρ x (by simp [Op.operands])]; exact sLoad_ag h (hs x (by simp [Op.operands]))
  case store t x y => simp only [stepE, ← hρ x (by simp [Op.operands]), ← hρ y (by simp [Op.operands])]; exact sStore_ag h (hs x (by simp [Op.operands]))
  case nilCheck x =>
    have hx := hs x (by simp [Op.operands])
    simp only [stepE, ← hρ x (by simp [Op.operands])]
    revert hx
    cases ρ x with
    | none => intro _; rfl
    | some a =>
      intro ha
      cases a with
      | one v => cases v with
        | elt o g i j => simp only [h.eq o (ha.refs o (by simp [V.refs]))]
        | t c => cases c <;> rfl
        | _ => rfl
      | _ => rfl
  case binOp op t x y yt => simp only [stepE, hρ x (by simp [Op.operands]), hρ y (by simp [Op.operands])]
  case unOp op t x => simp only [stepE, hρ x (by simp [Op.operands])]
  case convert s t x => simp only [stepE, ← hρ x (by simp [Op.operands])]; exact sConv_ag h hn (hs x (by simp [Op.operands]))
  case makeFunc fn first caps =>
    simp only [stepE]
    rw [firstsOf_cg (ρ' := ρ') fun x hx => hρ x (by simp [Op.operands]; exact .inl (by simpa using hx)), capsOf_cg (ρ' := ρ') fun x hx => hρ x (by simp [Op.operands]; exact .inr (by simpa using hx))]
  case makeSlice t x y => simp only [stepE, hρ x (by simp [Op.operands]), hρ y (by simp [Op.operands])]; exact sMake_ag h hn
  case slice t x lo hi mx =>
    simp only [stepE, ← hρ x (by simp [Op.operands])]
    split
    · refine sSlice_ag h (hs x (by simp [Op.operands])) (fun y hy => hρ y ?_) (fun y hy => hρ y ?_) (fun y hy => hρ y ?_)
      · subst hy; simp [Op.operands]
      · subst hy; simp [Op.operands]
      · subst hy; simp [Op.operands]
    · refine sPart_ag h (hs x (by simp [Op.operands])) (fun y hy => hρ y ?_) (fun y hy => hρ y ?_)
      · subst hy; simp [Op.operands]
      · subst hy; simp [Op.operands]
  case fieldAddr t x f => simp only [stepE, ← hρ x (by simp [Op.operands])]; exact sFieldAddr_ag h (hs x (by simp [Op.operands]))
  case field t x f => simp only [stepE, hρ x (by simp [Op.operands])]
  case indexAddr t x y => simp only [stepE, ← hρ x (by simp [Op.operands]), ← hρ y (by simp [Op.operands])]; exact sIndexAddr3_ag h (hs x (by simp [Op.operands]))
  case index t x y => simp only [stepE, hρ x (by simp [Op.operands]), hρ y (by simp [Op.operands])]
  case extract x i => simp only [stepE, hρ x (by simp [Op.operands])]
  case call c =>
    have hargs : ∀ x, x ∈ c.args.toList → ρ x = ρ' x := fun x hx => hρ x (by simp [Op.operands, Call.operands]; exact .inr (by simpa using hx))
    have hargsS : ∀ x, x ∈ c.args.toList → OS S (ρ x) := fun x hx => hs x (by simp [Op.operands, Call.operands]; exact .inr (by simpa using hx))
    simp only [stepE]
    cases hc : c.callee with
    | invoke r nm => rfl
    | builtin b =>
      cases b <;> try rfl
      case append =>
        simp only
        split
        · rename_i x y t u hx ht
          rw [← hargs x (by rw [hx]; simp), ← hargs y (by rw [hx]; simp)]
          exact sAppend_ag h hn (hargsS x (by rw [hx]; simp)) (hargsS y (by rw [hx]; simp))
        · rfl
      case len =>
        simp only
        split
        · rename_i x t hx ht
          rw [← hargs x (by rw [hx]; simp)]
          exact sLen_ag h (hargsS x (by rw [hx]; simp))
        · rfl
      case max =>
        simp only
        split
        · rename_i x y hx
          rw [← hargs x (by rw [hx]; simp), ← hargs y (by rw [hx]; simp)]
        · rfl
      case min =>
        simp only
        split
        · rename_i x y hx
          rw [← hargs x (by rw [hx]; simp), ← hargs y (by rw [hx]; simp)]
        · rfl
    | value f =>
      simp only
      have hf := hs f (by simp [Op.operands, Call.operands, hc])
      rw [← hρ f (by simp [Op.operands, Call.operands, hc]), ← argsOf_cg hargs]
      split
      · rename_i g first caps hx
        split
        · rename_i l hl
          refine sCall_ag h hd fun a ha => ?_
          rcases List.mem_append.1 ha with ha | ha
          · exact firstA_S ha
          · rcases List.mem_append.1 ha with ha | ha
            · exact argsOf_S hargsS hl a ha
            · exact capT_S ha
        · rfl
      · rename_i g first caps hx
        split
        · rename_i l hl
          refine sCall_ag h hd fun a ha => ?_
          rcases List.mem_append.1 ha with ha | ha
          · exact firstA_S ha
          · rcases List.mem_append.1 ha with ha | ha
            · exact argsOf_S hargsS hl a ha
            · refine capA_S (fun m hm => ?_) ha
              exact hf _ hx m hm
        · rfl
      · rfl

end Go.TL

/- TlAC -/
namespace Go.TL
open Go

variable {P : Program} {E : Env P} {ok : Nat → Prop} {hd : HF} {tm : Nat → Option A} {ob : OF} {w : World} {a : Act} {o : Oper} {tab : TF} {md : MF} {tmps : Array Value}

structure Rec where
  dst : Option Nat
  x : A
  wr : Obs
  G : Prop
def setO (tm : Nat → Option A) (dst : Option Nat) (x : A) : Nat → Option A := match dst with
  | some d => fun t => if t = d then some x else tm t
  | none => tm
def tmF (D : Nat → Bool) : Nat → List Rec → (Nat → Option A) → (Nat → Option A)
  | _, [], tm => tm
  | k, r :: rs, tm => tmF D (k + 1) rs (if D k then setO tm r.dst r.x else tm)
def obF (D : Nat → Bool) : Nat → List Rec → OF → OF
  | _, [], ob => ob
  | k, r :: rs, ob => obF D (k + 1) rs (if D k then updO ob r.wr else ob)

theorem setO_ne {tm : Nat → Option A} {dst : Option Nat} {x : A} {t : Nat} (h : dst ≠ some t) : setO tm dst x t = tm t := by
  cases dst with
  | none => rfl
  | some d =>
    have : t ≠ d := fun e => h (by rw [e])
    simp [setO, this]
theorem setO_eq {tm : Nat → Option A} {x : A} {t : Nat} : setO tm (some t) x t = some x := by simp [setO]
theorem tmF_agree {D D' : Nat → Bool} {t : Nat} : ∀ (rs : List Rec) (k : Nat) (tm tm' : Nat → Option A), (∀ (j : Nat) r, rs[j]? = some r → D (k + j) ≠ D' (k + j) → r.dst ≠ some t) → tm t = tm' t → tmF D k rs tm t = tmF D' k rs tm' t
  | [], _, _, _, _, h => h
  | r :: rs, k, tm, tm', h, h0 => by
    refine tmF_agree rs (k + 1) _ _ (fun j r' hj hne => h (j + 1) r' (by simpa using hj) (by rwa [show k + (j + 1) = k + 1 + j by omega])) ?_
    by_cases e : D k = D' k
    · rw [← e]
      cases D k with
      | false => exact h0
      | true =>
        simp only [if_true]
        cases hd : r.dst with
        | none => exact h0
        | some d => by_cases q : t = d <;> simp [setO, q, h0]
    · have := h 0 r rfl e
      have e1 : ∀ (b : Bool) (tm : Nat → Option A), (if b then setO tm r.dst r.x else tm) t = tm t := by
        intro b tm; cases b with
        | false => rfl
        | true => exact setO_ne this
      rw [e1, e1]; exact h0
theorem tmF_at {D : Nat → Bool} {t : Nat} : ∀ (rs : List Rec) (k i : Nat) (r : Rec) (tm : Nat → Option A), rs[i]? = some r → D (k + i) = true → r.dst = some t → (∀ (j : Nat) r', i < j → rs[j]? = some r' → D (k + j) = true → r'.dst ≠ some t) → tmF D k rs tm t = some r.x
  | [], _, i, _, _, h, _, _, _ => by simp at h
  | r0 :: rs, k, i, r, tm, h, hD, hd, hl => by
    cases i with
    | succ i => exact tmF_at rs (k + 1) i r _ (by simpa using h) (by rw [← hD]; congr 1; omega) hd fun j r' hj hr hDj => hl (j + 1) r' (by omega) (by simpa using hr) (by rw [← hDj]; congr 1; omega)
    | zero =>
      simp at h; subst h
      have hD' : D k = true := by simpa using hD
      simp only [tmF, hD', if_true]
      rw [tmF_agree (D' := fun _ => false) rs (k + 1) _ (setO tm r0.dst r0.x) (fun j r' hj hne => hl (j + 1) r' (by omega) (by simpa using hj) (by
        cases hq : D (k + 1 + j) with
        | false => exact absurd hq hne
        | true => rw [← hq]; congr 1; omega)) rfl]
      have none : ∀ (rs : List Rec) (k : Nat) (tm : Nat → Option A), tmF (fun _ => false) k rs tm = tm := by
        intro rs; induction rs with
        | nil => intro k tm; rfl
        | cons r rs ih => intro k tm; exact ih (k + 1) tm
      rw [none, hd, setO_eq]
theorem obF_agree {D D' : Nat → Bool} {n : Nat} : ∀ (rs : List Rec) (k : Nat) (ob ob' : OF), (∀ (j : Nat) r, rs[j]? = some r → D (k + j) ≠ D' (k + j) → n ∉ keys r.wr) → ob n = ob' n → obF D k rs ob n = obF D' k rs ob' n
  | [], _, _, _, _, h => h
  | r :: rs, k, ob, ob', h, h0 => by
    refine obF_agree rs (k + 1) _ _ (fun j r' hj hne => h (j + 1) r' (by simpa using hj) (by rwa [show k + (j + 1) = k + 1 + j by omega])) ?_
    by_cases e : D k = D' k
    · rw [← e]
      cases D k with
      | false => exact h0
      | true => simp [updO, h0]
    · have := h 0 r rfl e
      have e1 : ∀ (b : Bool) (ob : OF), (if b then updO ob r.wr else ob) n = ob n := by
        intro b ob; cases b with
        | false => rfl
        | true =>
          simp only [if_true, updO]
          cases hl : look r.wr.reverse n with
          | none => rfl
          | some y => exact absurd (by rw [keys_map]; exact List.mem_map.2 ⟨(n, y), List.mem_reverse.1 (look_mem hl), rfl⟩) this
      rw [e1, e1]; exact h0
theorem obF_at {D : Nat → Bool} {n : Nat} {y : Ob} : ∀ (rs : List Rec) (k i : Nat) (r : Rec) (ob : OF), rs[i]? = some r → D (k + i) = true → look r.wr.reverse n = some y → (∀ (j : Nat) r', i < j → rs[j]? = some r' → D (k + j) = true → n ∉ keys r'.wr) → obF D k rs ob n = some y
  | [], _, i, _, _, h, _, _, _ => by simp at h
  | r0 :: rs, k, i, r, ob, h, hD, hd, hl => by
    cases i with
    | succ i => exact obF_at rs (k + 1) i r _ (by simpa using h) (by rw [← hD]; congr 1; omega) hd fun j r' hj hr hDj => hl (j + 1) r' (by omega) (by simpa using hr) (by rw [← hDj]; congr 1; omega)
    | zero =>
      simp at h; subst h
      have hD' : D k = true := by simpa using hD
      simp only [obF, hD', if_true]
      rw [obF_agree (D' := fun _ => false) rs (k + 1) _ (updO ob r0.wr) (fun j r' hj hne => hl (j + 1) r' (by omega) (by simpa using hj) (by
        cases hq : D (k + 1 + j) with
        | false => exact absurd hq hne
        | true => rw [← hq]; congr 1; omega)) rfl]
      have none : ∀ (rs : List Rec) (k : Nat) (ob : OF), obF (fun _ => false) k rs ob = ob := by
        intro rs; induction rs with
        | nil => intro k ob; rfl
        | cons r rs ih => intro k ob; exact ih (k + 1) ob
      rw [none]
      simp [updO, hd]
theorem tmF_none {D : Nat → Bool} : ∀ (rs : List Rec) (k : Nat) (tm : Nat → Option A), (∀ j, k ≤ j → D j = false) → tmF D k rs tm = tm
  | [], _, _, _ => rfl
  | r :: rs, k, tm, h => by simp only [tmF, h k (Nat.le_refl _), Bool.false_eq_true, if_false]; exact tmF_none rs (k + 1) tm fun j hj => h j (by omega)
theorem obF_none {D : Nat → Bool} : ∀ (rs : List Rec) (k : Nat) (ob : OF), (∀ j, k ≤ j → D j = false) → obF D k rs ob = ob
  | [], _, _, _ => rfl
  | r :: rs, k, ob, h => by simp only [obF, h k (Nat.le_refl _), Bool.false_eq_true, if_false]; exact obF_none rs (k + 1) ob fun j hj => h j (by omega)

/-- One operation's turn in the text's order. -/
structure StepR (P : Program) (tab : TF) (md : MF) (all : List Oper) (o : Oper) (st : St) (r : Rec) (e : Entry) (i : Nat) : Prop where
  i : e.i = i
  dst : e.dst = o.dst
  rdst : r.dst = o.dst
  wr : e.wr = keys r.wr
  go : (∃ b : Bool, (∀ g want, o.guard = some (g, want) → b = true ∧ ∃ t, guardT all o.guard = some (t, want) ∧ look st.tm t = some (.one (.t (.bool want))) ∧ t ∈ e.rt) ∧ (∀ t, t ∈ tmpsOf o.op.operands.toList → t ∈ e.rt) ∧
        e.rd = rdOf (look st.tm) (look st.ob) o.op ∧ e.cl = (closedB (look st.ob) e.rd && slotCl (dstOf o.dst) e.rd st.ob) ∧
        (stepE std tab md (dstOf o.dst) o.op o.type (ev (look st.tm)) (look st.ob)).holds std (ACall P) fun x wr => x = r.x ∧ wr = r.wr ∧ r.G) ∨
    (∃ g want t, o.guard = some (g, want) ∧ guardT all o.guard = some (t, want) ∧ (look st.tm t = some (.one (.t (.bool (!want)))) ∨ look st.tm t = some (.tup [])) ∧ t ∈ e.rt ∧ r.x = .tup [] ∧ r.wr = [] ∧ r.G)

inductive Run (P : Program) (tab : TF) (md : MF) (all : List Oper) : Nat → List Oper → St → List Rec → List Entry → St → Prop
  | nil (i : Nat) (st : St) : Run P tab md all i [] st [] [] st
  | cons (i : Nat) (o : Oper) (l : List Oper) (st : St) (r : Rec) (e : Entry) (st' : St) (rs : List Rec) (es : List Entry) (fin : St) (h : StepR P tab md all o st r e i) (ht : look st'.tm = setO (look st.tm) o.dst r.x)
      (ho : look st'.ob = updO (look st.ob) r.wr) (k : Run P tab md all (i + 1) l st' rs es fin) : Run P tab md all i (o :: l) st (r :: rs) (e :: es) fin

theorem Run.at {all l : List Oper} {k : Nat} {st fin : St} {rs : List Rec} {es : List Entry} (h : Run P tab md all k l st rs es fin) : ∀ (i : Nat) o, l[i]? = some o → ∃ r e st', rs[i]? = some r ∧ es[i]? = some e ∧ StepR P tab md all o st' r e (k + i) ∧
    look st'.tm = tmF (fun j => decide (j < k + i)) k rs (look st.tm) ∧ look st'.ob = obF (fun j => decide (j < k + i)) k rs (look st.ob) := by
  induction h with
  | nil => intro i o h; simp at h
  | cons k o l st r e st' rs es fin h ht ho _ ih =>
    intro i o' hi
    cases i with
    | zero =>
      simp at hi; subst hi
      exact ⟨r, e, st, rfl, rfl, by simpa using h, (tmF_none _ _ _ fun j hj => by simp; omega).symm, (obF_none _ _ _ fun j hj => by simp; omega).symm⟩
    | succ i =>
      obtain ⟨r', e', st2, h1, h2, h3, h4, h5⟩ := ih i o' (by simpa using hi)
      have e1 : k + 1 + i = k + (i + 1) := by omega
      rw [e1] at h3 h4 h5
      refine ⟨r', e', st2, by simpa using h1, by simpa using h2, h3, ?_, ?_⟩
      · rw [h4, ht]; simp only [tmF]; rw [if_pos (by simp), h.rdst]
      · rw [h5, ho]; simp only [obF]; rw [if_pos (by simp)]
theorem Run.fin {all l : List Oper} {k : Nat} {st fin : St} {rs : List Rec} {es : List Entry} (h : Run P tab md all k l st rs es fin) : look fin.tm = tmF (fun _ => true) k rs (look st.tm) ∧ look fin.ob = obF (fun _ => true) k rs (look st.ob) := by
  induction h with
  | nil => exact ⟨rfl, rfl⟩
  | cons k o l st r e st' rs es fin h ht ho _ ih =>
    refine ⟨?_, ?_⟩
    · rw [ih.1, ht]; simp only [tmF, if_true]; rw [h.rdst]
    · rw [ih.2, ho]; simp only [obF, if_true]
theorem Run.len {all l : List Oper} {k : Nat} {st fin : St} {rs : List Rec} {es : List Entry} (h : Run P tab md all k l st rs es fin) : rs.length = l.length ∧ es.length = l.length := by
  induction h with
  | nil => exact ⟨rfl, rfl⟩
  | cons _ _ _ _ _ _ _ _ _ _ _ _ _ _ ih => exact ⟨by simp [ih.1], by simp [ih.2]⟩

theorem SR.holds_mono {K K' : A → Obs → Prop} (hk : ∀ x wr, K x wr → K' x wr) : ∀ (s : SR), s.holds std (ACall P) K → s.holds std (ACall P) K'
  | .ret a wr, h => hk a wr h
  | .req c k, h => ⟨h.1, SR.holds_mono hk k h.2⟩
  | .fact c k, h => fun hc => SR.holds_mono hk k (h hc)
  | .amb c k, h => fun b hb => SR.holds_mono hk (k b) (h b hb)
  | .br b t f, h => by
    cases b with
    | true => exact SR.holds_mono hk t h
    | false => exact SR.holds_mono hk f h
  | .get es i k, h => by obtain ⟨h1, h2⟩ := h; exact ⟨h1, SR.holds_mono hk _ h2⟩
  | .bytes es k, h => by obtain ⟨l, e, h⟩ := h; exact ⟨l, e, SR.holds_mono hk _ h⟩
  | .callG f args ob k, h => by obtain ⟨h1⟩ := h; exact ⟨h1.mono fun r ob' h => SR.holds_mono hk _ h⟩
  | .bad, h => h.elim
theorem SR.det_out {K : A → Obs → Prop → Prop} : ∀ (s : SR) (F : Prop), s.det std (ACall P) F K → ∃ x wr G, (s.holds std (ACall P) fun a w => a = x ∧ w = wr ∧ G) ∧ ∃ F', (F → G → F') ∧ K x wr F'
  | .ret a wr, F, h => ⟨a, wr, True, ⟨rfl, rfl, trivial⟩, F, fun h _ => h, h⟩
  | .req c k, F, h => by
    obtain ⟨x, wr, G, h1, h2⟩ := SR.det_out k F h.2
    exact ⟨x, wr, G, ⟨h.1, h1⟩, h2⟩
  | .fact c k, F, h => by
    obtain ⟨x, wr, G, h1, F', h2, h3⟩ := SR.det_out k (F ∧ c) h
    exact ⟨x, wr, c ∧ G, fun hc => SR.holds_mono (fun a w ⟨q1, q2, q3⟩ => ⟨q1, q2, hc, q3⟩) k h1, F', fun hF hG => h2 ⟨hF, hG.1⟩ hG.2, h3⟩
  | .amb c k, F, h => h.elim
  | .br b t f, F, h => by
    cases b with
    | true => exact SR.det_out t F h
    | false => exact SR.det_out f F h
  | .get es i k, F, h => by
    obtain ⟨h0, h⟩ := h
    obtain ⟨x, wr, G, h1, h2⟩ := SR.det_out _ F h
    exact ⟨x, wr, G, ⟨h0, h1⟩, h2⟩
  | .bytes es k, F, h => by
    obtain ⟨l, e, h⟩ := h
    obtain ⟨x, wr, G, h1, h2⟩ := SR.det_out _ F h
    exact ⟨x, wr, G, ⟨l, e, h1⟩, h2⟩
  | .callG f args ob k, F, h => by
    obtain ⟨r, ob', hc, h⟩ := h
    obtain ⟨x, wr, G, h1, h2⟩ := SR.det_out _ F h
    exact ⟨x, wr, G, ⟨hc.mono fun r' ob'' ⟨e1, e2⟩ => by subst e1; subst e2; exact h1⟩, h2⟩
  | .bad, F, h => h.elim

end Go.TL

/- TlAD -/
namespace Go.TL
open Go

variable {P : Program} {E : Env P} {ok : Nat → Prop} {hd : HF} {tm : Nat → Option A} {ob : OF} {w : World} {a : Act} {o : Oper} {tab : TF} {md : MF} {tmps : Array Value}

theorem look_setT (l : Tms) (d : Option Nat) (x : A) : look (setT l d x) = setO (look l) d x := by
  cases d with
  | none => rfl
  | some d => funext t; simp only [setT, setO, look_put]
theorem guardT_some (all : List Oper) (g : Nat) (want : Bool) : ∃ t, guardT all (some (g, want)) = some (t, want) := by
  simp only [guardT]
  split
  · split
    · exact ⟨_, rfl⟩
    · exact ⟨_, rfl⟩
  · exact ⟨_, rfl⟩

theorem entry_stepR {all : List Oper} {st : St} {x : A} {wr : Obs} {G : Prop} {i : Nat} {gt : List Nat} (hg : ∀ g want, o.guard = some (g, want) → ∃ t, guardT all o.guard = some (t, want) ∧ look st.tm t = some (.one (.t (.bool want))) ∧ t ∈ gt)
    (h : (stepE std tab md (dstOf o.dst) o.op o.type (ev (look st.tm)) (look st.ob)).holds std (ACall P) fun a w => a = x ∧ w = wr ∧ G) : StepR P tab md all o st ⟨o.dst, x, wr, G⟩ (entry i o.dst gt o.op st wr) i where
  i := rfl
  dst := rfl
  rdst := rfl
  wr := rfl
  go := .inl ⟨true, fun g want q => by
    obtain ⟨t, h1, h2, h3⟩ := hg g want q
    exact ⟨rfl, t, h1, h2, by simp only [entry, List.mem_append]; exact .inl h3⟩, fun t ht => by simp only [entry, List.mem_append]; exact .inr ht, by simp only [entry], by simp only [entry], h⟩

theorem drawnP_run {all : List Oper} {K : St → Prop} : ∀ (l : List Oper) (i : Nat) (st : St) (tr : List Entry) (F : Prop), drawnP std (ACall P) tab md all i (kops all l) st tr F K →
    ∃ rs es fin, Run P tab md all i l st rs es fin ∧ checkTr all (es.reverse ++ tr) = true ∧ ((F ∧ ∀ r, r ∈ rs → r.G) → K fin)
  | [], i, st, tr, F, h => by
    obtain ⟨h1, h2⟩ := h
    exact ⟨[], [], st, .nil i st, by simpa using h1, fun q => h2 q.1⟩
  | o :: l, i, st, tr, F, h => by
    have fin : ∀ (st0 : St) (r : Rec) (e : Entry), StepR P tab md all o st r e i → look st0.tm = look st.tm → look st0.ob = look st.ob → ∀ F', (F → r.G → F') →
        drawnP std (ACall P) tab md all (i + 1) (kops all l) ⟨setT st0.tm o.dst r.x, puts st0.ob r.wr⟩ (e :: tr) F' K →
        ∃ rs es fin, Run P tab md all i (o :: l) st rs es fin ∧ checkTr all (es.reverse ++ tr) = true ∧ ((F ∧ ∀ r, r ∈ rs → r.G) → K fin) := by
      intro st0 r e hs e1 e2 F' hF hk
      obtain ⟨rs, es, fin, h1, h2, h3⟩ := drawnP_run l (i + 1) _ _ F' hk
      refine ⟨r :: rs, e :: es, fin, .cons i o l st r e _ rs es fin hs (by rw [look_setT, e1]) (by rw [look_puts, e2]) h1, by simpa using h2, fun q => h3 ⟨hF q.1 (q.2 r (.head _)), fun r' hr' => q.2 r' (.tail _ hr')⟩⟩
    simp only [kops, kop] at h
    cases hg : o.guard with
    | none =>
      rw [hg] at h
      simp only [guardT, drawnP] at h
      obtain ⟨x, wr, G, h1, F', h2, h3⟩ := SR.det_out _ _ h
      refine fin st ⟨o.dst, x, wr, G⟩ _ ⟨rfl, rfl, rfl, rfl, .inl ⟨true, fun g want q => by (rw [hg] at q; cases q), fun t ht => by simpa [entry] using ht, rfl, rfl, h1⟩⟩ rfl rfl F' h2 h3
    | some p =>
      obtain ⟨g, want⟩ := p
      obtain ⟨t, ht⟩ := guardT_some all g want
      rw [hg, ht] at h
      simp only [drawnP] at h
      split at h
      rotate_left
      · rename_i hb
        exact fin st ⟨o.dst, .tup [], [], True⟩ ⟨i, o.dst, [t], [], [], true⟩ ⟨rfl, rfl, rfl, rfl, .inr ⟨g, want, t, hg, by rw [hg]; exact ht, .inr hb, by simp, rfl, rfl, trivial⟩⟩ rfl rfl F (fun h _ => h) h
      · exact h.elim
      rename_i b hb
      have exec : ∀ b : Bool, look st.tm t = some (.one (.t (.bool b))) → b = want → (stepE std tab md (dstOf o.dst) o.op o.type (ev (look (put st.tm t (.one (.t (.bool b)))))) (look st.ob)).det std (ACall P) F (fun a wr F => drawnP std (ACall P) tab md all (i + 1) (kops all l) ⟨setT (put st.tm t (.one (.t (.bool b)))) o.dst a, puts st.ob wr⟩ (entry i o.dst [t] o.op st wr :: tr) F K) →
          ∃ rs es fin, Run P tab md all i (o :: l) st rs es fin ∧ checkTr all (es.reverse ++ tr) = true ∧ ((F ∧ ∀ r, r ∈ rs → r.G) → K fin) := by
        intro b hb hbw hh
        subst hbw
        rw [look_put_same hb] at hh
        obtain ⟨x, wr, G, h1, F', h2, h3⟩ := SR.det_out _ _ hh
        have hs := entry_stepR (all := all) (i := i) (gt := [t]) (fun g' want' q => by
          rw [hg] at q
          injection q with q; injection q with q1 q2; subst q1; subst q2
          exact ⟨t, by rw [hg]; exact ht, hb, by simp⟩) h1
        exact fin ⟨put st.tm t (.one (.t (.bool b))), st.ob⟩ _ _ hs (look_put_same hb) rfl F' h2 h3
      have skip : ∀ b : Bool, look st.tm t = some (.one (.t (.bool b))) → b = !want → drawnP std (ACall P) tab md all (i + 1) (kops all l) ⟨setT (put st.tm t (.one (.t (.bool b)))) o.dst (.tup []), st.ob⟩ (⟨i, o.dst, [t], [], [], true⟩ :: tr) F K →
          ∃ rs es fin, Run P tab md all i (o :: l) st rs es fin ∧ checkTr all (es.reverse ++ tr) = true ∧ ((F ∧ ∀ r, r ∈ rs → r.G) → K fin) := by
        intro b hb hbw h
        refine fin ⟨put st.tm t (.one (.t (.bool b))), st.ob⟩ ⟨o.dst, .tup [], [], True⟩ ⟨i, o.dst, [t], [], [], true⟩ ⟨rfl, rfl, rfl, rfl, .inr ⟨g, want, t, hg, by rw [hg]; exact ht, by rw [hb, hbw]; exact .inl rfl, by simp, rfl, rfl, trivial⟩⟩ (look_put_same hb) rfl F (fun h _ => h) h
      cases b <;> cases want <;> simp only [] at h
      · exact exec false hb rfl h
      · exact skip false hb rfl h
      · exact skip true hb rfl h
      · exact exec true hb rfl h

/-- Through edges that bind. -/
inductive Before (ops : List Oper) : Nat → Nat → Prop
  | one (j : Nat) (o : Oper) (e : Edge) (ho : ops[j]? = some o) (he : e ∈ o.after.toList) (hb : Region.binds .any e = true) : Before ops e.on j
  | more (m j : Nat) (o : Oper) (e : Edge) (ho : ops[j]? = some o) (he : e ∈ o.after.toList) (hb : Region.binds .any e = true) (h : Before ops m e.on) : Before ops m j
theorem aheadOf_before {ops : List Oper} {acc : List (List Nat)} (hacc : ∀ (j : Nat) x, acc[j]? = some x → ∀ k, k ∈ x → Before ops k j) {j : Nat} {o : Oper} (ho : ops[j]? = some o) : ∀ (l : List Edge), (∀ e, e ∈ l → e ∈ o.after.toList) → ∀ k, k ∈ aheadOf acc l → Before ops k j
  | [], _, k, h => by cases h
  | e :: r, hl, k, h => by
    simp only [aheadOf] at h
    cases hb : Region.binds .any e with
    | false => rw [hb] at h; exact aheadOf_before hacc ho r (fun e he => hl e (.tail _ he)) k h
    | true =>
      rw [hb] at h
      simp only [cond_true, List.mem_cons, List.mem_append] at h
      rcases h with h | h | h
      · subst h; exact .one j o e ho (hl e (.head _)) hb
      · refine .more k j o e ho (hl e (.head _)) hb ?_
        cases hx : acc[e.on]? with
        | none => simp [List.getD, hx] at h
        | some x => simp [List.getD, hx] at h; exact hacc e.on x hx k h
      · exact aheadOf_before hacc ho r (fun e he => hl e (.tail _ he)) k h
theorem of_nub {n : Nat} : ∀ (l acc : List Nat), n ∈ nub l acc → n ∈ l ∨ n ∈ acc
  | [], acc, h => .inr h
  | m :: r, acc, h => by
    simp only [nub] at h
    cases hb : memB m acc with
    | true => rw [hb] at h; rcases of_nub r acc h with h | h; exact .inl (.tail _ h); exact .inr h
    | false =>
      rw [hb] at h
      rcases of_nub r _ h with h | h
      · exact .inl (.tail _ h)
      · rcases List.mem_append.1 h with h | h
        · exact .inr h
        · simp at h; subst h; exact .inl (.head _)
theorem aheadGo_before {ops : List Oper} : ∀ (l : List Oper) (acc : List (List Nat)), ops.drop acc.length = l → (∀ (j : Nat) x, acc[j]? = some x → ∀ k, k ∈ x → Before ops k j) → ∀ (j : Nat) x, (aheadGo acc l)[j]? = some x → ∀ k, k ∈ x → Before ops k j
  | [], acc, _, hacc => hacc
  | o :: l, acc, hl, hacc => by
    have hlt : acc.length < ops.length := by
      by_cases q : acc.length < ops.length
      · exact q
      · rw [List.drop_eq_nil_of_le (by omega)] at hl; cases hl
    rw [List.drop_eq_getElem_cons hlt] at hl
    injection hl with h1 h2
    have ho : ops[acc.length]? = some o := by rw [List.getElem?_eq_getElem hlt, h1]
    refine aheadGo_before l (acc ++ [nub (aheadOf acc o.after.toList) []]) (by simpa using h2) fun j x hx k hk => ?_
    by_cases q : j < acc.length
    · rw [List.getElem?_append_left q] at hx; exact hacc j x hx k hk
    · rw [List.getElem?_append_right (by omega)] at hx
      have : j = acc.length := by
        cases hq : j - acc.length with
        | zero => omega
        | succ n => rw [hq] at hx; simp at hx
      subst this
      simp at hx; subst hx
      exact aheadOf_before hacc ho _ (fun _ h => h) k ((of_nub _ _ hk).resolve_right (by simp))

/-- What the test of a trace shows. -/
structure Sep (x y : Entry) : Prop where
  rt : ∀ d, x.dst = some d → d ∉ y.rt
  slot : ∀ n, n ∈ x.wr → n / 32 ≠ dstOf y.dst + 1
  dst : ∀ d, x.dst = some d → y.dst ≠ some d
  rd : ∀ n, n ∈ x.wr → n ∉ y.rd
  wr : ∀ n, n ∈ x.wr → n ∉ y.wr
theorem offB_mem {d : Nat} : ∀ {l : List Nat}, offB d l = true → ∀ n, n ∈ l → n / 32 ≠ d + 1
  | [], _, n, h => by cases h
  | m :: r, hb, n, h => by
    simp only [offB, Bool.and_eq_true, Bool.not_eq_true'] at hb
    rcases List.mem_cons.1 h with e | h
    · subst e; intro e; have := hb.1; rw [e] at this; simp at this
    · exact offB_mem hb.2 n h
theorem apartB_sep {x y : Entry} (h : apartB x y = true) : Sep x y ∧ Sep y x := by
  simp only [apartB, Bool.and_eq_true] at h
  obtain ⟨⟨⟨⟨⟨⟨⟨h1, h2⟩, h3⟩, h4⟩, h5⟩, h6⟩, h7⟩, h8⟩ := h
  have hd : ∀ d, x.dst = some d → y.dst ≠ some d := by
    intro d hx hy
    rw [hx, hy] at h5
    simp at h5
  refine ⟨⟨fun d hx => ?_, offB_mem h4, hd, disjB_mem h6, disjB_mem h8⟩, ⟨fun d hy => ?_, offB_mem h2, fun d hy hx => hd d hx hy, disjB_mem h7, fun n hn hm => disjB_mem h8 n hm hn⟩⟩
  · rw [hx] at h1; simpa [memB_false] using h1
  · rw [hy] at h3; simpa [memB_false] using h3
theorem checkTr_spec {ops : List Oper} {tr : List Entry} (h : checkTr ops tr = true) : (∀ (i : Nat) o, ops[i]? = some o → ∀ e, e ∈ o.after.toList → Region.binds .any e = true → e.on < i) ∧ (∀ y, y ∈ tr → y.cl = true) ∧
    ∀ x y, x ∈ tr → y ∈ tr → x.i < y.i → Before ops x.i y.i ∨ (Sep x y ∧ Sep y x) := by
  simp only [checkTr, Bool.and_eq_true, List.all_eq_true] at h
  obtain ⟨⟨h1, h2⟩, h3⟩ := h
  refine ⟨fun i o ho e he hb => ?_, h2, fun x y hx hy hlt => ?_⟩
  · have hi : i < ops.length := by
      by_cases q : i < ops.length
      · exact q
      · rw [List.getElem?_eq_none (by omega)] at ho; cases ho
    have := List.all_eq_true.1 h1 i (List.mem_range.2 hi)
    rw [ho] at this
    have := List.all_eq_true.1 this e he
    rw [hb] at this
    simpa using this
  · have := h3 y hy x hx
    simp only [Bool.or_eq_true, Bool.not_eq_true', decide_eq_false_iff_not] at this
    rcases this with (h | h) | h
    · exact absurd hlt h
    · left
      have hm := memB_iff.1 h
      cases hq : (aheadL ops)[y.i]? with
      | none => simp [List.getD, hq] at hm
      | some l =>
        simp [List.getD, hq] at hm
        exact aheadGo_before ops [] rfl (by simp) y.i l hq x.i hm
    · exact .inr (apartB_sep h)

end Go.TL

/- TlAE -/
namespace Go.TL
open Go

variable {P : Program} {E : Env P} {ok : Nat → Prop} {hd : HF} {tm : Nat → Option A} {ob : OF} {w : World} {a : Act} {o : Oper} {tab : TF} {md : MF} {tmps : Array Value}

theorem nub_acc {n : Nat} : ∀ (l acc : List Nat), n ∈ acc → n ∈ nub l acc
  | [], acc, h => h
  | m :: r, acc, h => by
    simp only [nub]
    cases memB m acc with
    | true => exact nub_acc r acc h
    | false => exact nub_acc r _ (List.mem_append_left _ h)
theorem nub_mem {n : Nat} : ∀ (l acc : List Nat), n ∈ l → n ∈ nub l acc
  | [], acc, h => by cases h
  | m :: r, acc, h => by
    simp only [nub]
    rcases List.mem_cons.1 h with e | h
    · subst e
      cases hb : memB n acc with
      | true => exact nub_acc r acc (memB_iff.1 hb)
      | false => exact nub_acc r _ (by simp)
    · cases memB m acc with
      | true => exact nub_mem r acc h
      | false => exact nub_mem r _ h
theorem reach_sub {lk : OF} {n : Nat} : ∀ (k : Nat) (l : List Nat), n ∈ l → n ∈ reach lk k l
  | 0, l, h => h
  | k + 1, l, h => reach_sub k _ (nub_acc _ l h)
theorem trefsOf_mem {t m : Nat} {x : A} (hx : tm t = some x) (hm : m ∈ x.refs) : ∀ {l : List Nat}, t ∈ l → m ∈ trefsOf tm l
  | [], h => by cases h
  | u :: r, h => by
    simp only [trefsOf]
    rcases List.mem_cons.1 h with e | h
    · subst e; rw [hx]; exact List.mem_append_left _ hm
    · have := trefsOf_mem hx hm h
      split
      · exact List.mem_append_right _ this
      · exact this
theorem tmpsOf_mem {t : Nat} : ∀ {l : List Operand}, Operand.tmp t ∈ l → t ∈ tmpsOf l
  | [], h => by cases h
  | .tmp u :: r, h => by
    rcases List.mem_cons.1 h with e | h
    · injection e with e; subst e; exact .head _
    · exact .tail _ (tmpsOf_mem h)
  | .const _ :: r, h => by
    rcases List.mem_cons.1 h with e | h
    · cases e
    · simp only [tmpsOf]; exact tmpsOf_mem h
  | .func _ :: r, h => by
    rcases List.mem_cons.1 h with e | h
    · cases e
    · simp only [tmpsOf]; exact tmpsOf_mem h
  | .global _ :: r, h => by
    rcases List.mem_cons.1 h with e | h
    · cases e
    · simp only [tmpsOf]; exact tmpsOf_mem h
theorem subB_mem : ∀ {l m : List Nat}, subB l m = true → ∀ n, n ∈ l → n ∈ m
  | [], _, _, n, h => by cases h
  | a :: l, m, h, n, hm => by
    simp only [subB, Bool.and_eq_true] at h
    rcases List.mem_cons.1 hm with e | hm
    · subst e; exact memB_iff.1 h.1
    · exact subB_mem h.2 n hm
theorem oref_mem {lk : OF} {n m : Nat} {cs : List V} {fz : Bool} (hn : lk n = some (.box cs fz)) (hm : m ∈ vrefs cs) : ∀ {l : List Nat}, n ∈ l → m ∈ oref lk l
  | [], h => by cases h
  | u :: r, h => by
    simp only [oref]
    rcases List.mem_cons.1 h with e | h
    · subst e; rw [hn]; exact List.mem_append_left _ hm
    · have := oref_mem hn hm h
      split
      · exact List.mem_append_right _ this
      · exact this
theorem slotCl_mem {d : Nat} {rd : List Nat} : ∀ {l : Obs}, slotCl d rd l = true → ∀ n cs fz, (n, Ob.box cs fz) ∈ l → n / 32 = d + 1 → ∀ m, m ∈ vrefs cs → m ∈ rd
  | [], _, n, cs, fz, h => by cases h
  | (i, .row sz es cur tags f) :: r, hb, n, cs, fz, h => by
    rcases List.mem_cons.1 h with e | h
    · cases e
    · exact slotCl_mem (l := r) hb n cs fz h
  | (i, .box c f) :: r, hb, n, cs, fz, h => by
    intro hd m hm
    simp only [slotCl, Bool.and_eq_true, Bool.or_eq_true, Bool.not_eq_true'] at hb
    rcases List.mem_cons.1 h with e | h
    · injection e with e1 e2; injection e2 with e2 e3; subst e1; subst e2
      rcases hb.1 with q | q
      · rw [hd] at q; simp at q
      · exact subB_mem q m hm
    · exact slotCl_mem hb.2 n cs fz h hd m hm
theorem constA_refs {v : Value} {x : A} (h : constA v = some x) : x.refs = [] := by
  unfold constA at h
  split at h
  · injection h with h; subst h; rfl
  · rename_i k n
    cases hb : hasB k n with
    | false => simp [hb] at h
    | true => simp [hb] at h; subst h; rfl
  · rename_i s
    cases hb : leB s.data.toList.length 1000000 with
    | false => rw [hb] at h; cases h
    | true => rw [hb] at h; injection h with h; subst h; rfl
  · injection h with h; subst h; rfl
  · injection h with h; subst h; rfl

theorem look_isSome {α : Type} {m : Nat} {y : α} : ∀ {l : List (Nat × α)}, (m, y) ∈ l → (look l m).isSome = true
  | [], h => by cases h
  | (u, v) :: l, h => by
    by_cases q : u = m
    · simp [look, q]
    · rcases List.mem_cons.1 h with e | h
      · injection e with e; exact absurd e.symm q
      · simp [look, q, look_isSome h]
/-- What is done, of a region. -/
structure Done (P : Program) (E : Env P) (ops : Array Oper) (rs : List Rec) (st0 : St) (D : Nat → Bool) (a : Act) (w : World) : Prop where
  rel : ∃ ok hd, Rel E ok hd (tmF D 0 rs (look st0.tm)) (obF D 0 rs (look st0.ob)) a.tmps w
  defers : a.defers = []
  facts : ∀ (i : Nat) r, rs[i]? = some r → D i = true → r.G
  down : ∀ (i : Nat) o, D i = true → ops.toList[i]? = some o → ∀ e, e ∈ o.after.toList → Region.binds .any e = true → D e.on = true
theorem Done.before {ops : Array Oper} {rs : List Rec} {st0 : St} {D : Nat → Bool} (h : Done P E ops rs st0 D a w) {k j : Nat} (hb : Before ops.toList k j) : D j = true → D k = true := by
  induction hb with
  | one j o e ho he hb => exact fun hj => h.down j o hj ho e he hb
  | more m j o e ho he hb _ ih => exact fun hj => ih (h.down j o hj ho e he hb)

theorem guard_readF {ops : Array Oper} {g t : Nat} {o' : Oper} {b : Bool} (R : Rel E ok hd tm ob a.tmps w) (ho : ops.toList[g]? = some o') (ht : o'.dst = some t) (hb : tm t = some (.one (.t (.bool b)))) (hnt : dstsOk E.nt ops.toList = true) :
    yielded ops a.tmps g = some b := by
  have hv := (R.tms t _ hb).one_inv.bool_inv
  have hog : ops[g]? = ops.toList[g]? := by simp
  have hlt := dstsOk_mem hnt (List.mem_of_getElem? ho) t ht
  have hi : a.tmps[t]? = some (.bool b) := by
    rw [← R.nt] at hlt
    rw [Array.getD_eq_getD_getElem?, Array.getElem?_eq_getElem hlt] at hv
    rw [Array.getElem?_eq_getElem hlt]
    simpa using hv
  simp [yielded, hog, ho, ht, hi]

theorem rel_put {dst : Option Nat} {v : Value} {x : A} (R : Rel E ok hd tm ob a.tmps w) (hx : AR w ok hd ob v x) (hd' : ∀ d, dst = some d → d < E.nt) : Rel E ok hd (setO tm dst x) ob (a.put dst v).tmps w := by
  cases dst with
  | none => exact R
  | some d => exact R.put hx (hd' d rfl)

theorem drawn_step {ops : Array Oper} {st0 fin : St} {rs : List Rec} {es : List Entry} (hT : TabOk P tab) (hnt : dstsOk E.nt ops.toList = true) (hr : Run P tab md ops.toList 0 ops.toList st0 rs es fin) (hc : checkTr ops.toList es.reverse = true)
    {D : Nat → Bool} (h : Done P E ops rs st0 D a w) {i : Nat} (ho : ops[i]? = some o) (hi : D i = false) (hrdy : ∀ e, e ∈ o.after.toList → Region.binds .any e = true → D e.on = true) (next : Act → World → Prop) (Q : Exit → Act → World → Prop)
    (hn : ∀ a' w', Done P E ops rs st0 (fun j => D j || decide (j = i)) a' w' → next a' w') : wpOp P ops Q i next a w := by
  have ho' : ops.toList[i]? = some o := by simpa using ho
  obtain ⟨r, e, st', h1, h2, h3, h4, h5⟩ := hr.at i o ho'
  rw [Nat.zero_add] at h3 h4 h5
  obtain ⟨c1, c2, c3⟩ := checkTr_spec hc
  have hmem := List.mem_of_getElem? ho'
  have hds := dstsOk_mem hnt hmem
  have hem : e ∈ es.reverse := List.mem_reverse.2 (List.mem_of_getElem? h2)
  -- what else is done, or not, has nothing to do with it
  have sep : ∀ (j : Nat) rj, rs[j]? = some rj → D j ≠ decide (j < i) → ∃ ej, Sep ej e ∧ ej.dst = rj.dst ∧ ej.wr = keys rj.wr := by
    intro j rj hj hne
    have hjl : j < ops.toList.length := by
      have := hr.len.1
      by_cases q : j < rs.length
      · omega
      · rw [List.getElem?_eq_none (by omega)] at hj; cases hj
    obtain ⟨rj', ej, stj, g1, g2, g3, _, _⟩ := hr.at j _ (List.getElem?_eq_getElem hjl)
    rw [hj] at g1; injection g1 with g1; subst g1
    rw [Nat.zero_add] at g3
    have hejm : ej ∈ es.reverse := List.mem_reverse.2 (List.mem_of_getElem? g2)
    refine ⟨ej, ?_, by rw [g3.dst, g3.rdst], g3.wr⟩
    by_cases hlt : j < i
    · have hDj : D j = false := by
        cases hq : D j with
        | false => rfl
        | true => rw [hq] at hne; simp [hlt] at hne
      rcases c3 ej e hejm hem (by rw [g3.i, h3.i]; exact hlt) with hb | hs
      · rw [g3.i, h3.i] at hb
        have : D j = true := by
          cases hb with
          | one _ o2 e2 q1 q2 q3 => rw [ho'] at q1; injection q1 with q1; subst q1; exact hrdy e2 q2 q3
          | more _ _ o2 e2 q1 q2 q3 q4 => rw [ho'] at q1; injection q1 with q1; subst q1; exact h.before q4 (hrdy e2 q2 q3)
        rw [hDj] at this; cases this
      · exact hs.1
    · have hDj : D j = true := by
        cases hq : D j with
        | true => rfl
        | false => rw [hq] at hne; simp [hlt] at hne
      have hji : j ≠ i := fun q => by rw [q, hi] at hDj; cases hDj
      rcases c3 e ej hem hejm (by rw [g3.i, h3.i]; omega) with hb | hs
      · rw [g3.i, h3.i] at hb
        have := h.before hb hDj
        rw [hi] at this; cases this
      · exact hs.2
  have agT : ∀ t, t ∈ e.rt → tmF D 0 rs (look st0.tm) t = look st'.tm t := by
    intro t ht
    rw [h4]
    refine tmF_agree rs 0 _ _ (fun j rj hj hne => ?_) rfl
    rw [Nat.zero_add] at hne
    obtain ⟨ej, hs, hd1, _⟩ := sep j rj hj hne
    rw [← hd1]
    exact fun q => hs.rt t q ht
  have agO : ∀ n, (n ∈ e.rd ∨ n / 32 = dstOf o.dst + 1) → look st'.ob n = obF D 0 rs (look st0.ob) n := by
    intro n hn
    rw [h5]
    refine (obF_agree rs 0 _ _ (fun j rj hj hne => ?_) rfl).symm
    rw [Nat.zero_add] at hne
    obtain ⟨ej, hs, _, hw⟩ := sep j rj hj hne
    rw [← hw]
    intro q
    rcases hn with hn | hn
    · exact hs.rd n q hn
    · exact hs.slot n q (by rw [h3.dst]; exact hn)
  -- the state behind it
  have newT : ∀ x, x = r.x → tmF (fun j => D j || decide (j = i)) 0 rs (look st0.tm) = setO (tmF D 0 rs (look st0.tm)) o.dst x := by
    intro x hx
    subst hx
    funext t
    by_cases q : o.dst = some t
    · rw [q, setO_eq]
      refine tmF_at rs 0 i r _ h1 (by simp) (by rw [h3.rdst, q]) fun j rj hij hj hDj => ?_
      rw [Nat.zero_add] at hDj
      have : D j = true := by simpa [show j ≠ i by omega] using hDj
      obtain ⟨ej, hs, hd1, _⟩ := sep j rj hj (by rw [this]; simp; omega)
      rw [← hd1]
      intro q2
      exact hs.dst t q2 (by rw [h3.dst]; exact q)
    · rw [setO_ne q]
      refine tmF_agree rs 0 _ _ (fun j rj hj hne => ?_) rfl
      rw [Nat.zero_add] at hne
      have : j = i := by
        by_cases q2 : j = i
        · exact q2
        · simp [q2] at hne
      subst this
      rw [h1] at hj; injection hj with hj; subst hj
      rw [h3.rdst]; exact q
  have newO : obF (fun j => D j || decide (j = i)) 0 rs (look st0.ob) = updO (obF D 0 rs (look st0.ob)) r.wr := by
    funext n
    cases hl : look r.wr.reverse n with
    | some y =>
      have hnw : n ∈ keys r.wr := by rw [keys_map]; exact List.mem_map.2 ⟨(n, y), List.mem_reverse.1 (look_mem hl), rfl⟩
      rw [obF_at rs 0 i r _ h1 (by simp) hl fun j rj hij hj hDj => ?_]
      · simp [updO, hl]
      · rw [Nat.zero_add] at hDj
        have : D j = true := by simpa [show j ≠ i by omega] using hDj
        obtain ⟨ej, hs, _, hw⟩ := sep j rj hj (by rw [this]; simp; omega)
        rw [← hw]
        intro q
        exact hs.wr n q (by rw [h3.wr]; exact hnw)
    | none =>
      have : updO (obF D 0 rs (look st0.ob)) r.wr n = obF D 0 rs (look st0.ob) n := by simp [updO, hl]
      rw [this]
      refine obF_agree rs 0 _ _ (fun j rj hj hne => ?_) rfl
      rw [Nat.zero_add] at hne
      have : j = i := by
        by_cases q2 : j = i
        · exact q2
        · simp [q2] at hne
      subst this
      rw [h1] at hj; injection hj with hj; subst hj
      rw [keys_map]
      intro hm
      obtain ⟨⟨m, y⟩, hm2, q⟩ := List.mem_map.1 hm
      simp only at q; subst q
      have : (look r.wr.reverse m).isSome = true := by
        exact look_isSome (List.mem_reverse.2 hm2)
      rw [hl] at this; cases this
  have done : ∀ (a' : Act) (w' : World), (∃ ok hd, Rel E ok hd (setO (tmF D 0 rs (look st0.tm)) o.dst r.x) (updO (obF D 0 rs (look st0.ob)) r.wr) a'.tmps w') → a'.defers = [] → r.G → Done P E ops rs st0 (fun j => D j || decide (j = i)) a' w' := by
    intro a' w' hrel hdf hG
    refine ⟨?_, hdf, fun j rj hj hD => ?_, fun j oj hD hoj e2 he2 hb2 => ?_⟩
    · rw [newT r.x rfl, newO]; exact hrel
    · by_cases q : j = i
      · subst q; rw [h1] at hj; injection hj with hj; subst hj; exact hG
      · exact h.facts j rj hj (by simpa [q] using hD)
    · by_cases q : j = i
      · subst q; rw [ho'] at hoj; injection hoj with hoj; subst hoj; simp [hrdy e2 he2 hb2]
      · simp [h.down j oj (by simpa [q] using hD) hoj e2 he2 hb2]
  obtain ⟨ok, hd, R⟩ := h.rel
  have hput : ∀ v, (a.put o.dst v).defers = a.defers := by intro v; cases o.dst <;> rfl
  simp only [wpOp, ho]
  rcases h3.go with ⟨b, hg, ht, hrd, hcl, hh⟩ | ⟨g, want, t, hg, hgt, hb, ht, hx, hwr, hG⟩
  · -- it is carried out
    have hw : Region.wanted o (yielded ops a.tmps) = true := by
      cases hgd : o.guard with
      | none => simp [Region.wanted, hgd]
      | some p =>
        obtain ⟨g, want⟩ := p
        obtain ⟨_, t, q1, q2, q3⟩ := hg g want hgd
        obtain ⟨o', t', g1, g2, g3⟩ := dstsOk_guard hnt hmem hgd
        rw [q1] at g3; injection g3 with g3; injection g3 with g3; subst g3
        have hy := guard_readF R g1 g2 (by rw [agT t q3]; exact q2) hnt
        simp [Region.wanted, hgd, hy]
    rw [if_pos hw]
    refine .inl ?_
    have hcl2 : closedB (look st'.ob) e.rd = true ∧ slotCl (dstOf o.dst) e.rd st'.ob = true := by
      have := c2 e hem
      rw [hcl] at this
      exact bif_and this
    have ag : Ag (fun n => n ∈ e.rd ∨ n / 32 = dstOf o.dst + 1) (look st'.ob) (obF D 0 rs (look st0.ob)) := by
      refine ⟨agO, fun n cs fz hn hx m hm => ?_⟩
      rcases hn with hn | hn
      · exact .inl (subB_mem hcl2.1 m (oref_mem hx hm hn))
      · exact .inl (slotCl_mem hcl2.2 n cs fz (look_mem hx) hn m hm)
    have hρ : ∀ x, x ∈ o.op.operands.toList → ev (look st'.tm) x = ev (tmF D 0 rs (look st0.tm)) x := fun x hx => by
      cases x with
      | tmp t => exact (agT t (ht t (tmpsOf_mem hx))).symm
      | _ => rfl
    have hse : stepE std tab md (dstOf o.dst) o.op o.type (ev (look st'.tm)) (look st'.ob) = stepE std tab md (dstOf o.dst) o.op o.type (ev (tmF D 0 rs (look st0.tm))) (obF D 0 rs (look st0.ob)) := by
      cases hnl : noLk o.op with
      | true => exact stepE_no hnl hρ
      | false =>
        refine stepE_ag ag (fun n hn => .inr hn) hρ (fun x hx y hy m hm => ?_)
        cases x with
        | tmp t =>
          refine .inl ?_
          rw [hrd, rdOf, hnl]
          exact reach_sub 4 _ (nub_mem _ _ (trefsOf_mem hy hm (tmpsOf_mem hx)))
        | const v => rw [constA_refs hy] at hm; cases hm
        | func f => injection hy with hy; subst hy; cases hm
        | global g => cases hy
    rw [hse] at hh
    refine step_sound rfl hT R hh next Q ?_
    rintro av wr ok' hd' v w' ⟨rfl, rfl, hG⟩ R2 hv
    exact hn _ _ (done _ _ ⟨ok', hd', rel_put R2 hv hds⟩ (by rw [hput]; exact h.defers) hG)
  · -- it is passed over
    obtain ⟨o', t', g1, g2, g3⟩ := dstsOk_guard hnt hmem hg
    rw [hgt] at g3; injection g3 with g3; injection g3 with g3; subst g3
    have hw : Region.wanted o (yielded ops a.tmps) = false := by
      rcases hb with hb | hb
      · have hy := guard_readF R g1 g2 (by rw [agT t ht]; exact hb) hnt
        cases want <;> simp [Region.wanted, hg, hy]
      · have hy : yielded ops a.tmps g = none := guard_un g1 g2 (R.tms t _ (by rw [agT t ht]; exact hb)) rfl
        simp [Region.wanted, hg, hy]
    rw [hw]
    refine hn _ _ (done _ _ ⟨ok, hd, ?_⟩ (by rw [hput]; exact h.defers) hG)
    rw [hwr, hx]
    exact rel_put R (.tup [] [] rfl (fun _ _ _ h => by simp at h)) hds

end Go.TL

/- TlAF -/
namespace Go.TL
open Go

variable {P : Program} {E : Env P} {ok : Nat → Prop} {hd : HF} {tm : Nat → Option A} {ob : OF} {w : World} {a : Act} {o : Oper} {tab : TF} {md : MF} {tmps : Array Value}

theorem cnt_one (p p' : Nat → Bool) (i : Nat) (hp : p i = true) (hp' : p' i = false) (h : ∀ j, j ≠ i → p j = p' j) : ∀ n, (List.range n).countP p = (List.range n).countP p' + (if i < n then 1 else 0)
  | 0 => by simp
  | n + 1 => by
    rw [List.range_succ, List.countP_append, List.countP_append, cnt_one p p' i hp hp' h n]
    by_cases e : n = i
    · subst e; simp [hp, hp']
    · rw [List.countP_singleton, List.countP_singleton, h n e]
      by_cases q : i < n
      · simp [q, show i < n + 1 by omega]; omega
      · simp [q, show ¬ i < n + 1 by omega]

theorem drawn_any {ops : Array Oper} {st0 fin : St} {rs : List Rec} {es : List Entry} {Q : Exit → Act → World → Prop} (hT : TabOk P tab) (hnt : dstsOk E.nt ops.toList = true) (hr : Run P tab md ops.toList 0 ops.toList st0 rs es fin) (hc : checkTr ops.toList es.reverse = true)
    (hQ : ∀ a w, (∀ r, r ∈ rs → r.G) → SRel E fin a w → Q .normal a w) : ∀ (fuel : Nat) (listed : Array Bool) (a : Act) (w : World), listed.size = ops.size → (List.range ops.size).countP (fun j => !listed.getD j false) ≤ fuel →
      Done P E ops rs st0 (fun j => listed.getD j false) a w → wpAny P .any ops Q fuel listed a w := by
  have hfin : ∀ (listed : Array Bool) (a : Act) (w : World), listed.size = ops.size → Done P E ops rs st0 (fun j => listed.getD j false) a w → Region.ready .any ops listed = [] → Q .normal a w := by
    intro listed a w hsz h hrd
    obtain ⟨c1, c2, c3⟩ := checkTr_spec hc
    have all : ∀ n j, j < n → j < ops.size → listed.getD j false = true := by
      intro n
      induction n with
      | zero => intro j hj; omega
      | succ n ih =>
        intro j hj hjs
        cases hq : listed.getD j false with
        | true => rfl
        | false =>
          have : j ∈ Region.ready .any ops listed := by
            unfold Region.ready
            rw [List.mem_filter]
            refine ⟨List.mem_range.2 hjs, ?_⟩
            have hlt : j < listed.size := by omega
            have h1 : listed.getD j true = false := by simpa [Array.getD, hlt] using hq
            rw [h1, Array.getElem?_eq_getElem hjs]
            simp only [Bool.not_false, Bool.true_and, Option.map_some, Option.getD_some, Array.all_eq_true]
            intro k hk
            have hjl : ops.toList[j]? = some ops[j] := by simp [hjs]
            have hm : ops[j].after[k] ∈ ops[j].after.toList := by simp
            cases hb : Region.binds .any ops[j].after[k] with
            | false => rfl
            | true =>
              have h2 := c1 j _ hjl _ hm hb
              simp only [Bool.not_true, Bool.false_or]
              exact ih _ (by omega) (by omega)
          rw [hrd] at this; cases this
    obtain ⟨⟨ok, hd, R⟩, hdf, hf, _⟩ := h
    have hl := hr.len.1
    have hlt : ∀ (j : Nat) (r : Rec), rs[j]? = some r → listed.getD j false = true := by
      intro j r hj
      refine all (j + 1) j (by omega) ?_
      by_cases q : j < rs.length
      · simpa [hl] using q
      · rw [List.getElem?_eq_none (by omega)] at hj; cases hj
    refine hQ a w (fun r hr' => ?_) ⟨⟨ok, hd, ?_⟩, hdf⟩
    · obtain ⟨j, hj⟩ := List.getElem?_of_mem hr'
      exact hf j r hj (hlt j r hj)
    · have e1 : look fin.tm = tmF (fun j => listed.getD j false) 0 rs (look st0.tm) := by
        rw [hr.fin.1]; funext t
        exact tmF_agree rs 0 _ _ (fun j r hj hne => by rw [Nat.zero_add] at hne; exact absurd (hlt j r hj).symm hne) rfl
      have e2 : look fin.ob = obF (fun j => listed.getD j false) 0 rs (look st0.ob) := by
        rw [hr.fin.2]; funext n
        exact obF_agree rs 0 _ _ (fun j r hj hne => by rw [Nat.zero_add] at hne; exact absurd (hlt j r hj).symm hne) rfl
      rw [e1, e2]; exact R
  intro fuel
  induction fuel with
  | zero =>
    intro listed a w hsz hcnt h
    have hrd : Region.ready .any ops listed = [] := by
      cases hq : Region.ready .any ops listed with
      | nil => rfl
      | cons i l =>
        have hi : i ∈ Region.ready .any ops listed := by rw [hq]; exact .head _
        unfold Region.ready at hi
        rw [List.mem_filter] at hi
        obtain ⟨h1, h2⟩ := hi
        simp only [Bool.and_eq_true, Bool.not_eq_true'] at h2
        have hlt : i < listed.size := by have := List.mem_range.1 h1; omega
        have : listed.getD i false = false := by simpa [Array.getD, hlt] using h2.1
        have h3 : 0 < (List.range ops.size).countP (fun j => !listed.getD j false) := List.countP_pos_iff.2 ⟨i, h1, by simp only [this, Bool.not_false]⟩
        omega
    exact ⟨hrd, hfin listed a w hsz h hrd⟩
  | succ fuel ih =>
    intro listed a w hsz hcnt h
    refine ⟨hfin listed a w hsz h, fun i hi => ?_⟩
    unfold Region.ready at hi
    rw [List.mem_filter] at hi
    obtain ⟨h1, h2⟩ := hi
    have his := List.mem_range.1 h1
    have hlt : i < listed.size := by omega
    rw [Array.getElem?_eq_getElem his] at h2
    simp only [Bool.and_eq_true, Bool.not_eq_true', Option.map_some, Option.getD_some, Array.all_eq_true] at h2
    obtain ⟨h2, h3⟩ := h2
    have hi0 : listed.getD i false = false := by simpa [Array.getD, hlt] using h2
    refine drawn_step hT hnt hr hc h (Array.getElem?_eq_getElem his) hi0 (fun e he hb => ?_) _ Q fun a' w' h' => ?_
    · obtain ⟨k, hk, rfl⟩ := List.getElem_of_mem he
      have := h3 k (by simpa using hk)
      simp only [Bool.or_eq_true, Bool.not_eq_true'] at this
      rcases this with q | q
      · rw [Array.getElem_toList] at hb; rw [hb] at q; cases q
      · simpa using q
    · have hD : (fun j => listed.getD j false || decide (j = i)) = fun j => (listed.setIfInBounds i true).getD j false := by
        funext j
        by_cases q : j = i
        · subst q; simp [Array.getD, hlt]
        · simp only [Array.getD_eq_getD_getElem?, Array.getElem?_setIfInBounds_ne (Ne.symm q), q, decide_false, Bool.or_false]
      rw [hD] at h'
      refine ih _ a' w' (by simpa using hsz) ?_ h'
      have := cnt_one (fun j => !listed.getD j false) (fun j => !(listed.setIfInBounds i true).getD j false) i (by simp only [hi0, Bool.not_false]) (by simp [Array.getD, hlt]) (fun j hj => by
        rw [← congrFun hD j]; simp [hj]) ops.size
      rw [if_pos his] at this
      omega

theorem drawnP_sound {ops : Array Oper} {K : St → Prop} {Q : Exit → Act → World → Prop} {id : Nat} {st : St} (hM : P.follows .mixedOrders = true) (hT : TabOk P tab) (hnt : dstsOk E.nt ops.toList = true) (hQ : ∀ st a w, K st → SRel E st a w → Q .normal a w)
    (R : SRel E st a w) (h : drawnP std (ACall P) tab md ops.toList 0 (kops ops.toList ops.toList) st [] True K) : (Code.region id ops true).wp P Q a w := by
  obtain ⟨rs, es, fin, h1, h2, h3⟩ := drawnP_run ops.toList 0 st [] True h
  rw [List.append_nil] at h2
  refine wp_region_any hM (drawn_any hT hnt h1 h2 (fun a w hG hR => hQ fin a w (h3 ⟨trivial, hG⟩) hR) ops.size _ a _ (by simp) ?_ ?_)
  · have := List.countP_le_length (p := fun j => !(Array.replicate ops.size false).getD j false) (l := List.range ops.size)
    simpa using this
  · have hD : (fun j => (Array.replicate ops.size false).getD j false) = fun _ => false := by
      funext j
      by_cases q : j < ops.size <;> simp [Array.getD, q]
    rw [hD]
    obtain ⟨⟨ok, hd, R⟩, hdf⟩ := R
    refine ⟨⟨ok, hd, ?_⟩, hdf, fun i r _ h => (by cases h), fun i o h => (by cases h)⟩
    rw [tmF_none rs 0 _ fun _ _ => rfl, obF_none rs 0 _ fun _ _ => rfl]
    exact R.ext (drew_ext w)

end Go.TL

/- TlAG -/
namespace Go.TL
open Go

variable {P : Program} {E : Env P} {ok : Nat → Prop} {hd : HF} {tm : Nat → Option A} {ob : OF} {w : World} {a : Act} {o : Oper} {tab : TF} {md : MF} {tmps : Array Value} {m : Nat}

theorem look_keepT {ks : List Nat} : ∀ {l : Tms} {t : Nat} {x : A}, look (keepT ks l) t = some x → look l t = some x
  | [], t, x, h => by cases h
  | (i, y) :: r, t, x, h => by
    simp only [keepT] at h
    cases hb : memB i ks with
    | true =>
      rw [hb] at h
      by_cases e : i = t
      · simp [look, e] at h ⊢; exact h
      · simp [look, e] at h ⊢; exact look_keepT h
    | false =>
      rw [hb] at h
      have hm := look_keepT h
      by_cases e : i = t
      · subst e
        exfalso
        have : ∀ (l : Tms), look (keepT ks l) i = none := by
          intro l
          induction l with
          | nil => rfl
          | cons p l ih =>
            obtain ⟨u, v⟩ := p
            simp only [keepT]
            by_cases q : u = i
            · subst q; rw [hb]; exact ih
            · cases memB u ks with
              | true => simp [look, q, ih]
              | false => exact ih
        simp only [cond_false] at h
        rw [this] at h; cases h
      · simp [look, e]; exact hm

theorem srel_ren {ρ : List (Nat × Nat)} {ks : List Nat} {st st' : St} (hm : ∀ n, E.ob0 n ≠ none → n < m) (R : SRel E st a w) (h : renS m ρ ⟨keepT ks st.tm, st.ob⟩ = some st') : SRel E st' a w := by
  obtain ⟨⟨ok, hd, R⟩, hdf⟩ := R
  have R' : Rel E ok hd (look (⟨keepT ks st.tm, st.ob⟩ : St).tm) (look (⟨keepT ks st.tm, st.ob⟩ : St).ob) a.tmps w := R.tmsub fun t x hx => look_keepT hx
  exact ⟨⟨ok, _, R'.ren hm h⟩, hdf⟩
theorem cleanP_sound {vars : List Nat} {st : St} {K : St → Prop} (hm : ∀ n, E.ob0 n ≠ none → n < m) (R : SRel E st a w) (h : cleanP m vars st K) : ∃ st', K st' ∧ SRel E st' a w := by
  unfold cleanP at h
  split at h
  · rename_i st' hc
    exact ⟨st', h, srel_ren hm R hc⟩
  · exact h.elim

theorem Rel.retm {t : Nat} {x : A} (R : Rel E ok hd tm ob tmps w) (hx : AR w ok hd ob (tmps.getD t undef) x) : Rel E ok hd (fun u => if u = t then some x else tm u) ob tmps w :=
  { R with
    tms := fun u y hy => by
      by_cases e : u = t
      · subst e
        simp at hy
        rw [← hy]; exact hx
      · simp [e] at hy
        exact R.tms u y hy }

theorem look_putF {α : Type} (l : List (Nat × α)) (d : Nat) (x : α) : look (put l d x) = fun t => if t = d then some x else look l t := funext fun t => look_put l d x t

theorem virt1_sound {st st' : St} {v : Vt} (R : SRel E st a w) (h : virt1 st v = some st') : SRel E st' a w := by
  obtain ⟨⟨ok, hd, R⟩, hdf⟩ := R
  cases v with
  | tmp t j sz n =>
    simp only [virt1] at h
    split at h
    rotate_left
    · cases h
    rename_i x hx
    generalize hq : virtA n [(j, sz)] x = q at h
    obtain ⟨x', vo⟩ := q
    simp only at h
    cases hc : (nodupB (keys vo) && freshB (look st.ob) (keys vo) && posB vo) with
    | false => rw [hc] at h; cases h
    | true =>
      rw [hc] at h
      injection h with h; subst h
      obtain ⟨hc, hc3⟩ := bif_and hc
      obtain ⟨hc1, hc2⟩ := bif_and hc
      have hV := (virtA_rel (w := w) (ok := ok) (hd1 := hd) (ob1 := look st.ob) hq).1
      obtain ⟨hd1, R1, le, _, h2⟩ := R.virt hV hc3 (by rw [nodupB_iff, keys_map] at hc1; exact hc1) (fun n hn => freshB_mem hc2 n (by rw [keys_map]; exact hn))
      have hx1 := (virtA_rel (w := w) (ok := ok) hq).2 _ (R1.tms t x hx) h2
      refine ⟨⟨ok, hd1, ?_⟩, hdf⟩
      simp only [look_putF, look_puts]
      exact R1.retm hx1
  | cell t0 j sz n =>
    simp only [virt1] at h
    split at h
    rotate_left
    · cases h
    rename_i n0 _ _
    split at h
    rotate_left
    · cases h
    rename_i cs hcs
    generalize hq : virtL n [(j, sz)] cs = q at h
    obtain ⟨cs', vo⟩ := q
    simp only at h
    cases hc : (nodupB (keys vo) && freshB (look st.ob) (keys vo) && posB vo && !(memB n0 (keys vo))) with
    | false => rw [hc] at h; cases h
    | true =>
      rw [hc] at h
      injection h with h; subst h
      obtain ⟨hc, hc4⟩ := bif_and hc
      obtain ⟨hc, hc3⟩ := bif_and hc
      obtain ⟨hc1, hc2⟩ := bif_and hc
      have hV := (virtL_rel (w := w) (ok := ok) (hd1 := hd) (ob1 := look st.ob) [(j, sz)] n cs cs' vo hq).1
      obtain ⟨hd1, R1, le, h1, h2⟩ := R.virt hV hc3 (by rw [nodupB_iff, keys_map] at hc1; exact hc1) (fun n hn => freshB_mem hc2 n (by rw [keys_map]; exact hn))
      obtain ⟨_, hl, hr⟩ := virtL_rel (w := w) (ok := ok) (hd1 := hd1) (ob1 := updO (look st.ob) vo) [(j, sz)] n cs cs' vo hq
      have hno : n0 ∉ vo.map (·.1) := by
        rw [← keys_map]
        simp only [Bool.not_eq_true'] at hc4
        exact memB_false.1 hc4
      obtain ⟨e1, e2⟩ := h1 n0 hno
      have hob : updO (look st.ob) vo n0 = some (.box cs false) := by rw [e2]; exact hcs
      have hO := R1.obs n0 _ hob
      have hse : setF hd1 n0 (hd1 n0) = hd1 := by
        funext k; by_cases e : k = n0
        · subst e; simp [setF]
        · simp [setF, e]
      have le2 : Le hd1 (updO (look st.ob) vo) (setF hd1 n0 (hd1 n0)) (setF (updO (look st.ob) vo) n0 (some (.box cs' false))) := by
        rw [hse]
        refine ⟨fun k c f hk => ?_, fun k sz es cur tags f hk => ?_⟩
        · by_cases e : k = n0
          · subst e; exact ⟨cs', false, setF_same _ _ _, rfl⟩
          · exact ⟨c, f, by rw [setF_ne _ _ _ _ e]; exact hk, rfl⟩
        · by_cases e : k = n0
          · subst e; rw [hob] at hk; cases hk
          · exact ⟨es, cur, tags, f, by rw [setF_ne _ _ _ _ e]; exact hk, fun _ h => h, .inl ⟨rfl, rfl⟩⟩
      refine ⟨⟨ok, hd1, ?_⟩, hdf⟩
      simp only [look_putF, look_puts]
      have hO' := hO
      obtain ⟨b, c, e, fr, g1, g2, g3, g4, g5, g6, g7⟩ := hO
      have R2 := R1.turn (h' := hd1 n0) (x' := .box cs' false) hob (Fr.refl _ _) (fun b hb => ⟨.inl hb, (R1.own n0 b (by rw [hob]; simp) hb).2⟩) le2 (by
        refine ⟨b, c, e, fr, g1, g2, g3, g4, g5, by omega, fun i v x p q => ?_⟩
        have := hr c.toList (fun i v x p q => g7 i v x (by simpa using p) q) h2 i v x (by simpa using p) q
        exact this.mono (fun _ h => h) (fun _ _ => rfl) le2)
      rw [hse] at R2
      exact R2
  | tree t =>
    simp only [virt1] at h
    split at h
    rotate_left
    · cases h
    rename_i x hx
    split at h
    rotate_left
    · cases h
    rename_i x' hx'
    injection h with h; subst h
    have R1 := R.freeze x.refs
    refine ⟨⟨frzK ok hd (look st.ob) x.refs, frzH hd x.refs, ?_⟩, hdf⟩
    simp only [look_putF, look_puts]
    rw [updO_frz]
    exact R1.retm ((R.tms t x hx).repF R.toORel hx' fun _ h => h)
theorem virt_sound : ∀ {vl : List Vt} {st st' : St}, SRel E st a w → virt vl st = some st' → SRel E st' a w
  | [], st, st', R, h => by simp only [virt] at h; injection h with h; subst h; exact R
  | v :: l, st, st', R, h => by
    simp only [virt] at h
    split at h
    · rename_i st1 h1; exact virt_sound (virt1_sound R h1) h
    · cases h
theorem nrm_sound {ks : List Nat} {vl : List Vt} {st st' : St} (hm : ∀ n, E.ob0 n ≠ none → n < m) (R : SRel E st a w) (h : nrm m ks vl st = some st') : SRel E st' a w := by
  unfold nrm at h
  split at h
  · rename_i st1 h1; exact srel_ren hm (virt_sound R h1) h
  · cases h

/-- Code's places are those of its frame. -/
def codeOk (nt : Nat) : Code → Bool
  | .region _ ops _ => dstsOk nt ops.toList
  | .seq x y => codeOk nt x && codeOk nt y
  | .cond _ x y => codeOk nt x && codeOk nt y
  | .block _ c => codeOk nt c
  | .loop c => codeOk nt c
  | _ => true

theorem code_sound (hM : P.follows .mixedOrders = true) (hT : TabOk P tab) (hm : ∀ n, E.ob0 n ≠ none → n < m) {vars : List Nat} : ∀ (c : Code), codeOk E.nt c = true → ∀ (st : St) (a : Act) (w : World) (K : Exit → St → Prop) (Q : Exit → Act → World → Prop), SRel E st a w →
    codeP std (ACall P) tab md m vars (kode c) st K → (∀ e st a w, K e st → SRel E st a w → Q e a w) → c.wp P Q a w := by
  intro c
  induction c with
  | skip => intro _ st a w K Q R h hQ; exact wp_skip (hQ _ st a w h R)
  | region id ops draw =>
    intro hok st a w K Q R h hQ
    have hcl : ∀ st a w, cleanP m vars st (K .normal) → SRel E st a w → Q .normal a w := by
      intro st a w h R
      obtain ⟨st', h1, h2⟩ := cleanP_sound hm R h
      exact hQ _ st' a w h1 h2
    cases draw with
    | false =>
      refine wp_region ?_
      have := opsP_sound (P := P) (E := E) (tab := tab) (md := md) hT hok hcl ops.toList 0 rfl st a w R h
      rw [List.range_eq_range']
      rw [Array.length_toList] at this
      exact this
    | true => exact drawnP_sound hM hT hok hcl R h
  | seq x y ihx ihy =>
    intro hok st a w K Q R h hQ
    obtain ⟨h1, h2⟩ := bif_and hok
    refine wp_seq (ihx h1 st a w _ _ R h ?_)
    intro e st' a' w' hk R'
    cases e with
    | normal => exact ihy h2 st' a' w' K Q R' hk hQ
    | exit i => exact hQ _ st' a' w' hk R'
    | ret => exact hQ _ st' a' w' hk R'
    | _ => exact hk.elim
  | cond c x y ihx ihy =>
    intro hok st a w K Q R h hQ
    obtain ⟨h1, h2⟩ := bif_and hok
    cases c with
    | tmp t =>
      simp only [kode, codeP] at h
      split at h
      rotate_left
      · exact h.elim
      rename_i b hb
      obtain ⟨⟨ok, hd, R1⟩, hdf⟩ := R
      have hv := (R1.tms t _ hb).one_inv.bool_inv
      cases b with
      | true => exact wp_cond_true hv (ihx h1 st a w K Q ⟨⟨ok, hd, R1⟩, hdf⟩ h hQ)
      | false => exact wp_cond_false hv (ihy h2 st a w K Q ⟨⟨ok, hd, R1⟩, hdf⟩ h hQ)
    | _ => exact h.elim
  | block id c ih =>
    intro hok st a w K Q R h hQ
    refine wp_block (ih hok st a w _ _ R h ?_)
    intro e st' a' w' hk R'
    cases e with
    | normal => exact hQ _ st' a' w' hk R'
    | exit i =>
      simp only at hk
      simp only [Exit.inBlock]
      by_cases hi : i = id
      · rw [if_pos hi]
        subst hi
        simp at hk
        exact hQ _ st' a' w' hk R'
      · rw [if_neg hi]
        have : eqB i id = false := by
          cases hb : eqB i id with
          | false => rfl
          | true => exact absurd (eq_of_eqB hb) hi
        rw [this] at hk
        exact hQ _ st' a' w' hk R'
    | ret => exact hQ _ st' a' w' hk R'
    | _ => exact hk.elim
  | loop c ih =>
    intro hok st a w K Q R h hQ
    obtain ⟨X, ks, vl, S, φ, μ, x0, h0, h1, step⟩ := h
    have key : ∀ n x a w, μ x < n → φ x → SRel E (S x) a w → Code.rounds P c Q n a w := by
      intro n
      induction n with
      | zero => intro x a w hn; omega
      | succ n ihn =>
        intro x a w hn hx R
        rw [rounds_succ]
        refine ih hok (S x) a w _ _ R (step x hx) ?_
        intro e st' a' w' hk R'
        cases e with
        | normal =>
          obtain ⟨x', q1, q2, q3⟩ := hk
          exact ihn x' a' w' (by omega) q2 (nrm_sound hm R' q1)
        | exit i => exact hQ _ st' a' w' hk R'
        | ret => exact hQ _ st' a' w' hk R'
        | _ => exact hk.elim
    exact wp_loop_rounds (μ x0 + 1) (key _ x0 a w (by omega) h1 (nrm_sound hm R h0))
  | exit id => intro _ st a w K Q R h hQ; exact wp_exit (hQ _ st a w h R)
  | ret => intro _ st a w K Q R h hQ; exact wp_ret (hQ _ st a w h R)
  | _ => intro _ st a w K Q R h hQ; exact h.elim

end Go.TL

/- TlAH -/
namespace Go.TL
open Go

variable {P : Program} {E : Env P} {ok : Nat → Prop} {hd : HF} {tm : Nat → Option A} {ob : OF} {w : World} {a : Act} {o : Oper} {tab : TF} {md : MF} {tmps : Array Value} {m : Nat}

/-- A result's value. -/
def resV (tmps : Array Value) : ResultVar → Sem Value
  | .tmp t => pure (tmps.getD t undef)
  | .cell a t => do loadVar t (← asAddr (tmps.getD a undef))
theorem res_rel (hT : TabOk P tab) (R : Rel E ok hd tm ob tmps w) {r : ResultVar} {x : A} (h : resE tab tm ob r = some x) : ∃ v, (resV tmps r).run P w = .ok v w ∧ AR w ok hd ob v x := by
  cases r with
  | tmp t => exact ⟨_, rfl, R.tms t x h⟩
  | cell t ty =>
    simp only [resE] at h
    split at h
    rotate_left
    · cases h
    rename_i n off hx
    split at h
    rotate_left
    · cases h
    rename_i ti cs fz hti hob
    cases hb : leB (off + ti.size) cs.length with
    | false => rw [hb] at h; cases h
    | true =>
      rw [hb] at h
      injection h with h; subst h
      have hle := le_of_leB hb
      obtain ⟨cs', fz', b, h1, h2, h3⟩ := (R.tms t _ hx).one_inv
      rw [hob] at h1; injection h1 with h1; injection h1 with h1 h1'; subst h1; subst h1'
      obtain ⟨b', c, e, fr, g1, g2, g3, g4, g5, g6, g7⟩ := R.obs n _ hob
      rw [h2] at g1; injection g1 with g1; injection g1 with g1; injection g1 with g1; subst g1
      obtain ⟨v, hr, ha⟩ := load_rel (P := P) (w := w) (ok := ok) (hd := hd) (ob := ob) hT hti (b := b) (off0 := 0) (off := off) (n := cs.length) (f := fun j => c.getD j undef) (cs := cs)
        (fun j hj => by rw [cell_of g4]; simp [Array.getD, show j < c.size by omega]) rfl
        (fun j x hj => by
          have hj' : j < cs.length := by by_cases q : j < cs.length; exact q; rw [List.getElem?_eq_none (by omega)] at hj; cases hj
          exact g7 j _ x (by simp [Array.getD, show j < c.size by omega]) hj) hle
      rw [Nat.zero_add] at hr
      refine ⟨v, ?_, ha⟩
      simp [resV, h3, asAddr, hr]
theorem ress_rel (hT : TabOk P tab) (R : Rel E ok hd tm ob tmps w) : ∀ (rs : List ResultVar) (l : List A), ressE tab tm ob rs = some l → ∃ vs : List Value, (rs.mapM (resV tmps)).run P w = .ok vs w ∧ AL w ok hd ob vs l
  | [], l, h => by simp [ressE] at h; subst h; exact ⟨[], by simp, rfl, by simp⟩
  | r :: rs, l, h => by
    unfold ressE at h
    split at h
    · rename_i x as hx has
      injection h with h; subst h
      obtain ⟨v, h1, h2⟩ := res_rel hT R hx
      obtain ⟨vs, h3, h4⟩ := ress_rel hT R rs as has
      refine ⟨v :: vs, by simp [List.mapM_cons, h1, h3], by simp [h4.len], fun i u y p q => ?_⟩
      cases i with
      | zero => simp at p q; subst p; subst q; exact h2
      | succ i => exact h4.rel i u y (by simpa using p) (by simpa using q)
    · cases h
/-- The results as one value. -/
def outV (vs : List Value) : Value := match vs with
  | [v] => v
  | l => .tuple l.toArray
theorem run_results {fn : Func} {vs : List Value} (h : (fn.results.toList.mapM (resV tmps)).run P w = .ok vs w) : (results fn tmps).run P w = .ok (outV vs) w := by
  have e : results fn tmps = (do let vs ← fn.results.mapM (resV tmps); pure (if h : vs.size = 1 then vs[0] else .tuple vs)) := by
    unfold results
    congr 1
  rw [e, Array.mapM_eq_mapM_toList]
  simp only [Sem.run_bind, Sem.run_pure]
  have : (List.toArray <$> fn.results.toList.mapM (resV tmps)).run P w = .ok vs.toArray w := by
    rw [← bind_pure_comp]
    simp only [Sem.run_bind, h, Result.andThen_ok, Sem.run_pure]
  rw [this]
  simp only [Result.andThen_ok]
  congr 1
  match vs with
  | [] => rfl
  | [v] => rfl
  | v :: u :: l => simp [outV]
theorem out_rel {vs : List Value} {l : List A} (h : AL w ok hd ob vs l) : AR w ok hd ob (outV vs) (outE l) := by
  match vs, l, h with
  | [], [], h => exact .tup [] [] rfl (by simp)
  | [v], [x], h => exact h.rel 0 v x rfl rfl
  | v :: u :: vs, x :: y :: l, h => exact .tup _ _ h.len h.rel
  | [], _ :: _, h => exact absurd h.len (by simp)
  | _ :: _, [], h => exact absurd h.len (by simp)
  | [_], _ :: _ :: _, h => exact absurd h.len (by simp)
  | _ :: _ :: _, [_], h => exact absurd h.len (by simp)

theorem look_startT : ∀ (l : List A) (i t : Nat) (x : A), look (startT i l) t = some x → ∃ j, t = i + j ∧ l[j]? = some x
  | [], i, t, x, h => by cases h
  | y :: l, i, t, x, h => by
    by_cases e : i = t
    · simp [startT, look, e] at h; exact ⟨0, e.symm, by simp [h]⟩
    · simp [startT, look, e] at h
      obtain ⟨j, h1, h2⟩ := look_startT l (i + 1) t x h
      exact ⟨j + 1, by omega, by simpa using h2⟩

/-- What a body hands back. -/
theorem retP_sound {m : Nat} {rm : List (Option (List (Nat × Nat)))} {fn : Func} {K : A → Obs → Prop} {st : St} (hT : TabOk P tab) (hm : ∀ n, E.ob0 n ≠ none → n < m) (hoo : ∀ b, b ∈ E.oo → ∃ n, E.ob0 n ≠ none ∧ b ∈ (E.hd0 n).own)
    (R : Rel E ok hd (look st.tm) (look st.ob) tmps w) (h : retP tab m rm fn.results.toList K st) : ∃ v, (results fn tmps).run P w = .ok v w ∧ ∃ ok' hd' r ob', K r ob' ∧ Ret E.ok0 E.hd0 E.ob0 E.w0 ok' hd' (look ob') w ∧ AR w ok' hd' (look ob') v r := by
  unfold retP at h
  split at h
  rotate_left
  · exact h.elim
  rename_i l hl
  obtain ⟨vs, hrun, hal⟩ := ress_rel hT R _ l hl
  refine ⟨outV vs, run_results hrun, ?_⟩
  split at h
  rotate_left
  · exact h.elim
  rename_i p hp
  cases hc : (nodupB (keys p.vo) && freshB (look st.ob) (keys p.vo) && posB p.vo) with
  | false => rw [hc] at h; exact h.elim
  | true =>
    rw [hc] at h
    simp only [cond_true] at h
    obtain ⟨hc, hc3⟩ := bif_and hc
    obtain ⟨hc1, hc2⟩ := bif_and hc
    have hvn : (p.vo.map (·.1)).Nodup := by rw [nodupB_iff, keys_map] at hc1; exact hc1
    have hvf : ∀ n, n ∈ p.vo.map (·.1) → look st.ob n = none := by
      intro n hn; rw [← keys_map] at hn; exact freshB_mem hc2 n hn
    have hV : Virt p.vo := (pre_rel (FR := p.fr) R.toORel (Le.refl _ _) _ _ _ _ hp (fun _ h => h)).1
    have RF := R.freeze p.fr
    have hvf2 : ∀ n, n ∈ p.vo.map (·.1) → frzO (look st.ob) p.fr n = none := by
      intro n hn
      unfold frzO
      split
      · rw [hvf n hn]; rfl
      · exact hvf n hn
    obtain ⟨hdC, RC, leC, hC1, hC2⟩ := RF.virt hV hc3 hvn hvf2
    obtain ⟨hpl, har⟩ := (pre_rel R.toORel leC _ _ _ _ hp (fun _ h => h)).2 vs hal.rel hC2
    rw [updO_virt_frz hvf hvn] at h
    unfold retP.retN at h
    generalize idR (upto m) ++ numFrom 32 (above m (reach (updO (frzO (look st.ob) p.fr) p.vo) 2 (nub p.own (upto m)))) = ρ at h
    unfold retP.retR at h
    cases hc : (okRen ρ && keepB ρ m) with
    | false => rw [hc] at h; exact h.elim
    | true =>
      rw [hc] at h
      simp only [cond_true] at h
      obtain ⟨h⟩ := h
      obtain ⟨hr1, hr2⟩ := bif_and hc
      have hρ := okRen_iff hr1
      refine ⟨frzK ok hd (look st.ob) p.fr, hdR ρ hdC, _, _, h, ?_, ?_⟩
      · rw [look_renO hρ]
        refine { rel := RC.toORel.ren hρ keep7, os := RC.fr.os, tape := RC.fr.tape, output := RC.fr.output, size := RC.fr.size, block := ?_, okUp := RC.ok0, okSub := ?_, ownSub := ?_, kp := ?_ }
        · intro b hb hn
          refine RC.fr.block b hb fun q => ?_
          obtain ⟨n, h1, h2⟩ := hoo b q
          exact hn n h1 h2
        · intro b hb
          rcases RC.okSub b hb with h | h | h
          · exact .inl h
          · exact .inr (.inl h)
          · exact .inr (.inr (hoo b h))
        · intro n b hn hb
          cases hx : obR ρ keep7 (updO (frzO (look st.ob) p.fr) p.vo) n with
          | none => exact absurd hx hn
          | some x =>
            obtain ⟨k, y, hm', hy, _⟩ := obR_some hρ hx
            rw [hdR_of hρ hm'] at hb
            rcases RC.ownSub k b (by rw [hy]; simp) hb with h | h
            · exact .inl h
            · exact .inr (hoo b h)
        · refine ⟨fun n cs fz hn => ?_, fun n sz es cur tags fz hn => ?_⟩
          · obtain ⟨cs', fz', h1, h2⟩ := RC.kp.box n cs fz hn
            have hm' := look_mem (keepB_get hr2 n (hm n (by rw [hn]; simp)))
            exact ⟨_, fz', by rw [obR_of hρ hm', h1]; rfl, by rw [hdR_of hρ hm']; exact h2⟩
          · obtain ⟨es', cur', tags', fz', h1, h2⟩ := RC.kp.row n sz es cur tags fz hn
            have hm' := look_mem (keepB_get hr2 n (hm n (by rw [hn]; simp)))
            exact ⟨es', keep7 n cur', [keep7 n cur'], fz', by rw [obR_of hρ hm', h1]; rfl, fun q => by rw [hdR_of hρ hm']; exact h2 (keep7_eq q)⟩
      · rw [look_renO hρ]
        refine out_rel ⟨by rw [goRen_len, hpl]; exact hal.len, fun i v x q1 q2 => ?_⟩
        rw [goRen_get] at q2
        cases hx : p.args[i]? with
        | none => rw [hx] at q2; cases q2
        | some y => rw [hx] at q2; injection q2 with q2; subst q2; exact (har i v y q1 hx).ren hρ keep7

/-- Names are below their number. -/
def keysB (m : Nat) : Obs → Bool
  | [] => true
  | (n, _) :: r => ltB n m && keysB m r
theorem keysB_look {m : Nat} : ∀ {l : Obs}, keysB m l = true → ∀ n, look l n ≠ none → n < m
  | [], _, n, h => absurd rfl h
  | (i, x) :: r, hb, n, h => by
    simp only [keysB, Bool.and_eq_true] at hb
    by_cases e : i = n
    · subst e; exact lt_of_ltB hb.1
    · exact keysB_look hb.2 n (by simpa [look, e] using h)

theorem acall_of_body {f : Nat} {fn : Func} {c : Code} {args : List A} {ob : Obs} {K : A → Obs → Prop} {rm : List (Option (List (Nat × Nat)))} {vars : List Nat} (hM : P.follows .mixedOrders = true) (hT : TabOk P tab) (hf : P.funcs[f]? = some fn) (hb : fn.body = some c)
    (hn : fn.name ≠ "runtime.NumGoroutine") (hok : codeOk (args.length + (fn.ntmps - args.length)) c = true) (hk : keysB ob.length ob = true) (h : runP std (ACall P) tab md rm vars (kode c) fn.results.toList args ob K) : ACall P f args ob K := by
  intro w ok hd vs G R hl ha o a next Qx hnext
  have hrun : (callFunc f vs.toArray).run P w = .ok (.enter f vs.toArray) w := by
    simp [callFunc, hf, hn, hb]
  rw [hrun, Oper.upon_enter]
  let E : Env P := ⟨w, ok, (List.range ob.length).flatMap (fun n => if (look ob n).isSome then (hd n).own else []), hd, look ob, args.length + (fn.ntmps - args.length), G, fun b hb => ⟨R.okLt b hb, fun hm => by
    obtain ⟨n, _, hb2⟩ := List.mem_flatMap.1 hm
    cases hs : look ob n with
    | none => rw [hs] at hb2; simp at hb2
    | some x =>
      rw [hs] at hb2
      exact (R.own n b (by rw [hs]; simp) (by simpa using hb2)).1 hb⟩⟩
  have hm : ∀ n, E.ob0 n ≠ none → n < ob.length := keysB_look hk
  have hoo : ∀ b, b ∈ E.oo → ∃ n, E.ob0 n ≠ none ∧ b ∈ (E.hd0 n).own := by
    intro b hb
    obtain ⟨n, _, hb2⟩ := List.mem_flatMap.1 hb
    cases hs : look ob n with
    | none => rw [hs] at hb2; simp at hb2
    | some x =>
      rw [hs] at hb2
      exact ⟨n, by show look ob n ≠ none; rw [hs]; simp, by simpa using hb2⟩
  have hoo2 : ∀ n b, E.ob0 n ≠ none → b ∈ (E.hd0 n).own → b ∈ E.oo := by
    intro n b hn hb
    refine List.mem_flatMap.2 ⟨n, List.mem_range.2 (hm n hn), ?_⟩
    cases hs : look ob n with
    | none => exact absurd hs hn
    | some x => simpa using hb
  have R0 : Rel E ok hd (look (startT 0 args)) (look ob) (vs.toArray ++ Array.replicate (fn.ntmps - vs.toArray.size) undef) w := {
    toORel := R
    fr := Fr.refl _ _
    ok0 := fun _ h => h
    okSub := fun _ h => .inl h
    ownSub := fun n b h1 h2 => .inr (hoo2 n b h1 h2)
    nt := by simp [hl, E]
    kp := Keep.refl _ _
    tms := fun t x hx => by
      obtain ⟨j, rfl, hj⟩ := look_startT args 0 t x hx
      rw [Nat.zero_add]
      have hjl : j < vs.length := by
        rw [hl]
        by_cases q : j < args.length
        · exact q
        · rw [List.getElem?_eq_none (by omega)] at hj; cases hj
      have := ha j _ x (List.getElem?_eq_getElem hjl) hj
      simpa [Array.getD_eq_getD_getElem?, Array.getElem?_append_left, hjl] using this }
  refine calls_of_wp hf hb (code_sound (E := E) hM hT hm c hok ⟨startT 0 args, ob⟩ ⟨_, []⟩ w _ _ ⟨⟨ok, hd, R0⟩, rfl⟩ h ?_)
  have fin : ∀ (st : St) (a' : Act) (w' : World), retP tab ob.length rm fn.results.toList K st → SRel E st a' w' → a'.defers = [] ∧ ∃ v, (results fn a'.tmps).run P w' = .ok v w' ∧ next (a.put o.dst v) w' := by
    intro st a' w' hk R'
    obtain ⟨⟨ok', hd', R'⟩, hdf⟩ := R'
    obtain ⟨v, h1, ok2, hd2, r, ob', h2, h3, h4⟩ := retP_sound (E := E) hT hm hoo R' hk
    exact ⟨hdf, v, h1, hnext v w' ⟨ok2, hd2, r, ob', h2, h3, h4⟩⟩
  intro e st a' w' hk R'
  cases e with
  | normal => exact fin st a' w' hk R'
  | ret => exact fin st a' w' hk R'
  | _ => exact hk.elim

/-- A body's places are those of its frame. -/
def bodyOk (n : Nat) (fn : Func) : Bool := (match fn.body with
  | some c => codeOk (n + (fn.ntmps - n)) c
  | none => false) && fn.name != "runtime.NumGoroutine"
/-- A contract, by the evaluation of the body: the operations on numbers and lists stay closed while it runs. -/
theorem acall_fn {f : Nat} {fn : Func} {args : List A} {ob : Obs} {K : A → Obs → Prop} (rm : List (Option (List (Nat × Nat)))) (vars : List Nat) (hM : P.follows .mixedOrders = true) (hT : TabOk P tab) (hf : P.funcs[f]? = some fn) (n : Nat) (hn : args.length = n) (hok : bodyOk n fn = true)
    (hk : keysB ob.length ob = true) (h : ∀ ar, ar = std → bodyP ar (ACall P) tab md rm vars fn args ob K) : ACall P f args ob K := by
  have h := h std rfl
  unfold bodyP at h
  subst hn
  unfold bodyOk at hok
  obtain ⟨h1, h2⟩ := bif_and hok
  split at h
  · rename_i c hc
    rw [hc] at h1
    exact acall_of_body hM hT hf hc (by simpa using h2) h1 hk h
  · exact h.elim

end Go.TL

/- TlAI -/
namespace Go.TL
open Go

def zeroB : Value → V → Bool
  | .int k n, .t (.int k' n') => decide (k = k') && decide (n = n') && hasB k n
  | .bool b, .t (.bool b') => b == b'
  | .string s, .t (.str l) => s.size == 0 && l.isEmpty
  | .slice none 0 0, .nil => true
  | .func _ _ _, .any => true
  | .nilFunc, .any => true
  | _, _ => false
theorem zeroB_sound {v : Value} {x : V} (h : zeroB v x = true) : zeroR v x := by
  unfold zeroB at h
  split at h
  · simp only [Bool.and_eq_true, decide_eq_true_eq] at h
    obtain ⟨⟨rfl, rfl⟩, h⟩ := h
    exact ⟨rfl, rfl, hasB_sound h⟩
  · simpa [zeroR] using h
  · rename_i s l
    simp only [Bool.and_eq_true, beq_iff_eq, List.isEmpty_iff] at h
    obtain ⟨h1, rfl⟩ := h
    refine ⟨?_, h1⟩
    have : s.data.toList.length = 0 := by simpa using h1
    exact List.length_eq_zero_iff.1 this
  · trivial
  · trivial
  · trivial
  · cases h
def zerosB : List Value → List V → Bool
  | [], [] => true
  | v :: vs, x :: xs => zeroB v x && zerosB vs xs
  | _, _ => false
theorem zerosB_sound : ∀ {vs : List Value} {xs : List V}, zerosB vs xs = true → vs.length = xs.length ∧ ∀ (j : Nat) v x, vs[j]? = some v → xs[j]? = some x → zeroR v x
  | [], [], _ => ⟨rfl, by simp⟩
  | v :: vs, x :: xs, h => by
    simp only [zerosB, Bool.and_eq_true] at h
    obtain ⟨i1, i2⟩ := zerosB_sound h.2
    refine ⟨by simp [i1], fun j u y p q => ?_⟩
    cases j with
    | zero => simp at p q; subst p; subst q; exact zeroB_sound h.1
    | succ j => exact i2 j u y (by simpa using p) (by simpa using q)
  | [], _ :: _, h => by cases h
  | _ :: _, [], h => by cases h
def fieldsB (P : Program) : List Field → List (Nat × Nat) → Bool
  | [], [] => true
  | f :: r, (o, t) :: s => f.offset == o && f.type == t && !(P.cellsOf f.type == 0) && fieldsB P r s
  | _, _ => false
theorem fieldsB_sound {P : Program} : ∀ {l : List Field} {s : List (Nat × Nat)}, fieldsB P l s = true → l.map (fun f => (f.offset, f.type)) = s ∧ ∀ f, f ∈ l → P.cellsOf f.type ≠ 0
  | [], [], _ => ⟨rfl, by simp⟩
  | f :: r, (o, t) :: s, h => by
    simp only [fieldsB, Bool.and_eq_true, beq_iff_eq, Bool.not_eq_true', beq_eq_false_iff_ne] at h
    obtain ⟨⟨⟨rfl, rfl⟩, h3⟩, h4⟩ := h
    obtain ⟨i1, i2⟩ := fieldsB_sound h4
    refine ⟨by simp [i1], fun g hg => ?_⟩
    rcases List.mem_cons.1 hg with e | hg
    · subst e; exact h3
    · exact i2 g hg
  | [], _ :: _, h => by cases h
  | _ :: _, [], h => by cases h
def kdB (P : Program) : Kd → TypeDesc → Bool
  | .int k, .int k' => decide (k = k')
  | .bool, .bool => true
  | .str, .string => true
  | .slice e, .slice e' => e == e'
  | .struct fs, .struct a => fieldsB P a.toList fs
  | .array n e, .array n' e' => n == n' && e == e'
  | .tuple _, _ => true
  | .other, _ => true
  | _, _ => false
theorem kdB_sound {P : Program} {k : Kd} {d : TypeDesc} (h : kdB P k d = true) : kdR P k d := by
  unfold kdB at h
  split at h
  · simp only [decide_eq_true_eq] at h; subst h; rfl
  · rfl
  · rfl
  · simp only [beq_iff_eq] at h; subst h; rfl
  · rename_i fs a
    obtain ⟨h1, h2⟩ := fieldsB_sound h
    exact ⟨a, rfl, h1, h2⟩
  · simp only [Bool.and_eq_true, beq_iff_eq] at h; obtain ⟨rfl, rfl⟩ := h; rfl
  · trivial
  · trivial
  · cases h
def aggB : TypeDesc → Bool
  | .struct _ => true
  | .array _ _ => true
  | _ => false
def tiB (P : Program) (t : Nat) (ti : TI) : Bool :=
  (match P.info? t with
    | some i => i.size == ti.size && i.bytes == ti.bytes && (match ti.zero with
      | none => true
      | some z => (match i.zero with
        | some zv => zerosB zv.cells.toList z && z.length == ti.size
        | none => false))
    | none => false) &&
  (match P.underlying t with
    | some d => kdB P ti.kd d && ti.agg == aggB d
    | none => false) && (ti.agg || ti.size == 1)
theorem tiB_sound {P : Program} {t : Nat} {ti : TI} (h : tiB P t ti = true) : TIok P t ti := by
  simp only [tiB, Bool.and_eq_true] at h
  obtain ⟨⟨h1, h2⟩, h3⟩ := h
  refine ⟨?_, ?_, fun ha => ?_⟩
  · split at h1
    · rename_i i hi
      simp only [Bool.and_eq_true, beq_iff_eq] at h1
      obtain ⟨⟨q1, q2⟩, q3⟩ := h1
      refine ⟨i, hi, q1, q2, fun z hz => ?_⟩
      rw [hz] at q3
      simp only at q3
      split at q3
      · rename_i zv hzv
        simp only [Bool.and_eq_true, beq_iff_eq] at q3
        obtain ⟨i1, i2⟩ := zerosB_sound q3.1
        exact ⟨zv, hzv, by simpa using i1, q3.2, fun j v x p q => i2 j v x (by simpa using p) q⟩
      · cases q3
    · cases h1
  · split at h2
    · rename_i d hd
      simp only [Bool.and_eq_true, beq_iff_eq] at h2
      refine ⟨d, hd, kdB_sound h2.1, ?_⟩
      rw [h2.2]
      cases d <;> rfl
    · cases h2
  · rw [ha] at h3; simpa using h3
def Tab.allB (f : Nat → TI → Bool) : Tab → Bool
  | .leaf => true
  | .node l k i r => f k i && l.allB f && r.allB f
theorem Tab.all_find {f : Nat → TI → Bool} {n : Nat} {ti : TI} : ∀ {t : Tab}, t.allB f = true → t.find n = some ti → f n ti = true
  | .leaf, _, h => by cases h
  | .node l k i r, ha, h => by
    simp only [Tab.allB, Bool.and_eq_true] at ha
    obtain ⟨⟨h1, h2⟩, h3⟩ := ha
    simp only [Tab.find] at h
    cases hb : eqB n k with
    | true =>
      rw [hb] at h
      injection h with h
      rw [eq_of_eqB hb, ← h]; exact h1
    | false =>
      rw [hb] at h
      cases hl : leB n k with
      | true => rw [hl] at h; exact Tab.all_find h2 h
      | false => rw [hl] at h; exact Tab.all_find h3 h
theorem tabOk_of {P : Program} {tab : Tab} (h : tab.allB (tiB P) = true) : TabOk P fun n => tab.find n := fun _ _ hf => tiB_sound (Tab.all_find h hf)

end Go.TL

/- TlAJ -/
namespace Go.TL
open Go

theorem std_iop {ar : Ar} (h : ar = std) (op : BinOp) (k : IntKind) (a b : Int) : ar.iop op k a b = iopS op k a b := by rw [h]; rfl
theorem std_icmp {ar : Ar} (h : ar = std) (op : BinOp) (a b : Int) : ar.icmp op a b = icmpS op a b := by rw [h]; rfl

/-- A branch. -/
theorem br_intro : ∀ {b : Bool} {X Y : Prop}, (b = true → X) → (b = false → Y) → (match b with | true => X | false => Y)
  | true, _, _, h1, _ => h1 rfl
  | false, _, _, _, h2 => h2 rfl

end Go.TL

/- TlAK -/
namespace Go.TL
open Go

section
variable {P : Program} {f : Nat} {args : List A} {ob : Obs} {K K' : A → Obs → Prop}

theorem call_intro (h : ACall P f args ob K) (hk : ∀ r ob', K r ob' → K' r ob') : CallP (ACall P) f args ob K' := ⟨h.mono hk⟩
theorem calld_intro {r : A} {ob' : Obs} (h : ACall P f args ob fun x y => x = r ∧ y = ob') (hk : K' r ob') : CallD (ACall P) f args ob K' := ⟨r, ob', h, hk⟩

/-- A contract out of what the kit says of a call. -/
theorem acall_calls {fn : Func} (hf : P.funcs[f]? = some fn) (hb : fn.body.isSome = true) (hn : fn.name ≠ "runtime.NumGoroutine")
    (h : ∀ (w : World) (ok : Nat → Prop) (hd : HF) (vs : List Value), Gl P w ok → ORel ok hd (look ob) w → vs.length = args.length → (∀ (i : Nat) v x, vs[i]? = some v → args[i]? = some x → AR w ok hd (look ob) v x) →
      Calls P f vs.toArray w fun e w' => ∃ v, e = .returned v ∧ ∃ ok' hd' r ob', K r ob' ∧ Ret ok hd (look ob) w ok' hd' (look ob') w' ∧ AR w' ok' hd' (look ob') v r) : ACall P f args ob K := by
  intro w ok hd vs G R hl ha o a next Qx hnext
  obtain ⟨c, hc⟩ := Option.isSome_iff_exists.1 hb
  have hrun : (callFunc f vs.toArray).run P w = .ok (.enter f vs.toArray) w := by
    simp [callFunc, hf, hn, hc]
  rw [hrun, Oper.upon_enter]
  refine (h w ok hd vs G R hl ha).mono ?_
  rintro e w' ⟨v, rfl, h⟩
  exact hnext v w' h
end

/-- What the kit is told of a call, out of a contract. -/
theorem calls_acall {P : Program} {f : Nat} {args : List A} {ob : Obs} {K : A → Obs → Prop} {fn : Func} (hf : P.funcs[f]? = some fn) (hb : fn.body.isSome = true) (hn : fn.name ≠ "runtime.NumGoroutine") (h : ACall P f args ob K)
    {w : World} {ok : Nat → Prop} {hd : HF} {vs : List Value} (G : Gl P w ok) (R : ORel ok hd (look ob) w) (hl : vs.length = args.length) (ha : ∀ (i : Nat) v x, vs[i]? = some v → args[i]? = some x → AR w ok hd (look ob) v x)
    {Q : Ending → World → Prop} (hQ : ∀ v w' ok' hd' r ob', K r ob' → Ret ok hd (look ob) w ok' hd' (look ob') w' → AR w' ok' hd' (look ob') v r → Q (.returned v) w') : Calls P f vs.toArray w Q := by
  obtain ⟨c, hc⟩ := Option.isSome_iff_exists.1 hb
  have hrun : (callFunc f vs.toArray).run P w = .ok (.enter f vs.toArray) w := by
    simp [callFunc, hf, hn, hc]
  have hc := h w ok hd vs G R hl ha { dst := some 0, op := .move (.const undef), type := 0, pos := default, after := #[], guard := none } ⟨#[undef], []⟩ (fun a w' => Q (.returned (a.tmps.getD 0 undef)) w') (fun _ _ _ => False)
    (fun v w' ⟨ok', hd', r, ob', h1, h2, h3⟩ => by simpa [Act.put] using hQ v w' ok' hd' r ob' h1 h2 h3)
  rw [hrun, Oper.upon_enter] at hc
  refine hc.mono ?_
  rintro e w' h
  match e, h with
  | .returned v, h => simpa [Act.put] using h
  | .panicked _, h => exact h.elim
  | .outgrown, ⟨_, _, h⟩ => exact h.elim
section
/-! Loops by what they turn. -/
/-- A state with what a loop turns. -/
def updS (s0 : St) (u : Tms × Obs) : St := ⟨puts s0.tm u.1, puts s0.ob u.2⟩
inductive LoopR (m : Nat) (ks : List Nat) (vl : List Vt) (body : St → (Exit → St → Prop) → Prop) (s0 : St) (K : Exit → St → Prop) : Prop where
  | mk (X : Type) (U : X → Tms × Obs) (φ : X → Prop) (μ : X → Nat) (x0 : X) (h0 : s0 = updS s0 (U x0)) (h1 : φ x0)
      (step : ∀ x, φ x → body (updS s0 (U x)) fun e s' => match e with
        | .normal => BackP m ks vl (fun x => updS s0 (U x)) φ μ x s'
        | .exit i => K (.exit i) s'
        | .ret => K .ret s'
        | _ => False)
def tkeys : Tms → List Nat
  | [] => []
  | (i, _) :: r => i :: tkeys r
def minus (ds : List Nat) : List Nat → List Nat
  | [] => []
  | i :: r => match memB i ds with
    | true => minus ds r
    | false => i :: minus ds r
def loopQ (m : Nat) (vl : List Vt) (body : St → (Exit → St → Prop) → Prop) (st : St) (K : Exit → St → Prop) (ks : List Nat) : Prop :=
  match nrm m ks vl st with
  | some s0 => LoopR m ks vl body s0 K
  | none => False
/-- A loop's head: its temporaries but for those that are named. -/
theorem loop_start (ds : List Nat) (vl : List Vt) {m : Nat} {body : St → (Exit → St → Prop) → Prop} {st : St} {K : Exit → St → Prop} (h : loopQ m vl body st K (minus ds (tkeys st.tm))) : LoopP m body st K := by
  unfold loopQ at h
  split at h
  · rename_i s0 h0
    obtain ⟨X, U, φ, μ, x0, e0, h1, step⟩ := h
    exact ⟨X, _, vl, fun x => updS s0 (U x), φ, μ, x0, by rw [h0, ← e0], h1, step⟩
  · exact h.elim
end
section
variable {P : Program} {f : Nat} {args : List A} {ob : Obs} {K : A → Obs → Prop}
/-- A contract of what is told of a function that has no text here. -/
theorem acall_extern {fn : Func} {e : Array Value → Sem Value} (hf : P.funcs[f]? = some fn) (hb : fn.body.isNone = true) (hn : fn.name ≠ "runtime.NumGoroutine") (h1 : Extern.findNext fn = none) (h2 : Extern.find fn = some e)
    (h : ∀ (w : World) (ok : Nat → Prop) (hd : HF) (vs : List Value), ORel ok hd (look ob) w → vs.length = args.length → (∀ (i : Nat) v x, vs[i]? = some v → args[i]? = some x → AR w ok hd (look ob) v x) →
      ∃ v r, (e vs.toArray).run P w = .ok v w ∧ K r ob ∧ AR w ok hd (look ob) v r) : ACall P f args ob K := by
  intro w ok hd vs G R hl ha o a next Qx hnext
  obtain ⟨v, r, hr, hk, hv⟩ := h w ok hd vs R hl ha
  have hrun : (callFunc f vs.toArray).run P w = .ok (.value v) w := by
    have hb2 : fn.body = none := by simpa using hb
    simp [callFunc, hf, hn, hb2, h1, h2, hr]
  rw [hrun]
  exact hnext v w ⟨ok, hd, r, ob, hk, ⟨R, rfl, rfl, rfl, Nat.le_refl _, fun b hb hx => rfl, fun b hb => hb, fun b hb => .inl hb, fun n b hn hb => .inr ⟨n, hn, hb⟩, Keep.refl _ _⟩, hv⟩
end

end Go.TL
