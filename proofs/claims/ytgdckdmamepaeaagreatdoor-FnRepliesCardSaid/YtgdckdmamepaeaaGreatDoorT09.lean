/- Texts of a proof, joined by a program (merge.py): TfItoT TfTxI TfTxR TfTrL TfMoD TfMoE. -/
import Derived.Test.YtgdckdmamepaeaaGreatDoorT08
import Derived.Lib.ItoaLen
set_option linter.all false
/- TfItoT -/
namespace Go.TL.Tryz
open Go Go.TL Go.Proofs Go.RowKit Go.Sort
set_option maxRecDepth 20000

theorem acall_pure {P : Program} {f : Nat} {fn : Func} {args : List A} {K : A → Obs → Prop} (hf : P.funcs[f]? = some fn) (hb : fn.body.isSome = true) (hn : fn.name ≠ "runtime.NumGoroutine")
    (h : ∀ (w : World) (ok : Nat → Prop) (hd : HF) (vs : List Value), Gl P w ok → (∀ b, ok b → b < w.heap.size) → vs.length = args.length → (∀ (i : Nat) v x, vs[i]? = some v → args[i]? = some x → AR w ok hd (look []) v x) →
      Calls P f vs.toArray w fun e w' => ∃ v t, e = .returned v ∧ Below w.heap.size w w' ∧ (∀ w'', Rep w'' ok v t) ∧ K (.one (.t t)) []) : ACall P f args [] K := by
  refine acall_calls hf hb hn ?_
  intro w ok hd vs G R hl ha
  refine (h w ok hd vs G R.okLt hl ha).mono ?_
  rintro e w' ⟨v, t, rfl, hb, hr, hk⟩
  refine ⟨_, rfl, ok, hd, _, [], hk, ?_, .one _ _ (hr w')⟩
  exact ⟨⟨fun b hb' => Nat.lt_of_lt_of_le (R.okLt b hb') hb.size, fun n b h => absurd rfl h, fun n m b _ h => absurd rfl h, fun n o h => by cases h⟩, hb.os, hb.tape, hb.output, hb.size, fun b h1 _ => hb.block b h1, fun _ h => h, fun _ h => .inl h, fun n b h => absurd rfl h, TL.Keep.refl _ _⟩
theorem rep_string (l : List UInt8) (h : l.length ≤ 2 ^ 63 - 1) (w : World) (ok : Nat → Prop) : Rep w ok (.string ⟨l.toArray⟩) (.str l) := by
  have := Rep.str (w := w) (ok := ok) ⟨l.toArray⟩ (by simpa [ByteArray.size] using h)
  simpa using this
theorem drewN_heap (w : World) (k : Nat) : (w.drewN k).heap = w.heap ∧ (w.drewN k).os = w.os ∧ (w.drewN k).tape = w.tape ∧ (w.drewN k).output = w.output := by
  exact ⟨rfl, rfl, rfl, rfl⟩
theorem below_grow (w : World) (k : Nat) (os : Array Obj) : Below w.heap.size w (grow (w.drewN k) os) :=
  ⟨rfl, rfl, rfl, by simp [grow, (drewN_heap w k).1], fun i hi => by simp only [grow, (drewN_heap w k).1]; rw [Array.getElem?_append_left hi]⟩
theorem pow10_eq : Lib.pow10Tab = pow10L := by decide +kernel
theorem iItoa {P : Program} (hP : Prg P) {n : Int} : ACall P 40 [.one (.t (.int .i64 n))] [] (fun r ob => r = .one (.t (.str (Lib.itoa n))) ∧ ob = []) := by
  have hP := hP.eq
  subst hP
  refine acall_pure Tryz.func40 (by rfl) (by decide) ?_
  intro w ok hd vs G hlt hl ha
  obtain ⟨v, rfl⟩ : ∃ v, vs = [v] := by
    match vs, hl with
    | [v], _ => exact ⟨v, rfl⟩
  have hv := (ha 0 v _ rfl rfl).one_inv
  cases hv with
  | int _ _ hk =>
    obtain ⟨h0, h1⟩ := i64_rng hk
    obtain ⟨g, hg⟩ : ∃ g, Tryz.prog.globalNamed "internal/strconv.uint64pow10" = some g := ⟨_, by rfl⟩
    have htab : Lib.TabIs Tryz.prog w "internal/strconv.uint64pow10" .u64 Lib.pow10Tab := by
      have := (G g hg).2
      rw [Lib.TabIs, pow10_eq]; exact this
    refine (Tryz.strconv_Itoa n h0 h1 w htab).mono ?_
    rintro e w' ⟨rfl, k, os, rfl⟩
    exact ⟨_, _, rfl, below_grow w k os, fun w'' => rep_string _ (by have := Lib.itoa_length_le n h0 h1; omega) w'' ok, rfl, rfl⟩
theorem dec_digits (u : Nat) : ∀ x, x ∈ Lib.decDigits u → 48 ≤ iB x ∧ iB x ≤ 57 := by
  induction u using Nat.strongRecOn with
  | _ u ih =>
    intro x hx
    have key : ∀ d : Nat, d < 10 → 48 ≤ iB (UInt8.ofNat (48 + d)) ∧ iB (UInt8.ofNat (48 + d)) ≤ 57 := by
      intro d hd
      simp only [iB, UInt8.toNat_ofNat']; omega
    rw [Lib.decDigits] at hx
    split at hx
    · rw [List.mem_singleton] at hx; subst hx; exact key u (by assumption)
    · rcases List.mem_append.1 hx with h | h
      · exact ih (u / 10) (by omega) x h
      · rw [List.mem_singleton] at h; subst h; exact key (u % 10) (by omega)
theorem itoa_chars {n : Int} : ∀ x, x ∈ Lib.itoa n → 45 ≤ iB x ∧ iB x ≤ 57 := by
  intro x hx
  unfold Lib.itoa at hx
  split at hx
  · rcases List.mem_cons.1 hx with e | h
    · subst e; decide
    · have := dec_digits _ x h; omega
  · have := dec_digits _ x hx; omega
theorem itoa_len {n : Int} (h : IntKind.i64.has n) : (Lib.itoa n).length ≤ 21 := Lib.itoa_length_le n (i64_rng h).1 (i64_rng h).2

theorem rep_str_inv {w : World} {ok : Nat → Prop} {v : Value} {s : List UInt8} (h : Rep w ok v (.str s)) : v = .string ⟨s.toArray⟩ := by
  cases h with
  | str b hb => congr
theorem iJoin {P : Program} (hP : Prg P) {l : List (List UInt8)} {ws : List (List T)} {sep : List UInt8} (hl : encS l = ws) (hn : l.length ≤ 100) (hb : (Lib.join l sep).length ≤ 1000000) :
    ACall P 196 [.one (.t (.sl ws)), .one (.t (.str sep))] [] (fun r ob => r = .one (.t (.str (Lib.join l sep))) ∧ ob = []) := by
  have hP := hP.eq
  subst hP
  refine acall_pure Tryz.func196 (by rfl) (by decide) ?_
  intro w ok hd vs G hlt hvl ha
  obtain ⟨v, u, rfl⟩ : ∃ v u, vs = [v, u] := by
    match vs, hvl with
    | [v, u], _ => exact ⟨v, u, rfl⟩
  have hv : Rep w ok v (.sl ws) := (ha 0 v _ rfl rfl).one_inv
  have hu := rep_str_inv (show Rep w ok u (.str sep) from (ha 1 u _ rfl rfl).one_inv)
  subst hu
  subst hl
  have hml : (l.map fun s => (⟨s.toArray⟩ : ByteArray)).map (·.data.toList) = l := by
    rw [List.map_map]; exact List.map_id'' (fun s => by simp) l
  generalize hes : encS l = es at hv
  cases hv with
  | snil =>
    have : l = [] := by simpa [encS] using hes
    subst this
    refine (Tryz.strings_Join_none none 0 ⟨sep.toArray⟩ w).mono ?_
    rintro e w' ⟨rfl, rfl⟩
    exact ⟨_, _, rfl, Below.refl _ _, fun w'' => rep_string [] (by simp) w'' ok, rfl, rfl⟩
  | sl b off cap sz _ vs hm hcap hsz hok hc hr =>
    have hel : es.length = l.length := encS_len hes
    have := Tryz.strings_Join b off cap (l.map fun s => (⟨s.toArray⟩ : ByteArray)) ⟨sep.toArray⟩ w ?_ (hlt b hok) (by simp; omega) (by simp; omega) (by rw [hml]; simpa using Nat.le_trans hb (by decide))
    · rw [hml, List.length_map, ← hel] at this
      refine this.mono ?_
      rintro e w' ⟨rfl, hB⟩
      exact ⟨_, _, rfl, hB, fun w'' => rep_string _ (by simp; omega) w'' ok, rfl, rfl⟩
    · intro j x hj
      rw [List.getElem?_map] at hj
      cases hs : l[j]? with
      | none => rw [hs] at hj; cases hj
      | some s =>
        rw [hs] at hj
        injection hj with hj; subst hj
        have hjl := (List.getElem?_eq_some_iff.1 hs).1
        have he : es[j]? = some [.str s] := by rw [← hes, encS, List.getElem?_map, hs]; rfl
        have hz : sz = 1 := by rw [← hsz _ (List.mem_of_getElem? he)]; rfl
        subst hz
        have h1 := hc j 0 (by omega) (by omega)
        have h2 := rep_str_inv (hr j 0 _ _ he rfl)
        rw [h2] at h1
        simpa using h1
end Go.TL.Tryz

/- TfTxI -/
namespace Go.TL.Tryz
open Go Go.TL Go.Proofs
variable {P : Program}

def decS (l : List UInt8) : List (List UInt8) := l.map fun c => Lib.itoa (iB c)
theorem wid_encS (l : List (List UInt8)) : std.wid 1 (encS l) := by intro x hx; obtain ⟨y, _, rfl⟩ := List.mem_map.1 hx; rfl
theorem side_oneS {ar : Ar} (har : ar = std) {l : List (List UInt8)} {es : List (List T)} {t : T} (h : encS l = es) (hn : l.length ≤ 1000000000) : Side (ar.room 16 (ar.app es [[t]]) ∧ ar.wid 1 [[t]]) := by
  have := encS_len h
  subst har
  exact ⟨by simp [std]; omega, wid_one t⟩
theorem side_flatS {ar : Ar} (har : ar = std) {l : List (List UInt8)} {es : List (List T)} (h : encS l = es) : Side (ar.flat es) := by
  subst har; subst h
  refine ⟨fun x hx t ht => ?_⟩
  obtain ⟨y, _, rfl⟩ := List.mem_map.1 hx
  simp at ht; subst ht; rfl
theorem encS_app {l m : List (List UInt8)} {es fs : List (List T)} (h : encS l = es) (k : encS m = fs) : encS (l ++ m) = es ++ fs := by subst h; subst k; simp [encS]
set_option maxRecDepth 20000 in
theorem fn197 : Tryz.prog.funcs[197]? = some Tryz.f197 := rfl
set_option maxHeartbeats 40000000 in
set_option maxRecDepth 3000 in
theorem iDecimals (hP : Prg P) {n : Int} : ACall P 197 [.one (.t (.int .i64 n))] [] (fun r ob => r = .one (.row 32 0) ∧ ob = [(32, .row 1 (encS (decS (fourB n))) 0 [0] false)]) := by
  refine acall_fn (md := md) [some [(0, 1)]] v197 hP.mixed hP.tab (fn_at hP fn197) 1 rfl (by decide +kernel) rfl ?_
  intro ar har
  cbv
  repeat' (first | (intro; cbv) | (with_reducible refine and_side ?_ ?_; rotate_left; try cbv) | (refine ChkP.mk (by decide +kernel) ?_; cbv) | (refine br_intro ?_ ?_ <;> intro <;> cbv) | (refine get_at har (by assumption) (by assumption) (by assumption) (by assumption) ?_; cbv) | (refine get_lt har (by assumption) (by assumption) (by assumption) ?_; intro x xx hx hxx; cbv) | (refine get_atN har (by assumption) (by assumption) (by assumption) (by assumption) ?_; cbv) | (refine get_ltN har (by assumption) (by assumption) (by assumption) ?_; intro x xx hx hxx; cbv) | (refine get_atI har (by assumption) (by assumption) (by decide) ?_; cbv) | (refine get_twoA har (by assumption) (by assumption) (by decide) ?_; intro x hx; cbv) | (refine get_twoB har (by assumption) (by assumption) (by decide) ?_; intro x hx; cbv) | (refine bytes_intro (by assumption) ?_; cbv) | (exact side_lt har (by assumption) (by assumption)) | (exact side_inb har (by assumption) (by assumption) (by assumption)) | (exact side_sh har (by decide)) | (exact side_app har (by assumption) (by assumption) (by omega)) | (exact side_app0 har (by assumption) (by omega)) | (exact side_new har (by assumption) (by omega)) | (exact side_one har (by assumption) (by omega)) | (exact side_oneN har (by assumption) (by omega)) | (exact side_flat har (by assumption)) | (exact side_sbig har (by omega)) | (refine side_sbig har ?_; simp; done) | (exact side_oneI har (by assumption) (by omega)) | (refine side_ix har ?_; simp; done) | (refine side_ix har ?_; simp; omega) | (refine call_intro (iFour hP) ?_; rintro r ob ⟨rfl, rfl⟩; generalize hfo : encB (fourB _) = fo; cbv) | (refine calld_intro (iFour hP) ?_; generalize hfo : encB (fourB _) = fo; cbv))
  have hfl : (fourB n).length = 4 := rfl
  refine LoopP.mk (List (List UInt8) × List (List T) × Int) [3, 8, 9, 10] []
    (fun x => ⟨[(3, .one (.row 16 0)), (8, .one (.row 17 0)), (9, .one (.t (.int .i64 (ar.len fo)))), (10, .one (.t (.int .i64 x.2.2)))], [(16, .row 1 x.2.1 0 [0] false), (17, .row 1 fo 0 [0] false)]⟩)
    (fun x => encS x.1 = x.2.1 ∧ 0 ≤ x.2.2 ∧ x.2.2.toNat ≤ (fourB n).length ∧ x.1 = decS ((fourB n).take x.2.2.toNat)) (fun x => 4 - x.2.2.toNat) ([], [], 0) ?e ?f ?g
  case e => kernel_rfl
  case f => exact ⟨rfl, Int.le_refl _, by simp, rfl⟩
  case g =>
    intro x hx
    obtain ⟨l, os, j⟩ := x
    have hl : encS l = os := hx.1
    have hj0 : 0 ≤ j := hx.2.1
    have hjb : j.toNat ≤ (fourB n).length := hx.2.2.1
    have hll : l = decS ((fourB n).take j.toNat) := hx.2.2.2
    have hln : l.length ≤ 4 := by rw [hll, decS, List.length_map, List.length_take]; omega
    clear hx
    cbv
    repeat' (first | (intro; cbv) | (with_reducible refine and_side ?_ ?_; rotate_left; try cbv) | (refine ChkP.mk (by decide +kernel) ?_; cbv) | (refine br_intro ?_ ?_ <;> intro <;> cbv) | (refine get_at har (by assumption) (by assumption) (by assumption) (by assumption) ?_; cbv) | (refine get_lt har (by assumption) (by assumption) (by assumption) ?_; intro x xx hx hxx; cbv) | (refine get_atN har (by assumption) (by assumption) (by assumption) (by assumption) ?_; cbv) | (refine get_ltN har (by assumption) (by assumption) (by assumption) ?_; intro x xx hx hxx; cbv) | (refine get_atI har (by assumption) (by assumption) (by decide) ?_; cbv) | (refine get_twoA har (by assumption) (by assumption) (by decide) ?_; intro x hx; cbv) | (refine get_twoB har (by assumption) (by assumption) (by decide) ?_; intro x hx; cbv) | (refine bytes_intro (by assumption) ?_; cbv) | (exact side_lt har (by assumption) (by assumption)) | (exact side_inb har (by assumption) (by assumption) (by assumption)) | (exact side_sh har (by decide)) | (exact side_app har (by assumption) (by assumption) (by omega)) | (exact side_app0 har (by assumption) (by omega)) | (exact side_new har (by assumption) (by omega)) | (exact side_one har (by assumption) (by omega)) | (exact side_oneN har (by assumption) (by omega)) | (exact side_flat har (by assumption)) | (exact side_sbig har (by omega)) | (refine side_sbig har ?_; simp; done) | (exact side_oneI har (by assumption) (by omega)) | (refine side_ix har ?_; simp; done) | (refine side_ix har ?_; simp; omega) | (refine call_intro (iItoa hP) ?_; rintro r ob ⟨rfl, rfl⟩; generalize hit : Lib.itoa _ = it; cbv) | (refine calld_intro (iItoa hP) ?_; generalize hit : Lib.itoa _ = it; cbv))
    · have hlt := (List.getElem?_eq_some_iff.1 hx).1
      have hw : ar.conv .i64 xx = xx := by subst har; rw [← hxx]; exact iB_wrap64 x
      rw [hw] at hit
      have hl1 : l ++ [it] = decS ((fourB n).take (j.toNat + 1)) := by rw [List.take_add_one, hx, hll, ← hit, ← hxx]; simp [decS]
      subst har
      refine ⟨(l ++ [it], encS (l ++ [it]), j + 1), ?_, ⟨rfl, by dsimp only; omega, by dsimp only; omega, by dsimp only; rw [hl1, show (j + 1).toNat = j.toNat + 1 by omega]⟩, by dsimp only; omega⟩
      rw [show encS (l ++ [it]) = std.app os [[.str it]] from encS_app hl rfl, show j + 1 = std.iop .add .i64 j 1 from (addI (by omega) (by omega)).symm]
      kernel_rfl
    · exact side_oneS har hl (by omega)
    · have hg := ge_len har (by assumption) hj0
      rw [encB_len hfo] at hg
      rw [take_all (by omega)] at hll
      exact ⟨⟨rfl, by rw [← hl, hll]⟩⟩
def dotB (n : Int) : List UInt8 := if isWordB n then Lib.join (decS (fourB n)) [46] else []
theorem join4 (a b c d : List UInt8) : Lib.join [a, b, c, d] [46] = a ++ 46 :: (b ++ 46 :: (c ++ 46 :: d)) := by
  rw [Lib.join_cons]; simp [Lib.joinTail]
theorem dec4 (n : Int) : ∃ a b c d : UInt8, decS (fourB n) = [Lib.itoa (iB a), Lib.itoa (iB b), Lib.itoa (iB c), Lib.itoa (iB d)] := ⟨_, _, _, _, rfl⟩
theorem itoaB_len (x : UInt8) : (Lib.itoa (iB x)).length ≤ 21 := itoa_len (has_i64 (by have := iB_lo x; omega) (by have := iB_hi x; omega))
theorem joinD_len (n : Int) : (Lib.join (decS (fourB n)) [46]).length ≤ 90 := by
  obtain ⟨a, b, c, d, h⟩ := dec4 n
  have h1 := itoaB_len a; have h2 := itoaB_len b; have h3 := itoaB_len c; have h4 := itoaB_len d
  rw [h, join4]; simp; omega
theorem dotB_len (n : Int) : (dotB n).length ≤ 90 := by
  unfold dotB
  split
  · exact joinD_len n
  · simp
theorem dotB_chars (n : Int) : ∀ x, x ∈ dotB n → 45 ≤ iB x ∧ iB x ≤ 57 := by
  intro x hx
  unfold dotB at hx
  split at hx
  · obtain ⟨a, b, c, d, h⟩ := dec4 n
    rw [h, join4] at hx
    simp only [List.mem_append, List.mem_cons] at hx
    rcases hx with h | h | h | h | h | h | h
    · exact itoa_chars x h
    · subst h; decide
    · exact itoa_chars x h
    · subst h; decide
    · exact itoa_chars x h
    · subst h; decide
    · exact itoa_chars x h
  · cases hx
set_option maxRecDepth 20000 in
theorem fn111 : Tryz.prog.funcs[111]? = some Tryz.f111 := rfl
set_option maxHeartbeats 40000000 in
set_option maxRecDepth 3000 in
theorem iDotted (hP : Prg P) {n : Int} : ACall P 111 [.one (.t (.int .i64 n))] [] (fun r ob => r = .one (.row 32 0) ∧ ob = [(32, .row 1 (encB (dotB n)) 0 [0] false)]) := by
  have hjl := joinD_len n
  refine acall_fn (md := md) [some [(0, 1)]] v111 hP.mixed hP.tab (fn_at hP fn111) 1 rfl (by decide +kernel) rfl ?_
  intro ar har
  cbv
  repeat' (first | (intro; cbv) | (with_reducible refine and_side ?_ ?_; rotate_left; try cbv) | (refine ChkP.mk (by decide +kernel) ?_; cbv) | (refine br_intro ?_ ?_ <;> intro <;> cbv) | (refine get_at har (by assumption) (by assumption) (by assumption) (by assumption) ?_; cbv) | (refine get_lt har (by assumption) (by assumption) (by assumption) ?_; intro x xx hx hxx; cbv) | (refine get_atN har (by assumption) (by assumption) (by assumption) (by assumption) ?_; cbv) | (refine get_ltN har (by assumption) (by assumption) (by assumption) ?_; intro x xx hx hxx; cbv) | (refine get_atI har (by assumption) (by assumption) (by decide) ?_; cbv) | (refine get_twoA har (by assumption) (by assumption) (by decide) ?_; intro x hx; cbv) | (refine get_twoB har (by assumption) (by assumption) (by decide) ?_; intro x hx; cbv) | (refine bytes_intro (by assumption) ?_; cbv) | (exact side_lt har (by assumption) (by assumption)) | (exact side_inb har (by assumption) (by assumption) (by assumption)) | (exact side_sh har (by decide)) | (exact side_app har (by assumption) (by assumption) (by omega)) | (exact side_app0 har (by assumption) (by omega)) | (exact side_new har (by assumption) (by omega)) | (exact side_one har (by assumption) (by omega)) | (exact side_oneN har (by assumption) (by omega)) | (exact side_flat har (by assumption)) | (exact side_sbig har (by omega)) | (refine side_sbig har ?_; simp; done) | (exact side_oneI har (by assumption) (by omega)) | (refine side_ix har ?_; simp; done) | (refine side_ix har ?_; simp; omega) | (refine call_intro (iIsWord hP) ?_; rintro r ob ⟨rfl, rfl⟩; generalize hiw : isWordB _ = iw; cbv) | (refine calld_intro (iIsWord hP) ?_; generalize hiw : isWordB _ = iw; cbv) | (refine call_intro (iDecimals hP) ?_; rintro r ob ⟨rfl, rfl⟩; generalize hdc : encS (decS _) = dc; cbv) | (refine calld_intro (iDecimals hP) ?_; generalize hdc : encS (decS _) = dc; cbv))
  · subst har; simp only [std, icmpS, decide_eq_true_eq, decide_eq_false_iff_not, Bool.not_eq_true', Bool.not_eq_false', bne_iff_ne, ne_eq, bne_eq_false_iff_eq, beq_iff_eq, beq_eq_false_iff_ne, Int.not_lt, Int.not_le, Bool.not_true, Bool.not_false, reduceCtorEq] at *
    have hiw : isWordB n = false := by rw [hiw]; assumption
    exact ⟨⟨rfl, by rw [dotB, hiw]; rfl⟩⟩
  · refine call_intro (iJoin hP hdc (Nat.le_of_ble_eq_true rfl) (by omega)) ?_
    rintro r ob ⟨rfl, rfl⟩
    generalize hjn : Lib.join (decS (fourB n)) [46] = jn at hjl ⊢
    cbv
    repeat' (first | (intro; cbv) | (with_reducible refine and_side ?_ ?_; rotate_left; try cbv) | (refine ChkP.mk (by decide +kernel) ?_; cbv) | (refine br_intro ?_ ?_ <;> intro <;> cbv) | (refine get_at har (by assumption) (by assumption) (by assumption) (by assumption) ?_; cbv) | (refine get_lt har (by assumption) (by assumption) (by assumption) ?_; intro x xx hx hxx; cbv) | (refine get_atN har (by assumption) (by assumption) (by assumption) (by assumption) ?_; cbv) | (refine get_ltN har (by assumption) (by assumption) (by assumption) ?_; intro x xx hx hxx; cbv) | (refine get_atI har (by assumption) (by assumption) (by decide) ?_; cbv) | (refine get_twoA har (by assumption) (by assumption) (by decide) ?_; intro x hx; cbv) | (refine get_twoB har (by assumption) (by assumption) (by decide) ?_; intro x hx; cbv) | (refine bytes_intro (by assumption) ?_; cbv) | (exact side_lt har (by assumption) (by assumption)) | (exact side_inb har (by assumption) (by assumption) (by assumption)) | (exact side_sh har (by decide)) | (exact side_app har (by assumption) (by assumption) (by omega)) | (exact side_app0 har (by assumption) (by omega)) | (exact side_new har (by assumption) (by omega)) | (exact side_one har (by assumption) (by omega)) | (exact side_oneN har (by assumption) (by omega)) | (exact side_flat har (by assumption)) | (exact side_sbig har (by omega)) | (refine side_sbig har ?_; simp; done) | (exact side_oneI har (by assumption) (by omega)) | (refine side_ix har ?_; simp; done) | (refine side_ix har ?_; simp; omega))
    subst har; simp only [std, icmpS, decide_eq_true_eq, decide_eq_false_iff_not, Bool.not_eq_true', Bool.not_eq_false', bne_iff_ne, ne_eq, bne_eq_false_iff_eq, beq_iff_eq, beq_eq_false_iff_ne, Int.not_lt, Int.not_le, Bool.not_true, Bool.not_false, reduceCtorEq] at *
    have hiw : isWordB n = true := by rw [hiw]; assumption
    exact ⟨⟨rfl, by rw [dotB, hiw, if_pos rfl, hjn]⟩⟩
  · exact side_flatS har hdc
def hexS : List UInt8 := [48, 49, 50, 51, 52, 53, 54, 55, 56, 57, 97, 98, 99, 100, 101, 102]
def hexD (i : Int) : UInt8 := hexS.getD i.toNat 0
def hex2 (x : UInt8) : List UInt8 := [hexD (iopS .shr .u8 (iB x) 4), hexD (iopS .and .u8 (iB x) 15)]
def dataX (t addr : Int) (to : List (List UInt8)) (tx : List UInt8) (nu : List Int) : List UInt8 :=
  if t = 1 then dotB addr else if namedB t then nu.foldl (fun d n => joinW [d, Lib.itoa n]) (nameTextB to) else tx.flatMap hex2
def textX (n : List (List UInt8)) (t ttl addr : Int) (to : List (List UInt8)) (tx : List UInt8) (nu : List Int) : List UInt8 :=
  joinW [nameTextB n, Lib.itoa ttl, tyName t, dataX t addr to tx nu]
end Go.TL.Tryz

/- TfTxR -/
namespace Go.TL.Tryz
open Go Go.TL Go.Proofs
variable {P : Program}

theorem textN_len {n : List (List UInt8)} (h : NmB n) : (textN n).length ≤ 200 := by
  have : ∀ m : List (List UInt8), (∀ l ∈ m, l.length ≤ 16) → (m.flatMap dotL).length ≤ 17 * m.length := by
    intro m
    induction m with
    | nil => simp
    | cons x r ih => intro h; have h1 := h x (.head _); have h2 := ih fun l hl => h l (.tail _ hl); simp [dotL] at *; omega
  have h1 := this n h.2
  have h2 := h.1
  unfold textN
  split
  · simp
  · omega
theorem nameTextB_len (n : List (List UInt8)) : (nameTextB n).length ≤ 200 := by
  unfold nameTextB
  split
  · rename_i h; exact textN_len (nmB_ok h)
  · simp
theorem rrOk_all {n to : List (List UInt8)} {t ttl addr : Int} {tx : List UInt8} {nu : List Int} (h : rrOk n t ttl addr to tx nu = true) :
    nameOk n = true ∧ typeB t = true ∧ (0 ≤ ttl ∧ ttl ≤ 100000) ∧ (if t = 1 then 0 ≤ addr ∧ addr ≤ 4294967295 else addr = 0) ∧ (if namedB t then nameOk to = true else to = []) ∧
      (if textB t then tx.length ≤ 40 else tx = []) ∧ (if t = 6 then ∃ x y, nu = [x, y] ∧ (0 ≤ x ∧ x ≤ 4294967295) ∧ (0 ≤ y ∧ y ≤ 100000) else nu = []) := by
  unfold rrOk dataOk numsOk at h
  simp only [Bool.and_eq_true, withinB, isWordB, decide_eq_true_eq] at h
  obtain ⟨h1, h2, h3, h4, h5, h6, h7⟩ := h
  refine ⟨h1, h2, h3, ?_, ?_, ?_, ?_⟩
  · split at h4
    · rename_i e; rw [if_pos e]; simpa using h4
    · rename_i e; rw [if_neg e]; simpa using h4
  · split at h5
    · rename_i e; rw [if_pos e]; exact h5
    · rename_i e; rw [if_neg e]; simpa using h5
  · split at h6
    · rename_i e; rw [if_pos e]; simpa using h6
    · rename_i e; rw [if_neg e]; simpa using h6
  · split at h7
    · rename_i e
      rw [if_pos e]
      simp only [Bool.and_eq_true, decide_eq_true_eq] at h7
      obtain ⟨g1, g2, g3⟩ := h7
      match nu, g1 with
      | [x, y], _ => exact ⟨x, y, rfl, g2, g3⟩
    · rename_i e; rw [if_neg e]; simpa using h7
theorem nums_of {n to : List (List UInt8)} {t ttl addr : Int} {tx : List UInt8} {nu : List Int} (h : rrOk n t ttl addr to tx nu = true) : nu.length ≤ 2 ∧ ∀ x, x ∈ nu → 0 ≤ x ∧ x ≤ 4294967295 := by
  have := (rrOk_all h).2.2.2.2.2.2
  split at this
  · obtain ⟨x, y, rfl, h1, h2⟩ := this
    refine ⟨by simp, fun z hz => ?_⟩
    simp at hz
    rcases hz with rfl | rfl
    · exact h1
    · omega
  · subst this; simp
theorem tx_of {n to : List (List UInt8)} {t ttl addr : Int} {tx : List UInt8} {nu : List Int} (h : rrOk n t ttl addr to tx nu = true) : tx.length ≤ 40 := by
  have := (rrOk_all h).2.2.2.2.2.1
  split at this
  · exact this
  · subst this; simp
theorem join2 (d e : List UInt8) : joinW [d, e] = d ++ 32 :: e := by simp [joinW]
theorem hex_bytes {ar : Ar} (har : ar = std) (a b : Int) : [[T.int .u8 (ar.sget [48, 49, 50, 51, 52, 53, 54, 55, 56, 57, 97, 98, 99, 100, 101, 102] a)], [T.int .u8 (ar.sget [48, 49, 50, 51, 52, 53, 54, 55, 56, 57, 97, 98, 99, 100, 101, 102] b)]] = encB [hexD a, hexD b] := by
  subst har; rfl
theorem hex_shr {x : Int} (h : 0 ≤ x ∧ x ≤ 255) : 0 ≤ iopS .shr .u8 x 4 ∧ iopS .shr .u8 x 4 < 16 := by
  have e : iopS .shr .u8 x 4 = x / 16 := by
    show x.fdiv (2 ^ (min (4 : Int).toNat 8)) = _
    rw [show (2 : Int) ^ (min (4 : Int).toNat 8) = 16 from rfl, Int.fdiv_eq_ediv_of_nonneg _ (by decide)]
  rw [e]; omega
theorem hex_and (x : Int) : 0 ≤ iopS .and .u8 x 15 ∧ iopS .and .u8 x 15 < 16 := by
  have h : (BitVec.ofInt 8 x &&& BitVec.ofInt 8 15).toNat ≤ 15 := by rw [BitVec.toNat_and]; exact Nat.and_le_right
  generalize hk : (BitVec.ofInt 8 x &&& BitVec.ofInt 8 15).toNat = k at h
  have e : iopS .and .u8 x 15 = (k : Int) := by
    show IntKind.u8.wrap (((BitVec.ofInt 8 x &&& BitVec.ofInt 8 15).toNat : Nat) : Int) = k
    rw [hk]; exact wrap_id (by simp [IntKind.has, IntKind.min, IntKind.max, IntKind.signed, IntKind.bits]; omega)
  rw [e]; omega
theorem side_hex {ar : Ar} (har : ar = std) {i : Int} (h : 0 ≤ i ∧ i < 16) : Side (ar.sinb i [48, 49, 50, 51, 52, 53, 54, 55, 56, 57, 97, 98, 99, 100, 101, 102]) := by subst har; exact ⟨h⟩
set_option maxRecDepth 20000 in
theorem fn41 : Tryz.prog.funcs[41]? = some Tryz.f41 := rfl
set_option maxHeartbeats 40000000 in
set_option maxRecDepth 20000 in
theorem iText (hP : Prg P) {n to : List (List UInt8)} {ns tos txs nus : List (List T)} {t ttl addr : Int} {tx : List UInt8} {nu : List Int} (hn : encN n = ns) (hto : encN to = tos) (htx : encB tx = txs) (hnu : encI nu = nus)
    (hok : rrOk n t ttl addr to tx nu = true) :
    ACall P 41 [.agg [.t (.sl ns), .t (.int .i64 t), .t (.int .i64 ttl), .t (.int .i64 addr), .t (.sl tos), .t (.sl txs), .t (.sl nus)]] []
      (fun r ob => r = .one (.t (.str (textX n t ttl addr to tx nu))) ∧ ob = []) := by
  have hnl := nameTextB_len n
  have htl := nameTextB_len to
  have hdl := dotB_len addr
  have htt := (rrOk_all hok).2.2.1
  have hil : (Lib.itoa ttl).length ≤ 21 := itoa_len (has_i64 (by omega) (by omega))
  have htn5 := tyName_len t
  have hnus := nums_of hok
  have htx40 := tx_of hok
  refine acall_fn (md := md) [none] v41 hP.mixed hP.tab (fn_at hP fn41) 1 rfl (by decide +kernel) rfl ?_
  intro ar har
  cbv
  repeat' (first | (intro; cbv) | (with_reducible refine and_side ?_ ?_; rotate_left; try cbv) | (refine ChkP.mk (by decide +kernel) ?_; cbv) | (refine br_intro ?_ ?_ <;> intro <;> cbv) | (refine get_at har (by assumption) (by assumption) (by assumption) (by assumption) ?_; cbv) | (refine get_lt har (by assumption) (by assumption) (by assumption) ?_; intro x xx hx hxx; cbv) | (refine get_atN har (by assumption) (by assumption) (by assumption) (by assumption) ?_; cbv) | (refine get_ltN har (by assumption) (by assumption) (by assumption) ?_; intro x xx hx hxx; cbv) | (refine get_atI har (by assumption) (by assumption) (by decide) ?_; cbv) | (refine get_twoA har (by assumption) (by assumption) (by decide) ?_; intro x hx; cbv) | (refine get_twoB har (by assumption) (by assumption) (by decide) ?_; intro x hx; cbv) | (refine bytes_intro (by assumption) ?_; cbv) | (exact side_lt har (by assumption) (by assumption)) | (exact side_inb har (by assumption) (by assumption) (by assumption)) | (exact side_sh har (by decide)) | (exact side_app har (by assumption) (by assumption) (by omega)) | (exact side_app0 har (by assumption) (by omega)) | (exact side_new har (by assumption) (by omega)) | (exact side_one har (by assumption) (by omega)) | (exact side_oneN har (by assumption) (by omega)) | (exact side_flat har (by assumption)) | (exact side_sbig har (by omega)) | (refine side_sbig har ?_; simp; done) | (exact side_oneI har (by assumption) (by omega)) | (refine side_ix har ?_; simp; done) | (refine side_ix har ?_; simp; omega) | (refine call_intro (iHasTo hP) ?_; rintro r ob ⟨rfl, rfl⟩; generalize hht : namedB _ = ht; cbv) | (refine calld_intro (iHasTo hP) ?_; generalize hht : namedB _ = ht; cbv) | (refine call_intro (iDotted hP) ?_; rintro r ob ⟨rfl, rfl⟩; generalize hdb : dotB _ = db; generalize hdt : encB db = dt; cbv) | (refine calld_intro (iDotted hP) ?_; generalize hdb : dotB _ = db; generalize hdt : encB db = dt; cbv) | (refine call_intro (iNameText hP (by assumption)) ?_; rintro r ob ⟨rfl, rfl⟩; generalize hnb : nameTextB _ = nb; generalize hnt : encB nb = nt; cbv) | (refine calld_intro (iNameText hP (by assumption)) ?_; generalize hnb : nameTextB _ = nb; generalize hnt : encB nb = nt; cbv) | (refine call_intro (iItoa hP) ?_; rintro r ob ⟨rfl, rfl⟩; generalize hit : Lib.itoa _ = it; cbv) | (refine calld_intro (iItoa hP) ?_; generalize hit : Lib.itoa _ = it; cbv) | (refine call_intro (iTypeName hP _) ?_; rintro r ob ⟨rfl, rfl⟩; generalize htn : tyName _ = tn; cbv) | (refine calld_intro (iTypeName hP _) ?_; generalize htn : tyName _ = tn; cbv))
  · have ht1 : t = 1 := by subst har; simpa [std, icmpS] using (by assumption : std.icmp .eql t 1 = true)
    rw [hnb] at hnl; rw [hdb] at hdl; rw [hit] at hil; rw [htn] at htn5
    refine calld_intro (iWords hP (l := [nb, it, tn, db]) rfl ?_ (by simp)) ?_
    · intro s hs; simp only [List.mem_cons, List.not_mem_nil, or_false] at hs; rcases hs with rfl | rfl | rfl | rfl <;> omega
    generalize hjw : joinW _ = jw
    cbv
    repeat' (first | (intro; cbv) | (with_reducible refine and_side ?_ ?_; rotate_left; try cbv) | (refine ChkP.mk (by decide +kernel) ?_; cbv) | (refine br_intro ?_ ?_ <;> intro <;> cbv) | (refine get_at har (by assumption) (by assumption) (by assumption) (by assumption) ?_; cbv) | (refine get_lt har (by assumption) (by assumption) (by assumption) ?_; intro x xx hx hxx; cbv) | (refine get_atN har (by assumption) (by assumption) (by assumption) (by assumption) ?_; cbv) | (refine get_ltN har (by assumption) (by assumption) (by assumption) ?_; intro x xx hx hxx; cbv) | (refine get_atI har (by assumption) (by assumption) (by decide) ?_; cbv) | (refine get_twoA har (by assumption) (by assumption) (by decide) ?_; intro x hx; cbv) | (refine get_twoB har (by assumption) (by assumption) (by decide) ?_; intro x hx; cbv) | (refine bytes_intro (by assumption) ?_; cbv) | (exact side_lt har (by assumption) (by assumption)) | (exact side_inb har (by assumption) (by assumption) (by assumption)) | (exact side_sh har (by decide)) | (exact side_app har (by assumption) (by assumption) (by omega)) | (exact side_app0 har (by assumption) (by omega)) | (exact side_new har (by assumption) (by omega)) | (exact side_one har (by assumption) (by omega)) | (exact side_oneN har (by assumption) (by omega)) | (exact side_flat har (by assumption)) | (exact side_sbig har (by omega)) | (refine side_sbig har ?_; simp; done) | (exact side_oneI har (by assumption) (by omega)) | (refine side_ix har ?_; simp; done) | (refine side_ix har ?_; simp; omega))
    exact ⟨⟨by rw [textX, dataX, if_pos ht1, hnb, hit, htn, hdb, hjw], rfl⟩⟩
  · have ht1 : ¬ t = 1 := by subst har; simpa [std, icmpS] using (by assumption : std.icmp .eql t 1 = false)
    have hnm : namedB t = true := by rw [hht]; assumption
    rw [hnb] at htl
    have hnbT := hnb
    refine LoopP.mk (List UInt8 × Int) [1, 3, 43, 44, 45] []
      (fun x => ⟨[(1, .one (.ptr 16 0)), (3, .one (.t (.str x.1))), (43, .one (.t (.sl nus))), (44, .one (.t (.int .i64 (ar.len nus)))), (45, .one (.t (.int .i64 x.2)))], [(16, .box [.t (.sl ns), .t (.int .i64 t), .t (.int .i64 ttl), .t (.int .i64 addr), .t (.sl tos), .t (.sl txs), .t (.sl nus)] false)]⟩)
      (fun x => 0 ≤ x.2 ∧ x.2.toNat ≤ nu.length ∧ x.1 = (nu.take x.2.toNat).foldl (fun d n => joinW [d, Lib.itoa n]) nb ∧ x.1.length ≤ 200 + 30 * x.2.toNat) (fun x => nu.length - x.2.toNat) (nb, 0) ?e ?f ?g
    case e => kernel_rfl
    case f => exact ⟨Int.le_refl _, by simp, rfl, by simpa using htl⟩
    case g =>
      intro x hx
      obtain ⟨d, j⟩ := x
      have hj0 : 0 ≤ j := hx.1
      have hjb : j.toNat ≤ nu.length := hx.2.1
      have hdd : d = (nu.take j.toNat).foldl (fun d n => joinW [d, Lib.itoa n]) nb := hx.2.2.1
      have hdl2 : d.length ≤ 200 + 30 * j.toNat := hx.2.2.2
      clear hx
      cbv
      repeat' (first | (intro; cbv) | (with_reducible refine and_side ?_ ?_; rotate_left; try cbv) | (refine ChkP.mk (by decide +kernel) ?_; cbv) | (refine br_intro ?_ ?_ <;> intro <;> cbv) | (refine get_at har (by assumption) (by assumption) (by assumption) (by assumption) ?_; cbv) | (refine get_lt har (by assumption) (by assumption) (by assumption) ?_; intro x xx hx hxx; cbv) | (refine get_atN har (by assumption) (by assumption) (by assumption) (by assumption) ?_; cbv) | (refine get_ltN har (by assumption) (by assumption) (by assumption) ?_; intro x xx hx hxx; cbv) | (refine get_atI har (by assumption) (by assumption) (by decide) ?_; cbv) | (refine get_twoA har (by assumption) (by assumption) (by decide) ?_; intro x hx; cbv) | (refine get_twoB har (by assumption) (by assumption) (by decide) ?_; intro x hx; cbv) | (refine bytes_intro (by assumption) ?_; cbv) | (exact side_lt har (by assumption) (by assumption)) | (exact side_inb har (by assumption) (by assumption) (by assumption)) | (exact side_sh har (by decide)) | (exact side_app har (by assumption) (by assumption) (by omega)) | (exact side_app0 har (by assumption) (by omega)) | (exact side_new har (by assumption) (by omega)) | (exact side_one har (by assumption) (by omega)) | (exact side_oneN har (by assumption) (by omega)) | (exact side_flat har (by assumption)) | (exact side_sbig har (by omega)) | (refine side_sbig har ?_; simp; done) | (exact side_oneI har (by assumption) (by omega)) | (refine side_ix har ?_; simp; done) | (refine side_ix har ?_; simp; omega))
      · refine get_ltI har hnu (by assumption) hj0 ?_
        intro x hx
        have hlt := (List.getElem?_eq_some_iff.1 hx).1
        have hxr := hnus.2 x (List.mem_of_getElem? hx)
        have hxl : (Lib.itoa x).length ≤ 21 := itoa_len (has_i64 (by omega) (by omega))
        cbv
        repeat' (first | (intro; cbv) | (with_reducible refine and_side ?_ ?_; rotate_left; try cbv) | (refine ChkP.mk (by decide +kernel) ?_; cbv) | (refine br_intro ?_ ?_ <;> intro <;> cbv) | (refine get_at har (by assumption) (by assumption) (by assumption) (by assumption) ?_; cbv) | (refine get_lt har (by assumption) (by assumption) (by assumption) ?_; intro x xx hx hxx; cbv) | (refine get_atN har (by assumption) (by assumption) (by assumption) (by assumption) ?_; cbv) | (refine get_ltN har (by assumption) (by assumption) (by assumption) ?_; intro x xx hx hxx; cbv) | (refine get_atI har (by assumption) (by assumption) (by decide) ?_; cbv) | (refine get_twoA har (by assumption) (by assumption) (by decide) ?_; intro x hx; cbv) | (refine get_twoB har (by assumption) (by assumption) (by decide) ?_; intro x hx; cbv) | (refine bytes_intro (by assumption) ?_; cbv) | (exact side_lt har (by assumption) (by assumption)) | (exact side_inb har (by assumption) (by assumption) (by assumption)) | (exact side_sh har (by decide)) | (exact side_app har (by assumption) (by assumption) (by omega)) | (exact side_app0 har (by assumption) (by omega)) | (exact side_new har (by assumption) (by omega)) | (exact side_one har (by assumption) (by omega)) | (exact side_oneN har (by assumption) (by omega)) | (exact side_flat har (by assumption)) | (exact side_sbig har (by omega)) | (refine side_sbig har ?_; simp; done) | (exact side_oneI har (by assumption) (by omega)) | (refine side_ix har ?_; simp; done) | (refine side_ix har ?_; simp; omega) | (refine call_intro (iItoa hP) ?_; rintro r ob ⟨rfl, rfl⟩; generalize hit : Lib.itoa _ = it; cbv) | (refine calld_intro (iItoa hP) ?_; generalize hit : Lib.itoa _ = it; cbv))
        rw [hit] at hxl
        have hst : (nu.take (j.toNat + 1)).foldl (fun d n => joinW [d, Lib.itoa n]) nb = joinW [d, it] := by
          rw [List.take_add_one, hx, List.foldl_append, ← hdd, ← hit]; rfl
        have hjl : (joinW [d, it]).length = d.length + 1 + it.length := by rw [join2]; simp; omega
        refine call_intro (iWords hP (l := [d, it]) rfl ?_ (by simp)) ?_
        · intro s hs; simp only [List.mem_cons, List.not_mem_nil, or_false] at hs; rcases hs with rfl | rfl <;> omega
        rintro r ob ⟨rfl, rfl⟩
        generalize joinW [d, it] = jw at hst hjl ⊢
        cbv
        repeat' (first | (intro; cbv) | (with_reducible refine and_side ?_ ?_; rotate_left; try cbv) | (refine ChkP.mk (by decide +kernel) ?_; cbv) | (refine br_intro ?_ ?_ <;> intro <;> cbv) | (refine get_at har (by assumption) (by assumption) (by assumption) (by assumption) ?_; cbv) | (refine get_lt har (by assumption) (by assumption) (by assumption) ?_; intro x xx hx hxx; cbv) | (refine get_atN har (by assumption) (by assumption) (by assumption) (by assumption) ?_; cbv) | (refine get_ltN har (by assumption) (by assumption) (by assumption) ?_; intro x xx hx hxx; cbv) | (refine get_atI har (by assumption) (by assumption) (by decide) ?_; cbv) | (refine get_twoA har (by assumption) (by assumption) (by decide) ?_; intro x hx; cbv) | (refine get_twoB har (by assumption) (by assumption) (by decide) ?_; intro x hx; cbv) | (refine bytes_intro (by assumption) ?_; cbv) | (exact side_lt har (by assumption) (by assumption)) | (exact side_inb har (by assumption) (by assumption) (by assumption)) | (exact side_sh har (by decide)) | (exact side_app har (by assumption) (by assumption) (by omega)) | (exact side_app0 har (by assumption) (by omega)) | (exact side_new har (by assumption) (by omega)) | (exact side_one har (by assumption) (by omega)) | (exact side_oneN har (by assumption) (by omega)) | (exact side_flat har (by assumption)) | (exact side_sbig har (by omega)) | (refine side_sbig har ?_; simp; done) | (exact side_oneI har (by assumption) (by omega)) | (refine side_ix har ?_; simp; done) | (refine side_ix har ?_; simp; omega))
        refine ⟨(jw, j + 1), ?_, ⟨by dsimp only; omega, by dsimp only; omega, by dsimp only; rw [show (j + 1).toNat = j.toNat + 1 by omega, hst], by dsimp only; omega⟩, by dsimp only; omega⟩
        rw [show j + 1 = ar.iop .add .i64 j 1 from (add_std har (by omega) (by omega)).symm]
        kernel_rfl
      · have hg := ge_len har (by assumption) hj0
        rw [encI_len hnu] at hg
        rw [take_all (by omega)] at hdd
        repeat' (first | (intro; cbv) | (with_reducible refine and_side ?_ ?_; rotate_left; try cbv) | (refine ChkP.mk (by decide +kernel) ?_; cbv) | (refine br_intro ?_ ?_ <;> intro <;> cbv) | (refine get_at har (by assumption) (by assumption) (by assumption) (by assumption) ?_; cbv) | (refine get_lt har (by assumption) (by assumption) (by assumption) ?_; intro x xx hx hxx; cbv) | (refine get_atN har (by assumption) (by assumption) (by assumption) (by assumption) ?_; cbv) | (refine get_ltN har (by assumption) (by assumption) (by assumption) ?_; intro x xx hx hxx; cbv) | (refine get_atI har (by assumption) (by assumption) (by decide) ?_; cbv) | (refine get_twoA har (by assumption) (by assumption) (by decide) ?_; intro x hx; cbv) | (refine get_twoB har (by assumption) (by assumption) (by decide) ?_; intro x hx; cbv) | (refine bytes_intro (by assumption) ?_; cbv) | (exact side_lt har (by assumption) (by assumption)) | (exact side_inb har (by assumption) (by assumption) (by assumption)) | (exact side_sh har (by decide)) | (exact side_app har (by assumption) (by assumption) (by omega)) | (exact side_app0 har (by assumption) (by omega)) | (exact side_new har (by assumption) (by omega)) | (exact side_one har (by assumption) (by omega)) | (exact side_oneN har (by assumption) (by omega)) | (exact side_flat har (by assumption)) | (exact side_sbig har (by omega)) | (refine side_sbig har ?_; simp; done) | (exact side_oneI har (by assumption) (by omega)) | (refine side_ix har ?_; simp; done) | (refine side_ix har ?_; simp; omega) | (refine call_intro (iNameText hP (by assumption)) ?_; rintro r ob ⟨rfl, rfl⟩; generalize hnb : nameTextB _ = nb; generalize hnt : encB nb = nt; cbv) | (refine calld_intro (iNameText hP (by assumption)) ?_; generalize hnb : nameTextB _ = nb; generalize hnt : encB nb = nt; cbv) | (refine call_intro (iItoa hP) ?_; rintro r ob ⟨rfl, rfl⟩; generalize hit : Lib.itoa _ = it; cbv) | (refine calld_intro (iItoa hP) ?_; generalize hit : Lib.itoa _ = it; cbv) | (refine call_intro (iTypeName hP _) ?_; rintro r ob ⟨rfl, rfl⟩; generalize htn : tyName _ = tn; cbv) | (refine calld_intro (iTypeName hP _) ?_; generalize htn : tyName _ = tn; cbv))
        rw [hnb] at hnl; rw [hit] at hil; rw [htn] at htn5
        refine calld_intro (iWords hP (l := [nb, it, tn, d]) rfl ?_ (by simp)) ?_
        · intro s hs; simp only [List.mem_cons, List.not_mem_nil, or_false] at hs; rcases hs with rfl | rfl | rfl | rfl <;> omega
        generalize hjw : joinW _ = jw
        cbv
        repeat' (first | (intro; cbv) | (with_reducible refine and_side ?_ ?_; rotate_left; try cbv) | (refine ChkP.mk (by decide +kernel) ?_; cbv) | (refine br_intro ?_ ?_ <;> intro <;> cbv) | (refine get_at har (by assumption) (by assumption) (by assumption) (by assumption) ?_; cbv) | (refine get_lt har (by assumption) (by assumption) (by assumption) ?_; intro x xx hx hxx; cbv) | (refine get_atN har (by assumption) (by assumption) (by assumption) (by assumption) ?_; cbv) | (refine get_ltN har (by assumption) (by assumption) (by assumption) ?_; intro x xx hx hxx; cbv) | (refine get_atI har (by assumption) (by assumption) (by decide) ?_; cbv) | (refine get_twoA har (by assumption) (by assumption) (by decide) ?_; intro x hx; cbv) | (refine get_twoB har (by assumption) (by assumption) (by decide) ?_; intro x hx; cbv) | (refine bytes_intro (by assumption) ?_; cbv) | (exact side_lt har (by assumption) (by assumption)) | (exact side_inb har (by assumption) (by assumption) (by assumption)) | (exact side_sh har (by decide)) | (exact side_app har (by assumption) (by assumption) (by omega)) | (exact side_app0 har (by assumption) (by omega)) | (exact side_new har (by assumption) (by omega)) | (exact side_one har (by assumption) (by omega)) | (exact side_oneN har (by assumption) (by omega)) | (exact side_flat har (by assumption)) | (exact side_sbig har (by omega)) | (refine side_sbig har ?_; simp; done) | (exact side_oneI har (by assumption) (by omega)) | (refine side_ix har ?_; simp; done) | (refine side_ix har ?_; simp; omega))
        exact ⟨⟨by rw [textX, dataX, if_neg ht1, if_pos hnm, hnb, hit, htn, hnbT, ← hdd, hjw], rfl⟩⟩
  · have ht1 : ¬ t = 1 := by subst har; simpa [std, icmpS] using (by assumption : std.icmp .eql t 1 = false)
    have hnm : namedB t = false := by rw [hht]; assumption
    refine LoopP.mk (List UInt8 × Int) [1, 3, 9, 10, 11] []
      (fun x => ⟨[(1, .one (.ptr 16 0)), (3, .one (.t (.str x.1))), (9, .one (.t (.sl txs))), (10, .one (.t (.int .i64 (ar.len txs)))), (11, .one (.t (.int .i64 x.2)))], [(16, .box [.t (.sl ns), .t (.int .i64 t), .t (.int .i64 ttl), .t (.int .i64 addr), .t (.sl tos), .t (.sl txs), .t (.sl nus)] false)]⟩)
      (fun x => 0 ≤ x.2 ∧ x.2.toNat ≤ tx.length ∧ x.1 = (tx.take x.2.toNat).flatMap hex2 ∧ x.1.length = 2 * x.2.toNat) (fun x => tx.length - x.2.toNat) ([], 0) ?e2 ?f2 ?g2
    case e2 => kernel_rfl
    case f2 => exact ⟨Int.le_refl _, by simp, rfl, by simp⟩
    case g2 =>
      intro x hx
      obtain ⟨d, j⟩ := x
      have hj0 : 0 ≤ j := hx.1
      have hjb : j.toNat ≤ tx.length := hx.2.1
      have hdd : d = (tx.take j.toNat).flatMap hex2 := hx.2.2.1
      have hdl2 : d.length = 2 * j.toNat := hx.2.2.2
      clear hx
      cbv
      repeat' (first | (intro; cbv) | (with_reducible refine and_side ?_ ?_; rotate_left; try cbv) | (refine ChkP.mk (by decide +kernel) ?_; cbv) | (refine br_intro ?_ ?_ <;> intro <;> cbv) | (refine get_at har (by assumption) (by assumption) (by assumption) (by assumption) ?_; cbv) | (refine get_lt har (by assumption) (by assumption) (by assumption) ?_; intro x xx hx hxx; cbv) | (refine get_atN har (by assumption) (by assumption) (by assumption) (by assumption) ?_; cbv) | (refine get_ltN har (by assumption) (by assumption) (by assumption) ?_; intro x xx hx hxx; cbv) | (refine get_atI har (by assumption) (by assumption) (by decide) ?_; cbv) | (refine get_twoA har (by assumption) (by assumption) (by decide) ?_; intro x hx; cbv) | (refine get_twoB har (by assumption) (by assumption) (by decide) ?_; intro x hx; cbv) | (refine bytes_intro (by assumption) ?_; cbv) | (exact side_lt har (by assumption) (by assumption)) | (exact side_inb har (by assumption) (by assumption) (by assumption)) | (exact side_sh har (by decide)) | (exact side_app har (by assumption) (by assumption) (by omega)) | (exact side_app0 har (by assumption) (by omega)) | (exact side_new har (by assumption) (by omega)) | (exact side_one har (by assumption) (by omega)) | (exact side_oneN har (by assumption) (by omega)) | (exact side_flat har (by assumption)) | (exact side_sbig har (by omega)) | (refine side_sbig har ?_; simp; done) | (exact side_oneI har (by assumption) (by omega)) | (refine side_ix har ?_; simp; done) | (refine side_ix har ?_; simp; omega))
      case refine_1.refine_2.refine_2.refine_2 =>
        have hlt := (List.getElem?_eq_some_iff.1 hx).1
        obtain ⟨h2, hh2⟩ : ∃ h2, h2 = [hexD (ar.iop .shr .u8 xx 4), hexD (ar.iop .and .u8 xx 15)] := ⟨_, rfl⟩
        have h2l : h2.length = 2 := by rw [hh2]; rfl
        refine ⟨h2, by rw [hh2]; exact hex_bytes har _ _, ?_⟩
        cbv
        repeat' (first | (intro; cbv) | (with_reducible refine and_side ?_ ?_; rotate_left; try cbv) | (refine ChkP.mk (by decide +kernel) ?_; cbv) | (refine br_intro ?_ ?_ <;> intro <;> cbv) | (refine get_at har (by assumption) (by assumption) (by assumption) (by assumption) ?_; cbv) | (refine get_lt har (by assumption) (by assumption) (by assumption) ?_; intro x xx hx hxx; cbv) | (refine get_atN har (by assumption) (by assumption) (by assumption) (by assumption) ?_; cbv) | (refine get_ltN har (by assumption) (by assumption) (by assumption) ?_; intro x xx hx hxx; cbv) | (refine get_atI har (by assumption) (by assumption) (by decide) ?_; cbv) | (refine get_twoA har (by assumption) (by assumption) (by decide) ?_; intro x hx; cbv) | (refine get_twoB har (by assumption) (by assumption) (by decide) ?_; intro x hx; cbv) | (refine bytes_intro (by assumption) ?_; cbv) | (exact side_lt har (by assumption) (by assumption)) | (exact side_inb har (by assumption) (by assumption) (by assumption)) | (exact side_sh har (by decide)) | (exact side_app har (by assumption) (by assumption) (by omega)) | (exact side_app0 har (by assumption) (by omega)) | (exact side_new har (by assumption) (by omega)) | (exact side_one har (by assumption) (by omega)) | (exact side_oneN har (by assumption) (by omega)) | (exact side_flat har (by assumption)) | (exact side_sbig har (by omega)) | (refine side_sbig har ?_; simp; done) | (exact side_oneI har (by assumption) (by omega)) | (refine side_ix har ?_; simp; done) | (refine side_ix har ?_; simp; omega))
        · have hst : d ++ h2 = (tx.take (j.toNat + 1)).flatMap hex2 := by
            rw [List.take_add_one, hx, List.flatMap_append, ← hdd, hh2]
            subst har
            simp only [Option.toList, List.flatMap_cons, List.flatMap_nil, List.append_nil, hex2, hxx]; rfl
          subst har
          refine ⟨(d ++ h2, j + 1), ?_, ⟨by dsimp only; omega, by dsimp only; omega, by dsimp only; rw [show (j + 1).toNat = j.toNat + 1 by omega, hst], by simp; omega⟩, by dsimp only; omega⟩
          rw [show d ++ h2 = std.sapp d h2 from rfl, show j + 1 = std.iop .add .i64 j 1 from (addI (by omega) (by omega)).symm]
          kernel_rfl
        · exact side_cat har (by omega) (by omega)
      case refine_1.refine_2.refine_2.refine_1 => exact side_hex har (by subst har; exact hex_and xx)
      case refine_1.refine_2.refine_1 =>
        have h0 := iB_lo x
        have h1 := iB_hi x
        exact side_hex har (by subst har; exact hex_shr (by omega))
      have hg := ge_len har (by assumption) hj0
      rw [encB_len htx] at hg
      rw [take_all (by omega)] at hdd
      repeat' (first | (intro; cbv) | (with_reducible refine and_side ?_ ?_; rotate_left; try cbv) | (refine ChkP.mk (by decide +kernel) ?_; cbv) | (refine br_intro ?_ ?_ <;> intro <;> cbv) | (refine get_at har (by assumption) (by assumption) (by assumption) (by assumption) ?_; cbv) | (refine get_lt har (by assumption) (by assumption) (by assumption) ?_; intro x xx hx hxx; cbv) | (refine get_atN har (by assumption) (by assumption) (by assumption) (by assumption) ?_; cbv) | (refine get_ltN har (by assumption) (by assumption) (by assumption) ?_; intro x xx hx hxx; cbv) | (refine get_atI har (by assumption) (by assumption) (by decide) ?_; cbv) | (refine get_twoA har (by assumption) (by assumption) (by decide) ?_; intro x hx; cbv) | (refine get_twoB har (by assumption) (by assumption) (by decide) ?_; intro x hx; cbv) | (refine bytes_intro (by assumption) ?_; cbv) | (exact side_lt har (by assumption) (by assumption)) | (exact side_inb har (by assumption) (by assumption) (by assumption)) | (exact side_sh har (by decide)) | (exact side_app har (by assumption) (by assumption) (by omega)) | (exact side_app0 har (by assumption) (by omega)) | (exact side_new har (by assumption) (by omega)) | (exact side_one har (by assumption) (by omega)) | (exact side_oneN har (by assumption) (by omega)) | (exact side_flat har (by assumption)) | (exact side_sbig har (by omega)) | (refine side_sbig har ?_; simp; done) | (exact side_oneI har (by assumption) (by omega)) | (refine side_ix har ?_; simp; done) | (refine side_ix har ?_; simp; omega) | (refine call_intro (iNameText hP (by assumption)) ?_; rintro r ob ⟨rfl, rfl⟩; generalize hnb : nameTextB _ = nb; generalize hnt : encB nb = nt; cbv) | (refine calld_intro (iNameText hP (by assumption)) ?_; generalize hnb : nameTextB _ = nb; generalize hnt : encB nb = nt; cbv) | (refine call_intro (iItoa hP) ?_; rintro r ob ⟨rfl, rfl⟩; generalize hit : Lib.itoa _ = it; cbv) | (refine calld_intro (iItoa hP) ?_; generalize hit : Lib.itoa _ = it; cbv) | (refine call_intro (iTypeName hP _) ?_; rintro r ob ⟨rfl, rfl⟩; generalize htn : tyName _ = tn; cbv) | (refine calld_intro (iTypeName hP _) ?_; generalize htn : tyName _ = tn; cbv))
      rw [hnb] at hnl; rw [hit] at hil; rw [htn] at htn5
      refine calld_intro (iWords hP (l := [nb, it, tn, d]) rfl ?_ (by simp)) ?_
      · intro s hs; simp only [List.mem_cons, List.not_mem_nil, or_false] at hs; rcases hs with rfl | rfl | rfl | rfl <;> omega
      generalize hjw : joinW _ = jw
      cbv
      repeat' (first | (intro; cbv) | (with_reducible refine and_side ?_ ?_; rotate_left; try cbv) | (refine ChkP.mk (by decide +kernel) ?_; cbv) | (refine br_intro ?_ ?_ <;> intro <;> cbv) | (refine get_at har (by assumption) (by assumption) (by assumption) (by assumption) ?_; cbv) | (refine get_lt har (by assumption) (by assumption) (by assumption) ?_; intro x xx hx hxx; cbv) | (refine get_atN har (by assumption) (by assumption) (by assumption) (by assumption) ?_; cbv) | (refine get_ltN har (by assumption) (by assumption) (by assumption) ?_; intro x xx hx hxx; cbv) | (refine get_atI har (by assumption) (by assumption) (by decide) ?_; cbv) | (refine get_twoA har (by assumption) (by assumption) (by decide) ?_; intro x hx; cbv) | (refine get_twoB har (by assumption) (by assumption) (by decide) ?_; intro x hx; cbv) | (refine bytes_intro (by assumption) ?_; cbv) | (exact side_lt har (by assumption) (by assumption)) | (exact side_inb har (by assumption) (by assumption) (by assumption)) | (exact side_sh har (by decide)) | (exact side_app har (by assumption) (by assumption) (by omega)) | (exact side_app0 har (by assumption) (by omega)) | (exact side_new har (by assumption) (by omega)) | (exact side_one har (by assumption) (by omega)) | (exact side_oneN har (by assumption) (by omega)) | (exact side_flat har (by assumption)) | (exact side_sbig har (by omega)) | (refine side_sbig har ?_; simp; done) | (exact side_oneI har (by assumption) (by omega)) | (refine side_ix har ?_; simp; done) | (refine side_ix har ?_; simp; omega))
      exact ⟨⟨by rw [textX, dataX, if_neg ht1, hnm, if_neg (by simp), hnb, hit, htn, ← hdd, hjw], rfl⟩⟩
theorem fold_len : ∀ (nu : List Int) (d : List UInt8), (∀ x, x ∈ nu → 0 ≤ x ∧ x ≤ 4294967295) → (nu.foldl (fun d n => joinW [d, Lib.itoa n]) d).length ≤ d.length + 22 * nu.length
  | [], d, _ => by simp
  | x :: r, d, h => by
    have h1 := fold_len r (joinW [d, Lib.itoa x]) fun y hy => h y (.tail _ hy)
    have hx := h x (.head _)
    have h2 : (Lib.itoa x).length ≤ 21 := itoa_len (has_i64 (by omega) (by omega))
    rw [join2] at h1
    simp only [List.foldl_cons, List.length_append, List.length_cons, join2] at h1 ⊢
    omega
theorem dataX_len {n to : List (List UInt8)} {t ttl addr : Int} {tx : List UInt8} {nu : List Int} (h : rrOk n t ttl addr to tx nu = true) : (dataX t addr to tx nu).length ≤ 300 := by
  have h1 := dotB_len addr
  have h2 := nameTextB_len to
  obtain ⟨h3, h4⟩ := nums_of h
  have h5 := tx_of h
  unfold dataX
  split
  · omega
  · split
    · have := fold_len nu (nameTextB to) h4; omega
    · have : ∀ l : List UInt8, (l.flatMap hex2).length = 2 * l.length := by
        intro l
        induction l with
        | nil => rfl
        | cons x r ih => simp only [List.flatMap_cons, List.length_append, ih, List.length_cons, hex2, List.length_nil]; omega
      rw [this]; omega
theorem textX_len {n to : List (List UInt8)} {t ttl addr : Int} {tx : List UInt8} {nu : List Int} (h : rrOk n t ttl addr to tx nu = true) : 3 ≤ (textX n t ttl addr to tx nu).length ∧ (textX n t ttl addr to tx nu).length ≤ 1000 := by
  have h1 := dataX_len h
  have h2 := nameTextB_len n
  have h3 := tyName_len t
  have htt := (rrOk_all h).2.2.1
  have h4 : (Lib.itoa ttl).length ≤ 21 := itoa_len (has_i64 (by omega) (by omega))
  simp only [textX, joinW, List.flatMap_cons, List.flatMap_nil, List.length_append, List.length_cons, List.length_nil]; omega
def rrTextB (n : List (List UInt8)) (t ttl addr : Int) (to : List (List UInt8)) (tx : List UInt8) (nu : List Int) : List UInt8 := if rrOk n t ttl addr to tx nu then textX n t ttl addr to tx nu else []
theorem rrTextB_pos {n to : List (List UInt8)} {t ttl addr : Int} {tx : List UInt8} {nu : List Int} : decide (0 < (rrTextB n t ttl addr to tx nu).length) = rrOk n t ttl addr to tx nu := by
  unfold rrTextB
  split
  · rename_i h; have := textX_len h; rw [h]; simp; omega
  · rename_i h; simp at h; rw [h]; rfl
end Go.TL.Tryz

/- TfTrL -/
namespace Go.TL.Tryz
open Go Go.TL Go.Proofs
theorem put16_lenE {n : Int} (h : 0 ≤ n ∧ n ≤ 65535) : (put16 n).length = 2 := by
  unfold put16; split <;> simp_all <;> omega
theorem put32_lenE {n : Int} (h : 0 ≤ n ∧ n ≤ 4294967295) : (put32 n).length = 4 := by
  unfold put32; split <;> simp_all <;> omega
def recLen (x : Rrv) : Nat := (wireN x.n).length + 10 + (dataI x.t x.addr x.to x.tx x.nu).length
theorem flatF_len (nu : List Int) : (nu.flatMap fourB).length = 4 * nu.length := by
  induction nu with
  | nil => rfl
  | cons x r ih => simp only [List.flatMap_cons, List.length_append, fourB_len, List.length_cons, ih]; omega
theorem dataS_lenE {n to : List (List UInt8)} {t ttl addr : Int} {tx : List UInt8} {nu : List Int} (h : rrOk n t ttl addr to tx nu = true) : (dataS t addr to tx nu).length = (dataI t addr to tx nu).length := by
  obtain ⟨h1, h2, h3, h4, h5, h6, h7⟩ := rrOk_all h
  unfold dataS dataI
  by_cases ht : t = 1
  · rw [if_pos ht, if_pos ht, fourB_len]
    rw [if_pos ht] at h4
    exact put32_lenE h4
  · rw [if_neg ht, if_neg ht]
    by_cases h66 : t = 6
    · have hn : namedB t = true := by subst h66; rfl
      rw [if_pos h66, if_pos hn]
      rw [if_pos h66] at h7
      obtain ⟨x, y, rfl, hx, hy⟩ := h7
      simp only [List.length_append, List.getD_cons_zero, List.getD_cons_succ, List.flatMap_cons, List.flatMap_nil, fourB_len, List.length_nil]
      rw [put32_lenE hx, put32_lenE (by omega)]
    · rw [if_neg h66]
      rw [if_neg h66] at h7
      subst h7
      by_cases hn : namedB t = true
      · rw [if_pos hn, if_pos hn]; simp
      · rw [if_neg hn, if_neg hn]; rfl
theorem dataI_len2 {n to : List (List UInt8)} {t ttl addr : Int} {tx : List UInt8} {nu : List Int} (h : rrOk n t ttl addr to tx nu = true) : (dataI t addr to tx nu).length ≤ 208 := by
  obtain ⟨f1, f2, f3, f4, f5⟩ := rrOk_facts h
  have hw2 := wireN_len f2
  unfold dataI
  split
  · rw [fourB_len]; omega
  · split
    · rw [List.length_append, flatF_len]; omega
    · simp [wireL]; omega
theorem rrS_lenE {x : Rrv} {cls : Int} (h : rrOkR x = true) (hc : 0 ≤ cls ∧ cls ≤ 65535) : (rrS x.n x.t x.ttl cls (dataS x.t x.addr x.to x.tx x.nu)).length = recLen x := by
  obtain ⟨h1, h2, h3, h4, h5, h6, h7⟩ := rrOk_all h
  have ht : 0 ≤ x.t ∧ x.t ≤ 65535 := by simp only [typeB, decide_eq_true_eq] at h2; omega
  have e := dataS_lenE h
  have e2 := dataI_len2 h
  simp only [rrS, List.length_append, recLen]
  rw [put16_lenE ht, put16_lenE hc, put32_lenE (by omega), put16_lenE (by omega), e]
end Go.TL.Tryz

/- TfMoD -/
namespace Go.TL.Tryz
open Go Go.TL Go.Proofs
set_option maxRecDepth 20000
variable {P : Program}
def mdM (n : Nat) : Md := bif eqB n 104 then ⟨[some [(0, 1)]], true⟩ else md n
theorem sl3rrN (hP : Prg P) {l : List UInt8} {x : Rrv} {ls ns tos txs nus : List (List T)} {cls : Int} (hl : encB l = ls) (hll : l.length ≤ 100000) (hn : encN x.n = ns) (hto : encN x.to = tos) (htx : encB x.tx = txs) (hnu : encI x.nu = nus) (hok : rrOkR x = true) (hcls : 0 ≤ cls ∧ cls ≤ 65535) :
    ACall P 105 [.one (.row 0 0), .agg [.t (.sl ns), .t (.int .i64 x.t), .t (.int .i64 x.ttl), .t (.int .i64 x.addr), .t (.sl tos), .t (.sl txs), .t (.sl nus)], .one (.t (.int .i64 cls))] [(0, .row 1 ls 0 [0] false)]
      (fun r ob => ∃ (l1 lr : List UInt8) (ls1 ls' : List (List T)), encB l1 = ls1 ∧ encB lr = ls' ∧ lr.length = l.length + recLen x ∧ r = .one (.row 32 0) ∧ ob = [(0, .row 1 ls1 0 [0] false), (32, .row 1 ls' 0 [0] false)]) := by
  obtain ⟨hnb, htob, htxl, hnu6, _⟩ := rrOk_facts hok
  have htxl : x.tx.length ≤ 1000 := by omega
  have hex := rrS_lenE hok hcls
  refine acall_fn (md := md) [some [(0, 1)]] v105 hP.mixed hP.tab (fn_at hP fn105) 3 rfl (by decide +kernel) rfl ?_
  intro ar har
  cbv
  have hw := wireN_len hnb
  have hd := dataS_len (t := x.t) (addr := x.addr) (nu := x.nu) htob htxl
  have p1 := put16_len x.t
  have p2 := put16_len cls
  have p3 := put32_len x.ttl
  repeat' (first | (intro; cbv) | (with_reducible refine and_side ?_ ?_; rotate_left; try cbv) | (refine ChkP.mk (by decide +kernel) ?_; cbv) | (refine br_intro ?_ ?_ <;> intro <;> cbv) | (refine get_at har (by assumption) (by assumption) (by assumption) (by assumption) ?_; cbv) | (refine get_lt har (by assumption) (by assumption) (by assumption) ?_; intro x xx hx hxx; cbv) | (refine get_atN har (by assumption) (by assumption) (by assumption) (by assumption) ?_; cbv) | (refine get_ltN har (by assumption) (by assumption) (by assumption) ?_; intro x xx hx hxx; cbv) | (refine get_atI har (by assumption) (by assumption) (by decide) ?_; cbv) | (refine get_twoA har (by assumption) (by assumption) (by decide) ?_; intro x hx; cbv) | (refine get_twoB har (by assumption) (by assumption) (by decide) ?_; intro x hx; cbv) | (refine bytes_intro (by assumption) ?_; cbv) | (exact side_lt har (by assumption) (by assumption)) | (exact side_inb har (by assumption) (by assumption) (by assumption)) | (exact side_sh har (by decide)) | (exact side_app har (by assumption) (by assumption) (by omega)) | (exact side_app0 har (by assumption) (by omega)) | (exact side_new har (by assumption) (by omega)) | (exact side_one har (by assumption) (by omega)) | (exact side_oneN har (by assumption) (by omega)) | (exact side_flat har (by assumption)) | (exact side_sbig har (by omega)) | (refine side_sbig har ?_; simp; done) | (exact side_oneI har (by assumption) (by omega)) | (refine side_ix har ?_; simp; done) | (refine side_ix har ?_; simp; omega) | (refine call_intro (sl3put hP (by assumption) (by assumption) (by assumption) (by omega) (by assumption) (by first | assumption | omega)) ?_; rintro r ob ⟨rfl, rfl⟩; generalize hld : encB (dataS _ _ _ _ _) = ld; cbv) | (refine calld_intro (sl3put hP (by assumption) (by assumption) (by assumption) (by omega) (by assumption) (by first | assumption | omega)) ?_; generalize hld : encB (dataS _ _ _ _ _) = ld; cbv) | (refine call_intro (sl2put hP (by assumption) (by assumption) (by first | omega | decide | (simp only [List.length_append, List.length_nil]; omega)) (by assumption)) ?_; rintro r ob ⟨rfl, rfl⟩; generalize hls : encB (_ ++ wireN _) = ls; cbv) | (refine calld_intro (sl2put hP (by assumption) (by assumption) (by first | omega | decide | (simp only [List.length_append, List.length_nil]; omega)) (by assumption)) ?_; generalize hls : encB (_ ++ wireN _) = ls; cbv) | (refine call_intro (sPut16 hP (by assumption) (by first | omega | decide | (simp only [List.length_append, List.length_nil]; omega))) ?_; rintro r ob ⟨rfl, rfl⟩; generalize hls : encB (_ ++ put16 _) = ls; cbv) | (refine calld_intro (sPut16 hP (by assumption) (by first | omega | decide | (simp only [List.length_append, List.length_nil]; omega))) ?_; generalize hls : encB (_ ++ put16 _) = ls; cbv) | (refine call_intro (sPut32 hP (by assumption) (by first | omega | decide | (simp only [List.length_append, List.length_nil]; omega))) ?_; rintro r ob ⟨rfl, rfl⟩; generalize hls : encB (_ ++ put32 _) = ls; cbv) | (refine calld_intro (sPut32 hP (by assumption) (by first | omega | decide | (simp only [List.length_append, List.length_nil]; omega))) ?_; generalize hls : encB (_ ++ put32 _) = ls; cbv))
  · have hlen := encB_len hld
    subst har
    refine ⟨⟨_, l ++ rrS x.n x.t x.ttl cls (dataS x.t x.addr x.to x.tx x.nu), _, _, by assumption, ?_, by rw [List.length_append, hex], rfl, rfl⟩⟩
    rw [← hls, ← hld]
    simp [rrS, encB, std, List.append_assoc]
  · have q := put16_len (ar.len ld)
    refine side_byL har hls (by subst har; rfl) hld ?_
    simp only [List.length_append]; omega
def wantLen (w : Wnt) : Nat := if w.bare then (wireN w.r.n).length + 10 else recLen w.r
theorem twoB_len1 (n : Int) : (twoB n).length = 2 := rfl
theorem want_rr {w : Wnt} (h : wantOk w = true) (hb : w.bare = false) : rrOkR w.r = true := by
  rw [wantOk, hb] at h; simp at h; exact h.2
theorem want_cls {w : Wnt} (h : wantOk w = true) : 0 ≤ w.cls ∧ w.cls ≤ 65535 := by
  rw [wantOk] at h
  split at h
  · simp at h; omega
  · simp at h; omega
theorem want_bare {w : Wnt} (h : wantOk w = true) (hb : w.bare = true) : NmB w.r.n ∧ 0 ≤ w.r.t ∧ w.r.t ≤ 65535 := by
  rw [wantOk, hb] at h
  simp only [if_true, Bool.and_eq_true] at h
  refine ⟨nmB_ok h.2.1, ?_⟩
  have := h.2.2.1
  simp only [askedB, typeB, Bool.or_eq_true, decide_eq_true_eq] at this
  omega
theorem want_len {w : Wnt} (h : wantOk w = true) : wantLen w ≤ 420 := by
  unfold wantLen
  split
  · have := wireN_len (want_bare h (by assumption)).1; omega
  · have hb : w.bare = false := by simpa using (by assumption : ¬ w.bare = true)
    have hr := want_rr h hb
    have := dataI_len2 hr
    have := wireN_len (rrOk_facts hr).1
    unfold recLen; omega
set_option maxRecDepth 20000 in
theorem fn104 : Tryz.prog.funcs[104]? = some Tryz.f104 := rfl
set_option maxHeartbeats 40000000 in
set_option maxRecDepth 3000 in
theorem sl4want (hP : Prg P) {l : List UInt8} {w : Wnt} {ls ns tos txs nus : List (List T)} (hl : encB l = ls) (hll : l.length ≤ 50000) (h1 : encN w.r.n = ns) (h2 : encN w.r.to = tos) (h3 : encB w.r.tx = txs) (h4 : encI w.r.nu = nus) (hok : wantOk w = true) :
    ACall P 104 [.one (.row 0 0), .agg [.t (.sl ns), .t (.int .i64 w.r.t), .t (.int .i64 w.r.ttl), .t (.int .i64 w.r.addr), .t (.sl tos), .t (.sl txs), .t (.sl nus), .t (.int .i64 w.cls), .t (.bool w.bare)]] [(0, .row 1 ls 0 [0] false)]
      (fun r ob => ∃ (l1 lr : List UInt8) (ls1 ls' : List (List T)), encB l1 = ls1 ∧ encB lr = ls' ∧ lr.length = l.length + wantLen w ∧ r = .one (.row 32 0) ∧ ob = [(0, .row 1 ls1 0 [0] false), (32, .row 1 ls' 0 [0] false)]) := by
  refine acall_fn (md := md) [some [(0, 1)]] v104 hP.mixed hP.tab (fn_at hP fn104) 2 rfl (by decide +kernel) rfl ?_
  intro ar har
  cbv
  repeat' (first | (intro; cbv) | (with_reducible refine and_side ?_ ?_; rotate_left; try cbv) | (refine ChkP.mk (by decide +kernel) ?_; cbv) | (refine br_intro ?_ ?_ <;> intro <;> cbv) | (refine get_at har (by assumption) (by assumption) (by assumption) (by assumption) ?_; cbv) | (refine get_lt har (by assumption) (by assumption) (by assumption) ?_; intro x xx hx hxx; cbv) | (refine get_atN har (by assumption) (by assumption) (by assumption) (by assumption) ?_; cbv) | (refine get_ltN har (by assumption) (by assumption) (by assumption) ?_; intro x xx hx hxx; cbv) | (refine get_atI har (by assumption) (by assumption) (by decide) ?_; cbv) | (refine get_twoA har (by assumption) (by assumption) (by decide) ?_; intro x hx; cbv) | (refine get_twoB har (by assumption) (by assumption) (by decide) ?_; intro x hx; cbv) | (refine bytes_intro (by assumption) ?_; cbv) | (exact side_lt har (by assumption) (by assumption)) | (exact side_inb har (by assumption) (by assumption) (by assumption)) | (exact side_sh har (by decide)) | (exact side_app har (by assumption) (by assumption) (by omega)) | (exact side_app0 har (by assumption) (by omega)) | (exact side_new har (by assumption) (by omega)) | (exact side_one har (by assumption) (by omega)) | (exact side_oneN har (by assumption) (by omega)) | (exact side_flat har (by assumption)) | (exact side_sbig har (by omega)) | (refine side_sbig har ?_; simp; done) | (exact side_oneI har (by assumption) (by omega)) | (refine side_ix har ?_; simp; done) | (refine side_ix har ?_; simp; omega))
  · rename_i hb
    have hb : w.bare = false := by subst har; simpa [std] using hb
    have hrr := want_rr hok hb
    have hcl := want_cls hok
    have hwl : wantLen w = recLen w.r := by rw [wantLen, hb]; rfl
    repeat' (first | (intro; cbv) | (with_reducible refine and_side ?_ ?_; rotate_left; try cbv) | (refine ChkP.mk (by decide +kernel) ?_; cbv) | (refine br_intro ?_ ?_ <;> intro <;> cbv) | (refine get_at har (by assumption) (by assumption) (by assumption) (by assumption) ?_; cbv) | (refine get_lt har (by assumption) (by assumption) (by assumption) ?_; intro x xx hx hxx; cbv) | (refine get_atN har (by assumption) (by assumption) (by assumption) (by assumption) ?_; cbv) | (refine get_ltN har (by assumption) (by assumption) (by assumption) ?_; intro x xx hx hxx; cbv) | (refine get_atI har (by assumption) (by assumption) (by decide) ?_; cbv) | (refine get_twoA har (by assumption) (by assumption) (by decide) ?_; intro x hx; cbv) | (refine get_twoB har (by assumption) (by assumption) (by decide) ?_; intro x hx; cbv) | (refine bytes_intro (by assumption) ?_; cbv) | (exact side_lt har (by assumption) (by assumption)) | (exact side_inb har (by assumption) (by assumption) (by assumption)) | (exact side_sh har (by decide)) | (exact side_app har (by assumption) (by assumption) (by omega)) | (exact side_app0 har (by assumption) (by omega)) | (exact side_new har (by assumption) (by omega)) | (exact side_one har (by assumption) (by omega)) | (exact side_oneN har (by assumption) (by omega)) | (exact side_flat har (by assumption)) | (exact side_sbig har (by omega)) | (refine side_sbig har ?_; simp; done) | (exact side_oneI har (by assumption) (by omega)) | (refine side_ix har ?_; simp; done) | (refine side_ix har ?_; simp; omega) | (refine call_intro (sl3rrN hP (by assumption) (by omega) (by assumption) (by assumption) (by assumption) (by assumption) (by assumption) (by assumption)) ?_; rintro r ob ⟨l1, lr, ls1, ls, hl1, hlr, hlrl, rfl, rfl⟩; cbv))
    exact ⟨⟨_, _, _, _, by assumption, by assumption, by omega, rfl, rfl⟩⟩
  · rename_i hb
    have hb : w.bare = true := by subst har; simpa [std] using hb
    obtain ⟨hnb, ht⟩ := want_bare hok hb
    have hcl := want_cls hok
    have hw := wireN_len hnb
    have hwl : wantLen w = (wireN w.r.n).length + 10 := by rw [wantLen, hb]; rfl
    have p1 := put16_len w.r.t
    have p2 := put16_len w.cls
    have p3 := put32_len 0
    have p4 := put16_len 0
    have q1 := put16_lenE ht
    have q2 := put16_lenE hcl
    have q3 := put32_lenE (n := 0) (by decide)
    have q4 := put16_lenE (n := 0) (by decide)
    repeat' (first | (intro; cbv) | (with_reducible refine and_side ?_ ?_; rotate_left; try cbv) | (refine ChkP.mk (by decide +kernel) ?_; cbv) | (refine br_intro ?_ ?_ <;> intro <;> cbv) | (refine get_at har (by assumption) (by assumption) (by assumption) (by assumption) ?_; cbv) | (refine get_lt har (by assumption) (by assumption) (by assumption) ?_; intro x xx hx hxx; cbv) | (refine get_atN har (by assumption) (by assumption) (by assumption) (by assumption) ?_; cbv) | (refine get_ltN har (by assumption) (by assumption) (by assumption) ?_; intro x xx hx hxx; cbv) | (refine get_atI har (by assumption) (by assumption) (by decide) ?_; cbv) | (refine get_twoA har (by assumption) (by assumption) (by decide) ?_; intro x hx; cbv) | (refine get_twoB har (by assumption) (by assumption) (by decide) ?_; intro x hx; cbv) | (refine bytes_intro (by assumption) ?_; cbv) | (exact side_lt har (by assumption) (by assumption)) | (exact side_inb har (by assumption) (by assumption) (by assumption)) | (exact side_sh har (by decide)) | (exact side_app har (by assumption) (by assumption) (by omega)) | (exact side_app0 har (by assumption) (by omega)) | (exact side_new har (by assumption) (by omega)) | (exact side_one har (by assumption) (by omega)) | (exact side_oneN har (by assumption) (by omega)) | (exact side_flat har (by assumption)) | (exact side_sbig har (by omega)) | (refine side_sbig har ?_; simp; done) | (exact side_oneI har (by assumption) (by omega)) | (refine side_ix har ?_; simp; done) | (refine side_ix har ?_; simp; omega) | (refine call_intro (sl2put hP (by assumption) (by assumption) (by first | omega | decide | (simp only [List.length_append, List.length_nil]; omega)) (by assumption)) ?_; rintro r ob ⟨rfl, rfl⟩; generalize hls : encB (_ ++ wireN _) = ls; cbv) | (refine calld_intro (sl2put hP (by assumption) (by assumption) (by first | omega | decide | (simp only [List.length_append, List.length_nil]; omega)) (by assumption)) ?_; generalize hls : encB (_ ++ wireN _) = ls; cbv) | (refine call_intro (sPut16 hP (by assumption) (by first | omega | decide | (simp only [List.length_append, List.length_nil]; omega))) ?_; rintro r ob ⟨rfl, rfl⟩; generalize hls : encB (_ ++ put16 _) = ls; cbv) | (refine calld_intro (sPut16 hP (by assumption) (by first | omega | decide | (simp only [List.length_append, List.length_nil]; omega))) ?_; generalize hls : encB (_ ++ put16 _) = ls; cbv) | (refine call_intro (sPut32 hP (by assumption) (by first | omega | decide | (simp only [List.length_append, List.length_nil]; omega))) ?_; rintro r ob ⟨rfl, rfl⟩; generalize hls : encB (_ ++ put32 _) = ls; cbv) | (refine calld_intro (sPut32 hP (by assumption) (by first | omega | decide | (simp only [List.length_append, List.length_nil]; omega))) ?_; generalize hls : encB (_ ++ put32 _) = ls; cbv))
    exact ⟨⟨_, _, _, _, by assumption, by assumption, by simp only [List.length_append]; omega, rfl, rfl⟩⟩
set_option maxRecDepth 20000 in
theorem fn120 : Tryz.prog.funcs[120]? = some Tryz.f120 := rfl
set_option maxHeartbeats 40000000 in
set_option maxRecDepth 3000 in
theorem iWantWire (hP : Prg P) {w : Wnt} {ns tos txs nus : List (List T)} (h1 : encN w.r.n = ns) (h2 : encN w.r.to = tos) (h3 : encB w.r.tx = txs) (h4 : encI w.r.nu = nus) (hok : wantOk w = true) :
    ACall P 120 [.agg [.t (.sl ns), .t (.int .i64 w.r.t), .t (.int .i64 w.r.ttl), .t (.int .i64 w.r.addr), .t (.sl tos), .t (.sl txs), .t (.sl nus), .t (.int .i64 w.cls), .t (.bool w.bare)]] []
      (fun r ob => ∃ (lr : List UInt8) (ls' : List (List T)), encB lr = ls' ∧ lr.length = wantLen w ∧ r = .one (.row 32 0) ∧ ob = [(32, .row 1 ls' 0 [0] false)]) := by
  refine acall_fn (md := md) [some [(0, 1)]] v120 hP.mixed hP.tab (fn_at hP fn120) 1 rfl (by decide +kernel) rfl ?_
  intro ar har
  cbv
  repeat' (first | (intro; cbv) | (with_reducible refine and_side ?_ ?_; rotate_left; try cbv) | (refine ChkP.mk (by decide +kernel) ?_; cbv) | (refine br_intro ?_ ?_ <;> intro <;> cbv) | (refine get_at har (by assumption) (by assumption) (by assumption) (by assumption) ?_; cbv) | (refine get_lt har (by assumption) (by assumption) (by assumption) ?_; intro x xx hx hxx; cbv) | (refine get_atN har (by assumption) (by assumption) (by assumption) (by assumption) ?_; cbv) | (refine get_ltN har (by assumption) (by assumption) (by assumption) ?_; intro x xx hx hxx; cbv) | (refine get_atI har (by assumption) (by assumption) (by decide) ?_; cbv) | (refine get_twoA har (by assumption) (by assumption) (by decide) ?_; intro x hx; cbv) | (refine get_twoB har (by assumption) (by assumption) (by decide) ?_; intro x hx; cbv) | (refine bytes_intro (by assumption) ?_; cbv) | (exact side_lt har (by assumption) (by assumption)) | (exact side_inb har (by assumption) (by assumption) (by assumption)) | (exact side_sh har (by decide)) | (exact side_app har (by assumption) (by assumption) (by omega)) | (exact side_app0 har (by assumption) (by omega)) | (exact side_new har (by assumption) (by omega)) | (exact side_one har (by assumption) (by omega)) | (exact side_oneN har (by assumption) (by omega)) | (exact side_flat har (by assumption)) | (exact side_sbig har (by omega)) | (refine side_sbig har ?_; simp; done) | (exact side_oneI har (by assumption) (by omega)) | (refine side_ix har ?_; simp; done) | (refine side_ix har ?_; simp; omega))
  · rename_i hb
    obtain ⟨hnb, ht⟩ := want_bare hok hb
    have hwl : wantLen w = (wireN w.r.n).length + 10 := by rw [wantLen, hb]; rfl
    repeat' (first | (intro; cbv) | (with_reducible refine and_side ?_ ?_; rotate_left; try cbv) | (refine ChkP.mk (by decide +kernel) ?_; cbv) | (refine br_intro ?_ ?_ <;> intro <;> cbv) | (refine get_at har (by assumption) (by assumption) (by assumption) (by assumption) ?_; cbv) | (refine get_lt har (by assumption) (by assumption) (by assumption) ?_; intro x xx hx hxx; cbv) | (refine get_atN har (by assumption) (by assumption) (by assumption) (by assumption) ?_; cbv) | (refine get_ltN har (by assumption) (by assumption) (by assumption) ?_; intro x xx hx hxx; cbv) | (refine get_atI har (by assumption) (by assumption) (by decide) ?_; cbv) | (refine get_twoA har (by assumption) (by assumption) (by decide) ?_; intro x hx; cbv) | (refine get_twoB har (by assumption) (by assumption) (by decide) ?_; intro x hx; cbv) | (refine bytes_intro (by assumption) ?_; cbv) | (exact side_lt har (by assumption) (by assumption)) | (exact side_inb har (by assumption) (by assumption) (by assumption)) | (exact side_sh har (by decide)) | (exact side_app har (by assumption) (by assumption) (by omega)) | (exact side_app0 har (by assumption) (by omega)) | (exact side_new har (by assumption) (by omega)) | (exact side_one har (by assumption) (by omega)) | (exact side_oneN har (by assumption) (by omega)) | (exact side_flat har (by assumption)) | (exact side_sbig har (by omega)) | (refine side_sbig har ?_; simp; done) | (exact side_oneI har (by assumption) (by omega)) | (refine side_ix har ?_; simp; done) | (refine side_ix har ?_; simp; omega) | (refine call_intro (iRecord hP (by assumption) (by assumption) (show encB [] = [] from rfl) (by decide)) ?_; rintro r ob ⟨rfl, rfl⟩; generalize hrec : encB (catB _) = rec1; cbv) | (refine calld_intro (iRecord hP (by assumption) (by assumption) (show encB [] = [] from rfl) (by decide)) ?_; generalize hrec : encB (catB _) = rec1; cbv))
    exact ⟨⟨_, _, by assumption, by simp only [catB, List.flatMap_cons, List.flatMap_nil, List.length_append, id, List.length_nil, fourB_len, twoB_len1]; omega, rfl, rfl⟩⟩
  · rename_i hb
    have hrr := want_rr hok hb
    obtain ⟨hnb, htob, htxl, hnu6, hnul⟩ := rrOk_facts hrr
    have hwl : wantLen w = recLen w.r := by rw [wantLen, hb]; rfl
    have hdl := dataI_len2 hrr
    repeat' (first | (intro; cbv) | (with_reducible refine and_side ?_ ?_; rotate_left; try cbv) | (refine ChkP.mk (by decide +kernel) ?_; cbv) | (refine br_intro ?_ ?_ <;> intro <;> cbv) | (refine get_at har (by assumption) (by assumption) (by assumption) (by assumption) ?_; cbv) | (refine get_lt har (by assumption) (by assumption) (by assumption) ?_; intro x xx hx hxx; cbv) | (refine get_atN har (by assumption) (by assumption) (by assumption) (by assumption) ?_; cbv) | (refine get_ltN har (by assumption) (by assumption) (by assumption) ?_; intro x xx hx hxx; cbv) | (refine get_atI har (by assumption) (by assumption) (by decide) ?_; cbv) | (refine get_twoA har (by assumption) (by assumption) (by decide) ?_; intro x hx; cbv) | (refine get_twoB har (by assumption) (by assumption) (by decide) ?_; intro x hx; cbv) | (refine bytes_intro (by assumption) ?_; cbv) | (exact side_lt har (by assumption) (by assumption)) | (exact side_inb har (by assumption) (by assumption) (by assumption)) | (exact side_sh har (by decide)) | (exact side_app har (by assumption) (by assumption) (by omega)) | (exact side_app0 har (by assumption) (by omega)) | (exact side_new har (by assumption) (by omega)) | (exact side_one har (by assumption) (by omega)) | (exact side_oneN har (by assumption) (by omega)) | (exact side_flat har (by assumption)) | (exact side_sbig har (by omega)) | (refine side_sbig har ?_; simp; done) | (exact side_oneI har (by assumption) (by omega)) | (refine side_ix har ?_; simp; done) | (refine side_ix har ?_; simp; omega) | (refine call_intro (iData hP (by assumption) (by assumption) (by assumption) (by omega) (by assumption) (by omega)) ?_; rintro r ob ⟨rfl, rfl⟩; generalize hdi : encB (dataI _ _ _ _ _) = di; cbv) | (refine calld_intro (iData hP (by assumption) (by assumption) (by assumption) (by omega) (by assumption) (by omega)) ?_; generalize hdi : encB (dataI _ _ _ _ _) = di; cbv) | (refine call_intro (iRecord hP (by assumption) (by assumption) (by assumption) (by omega)) ?_; rintro r ob ⟨rfl, rfl⟩; generalize hrec : encB (catB _) = rec1; cbv) | (refine calld_intro (iRecord hP (by assumption) (by assumption) (by assumption) (by omega)) ?_; generalize hrec : encB (catB _) = rec1; cbv))
    exact ⟨⟨_, _, by assumption, by rw [hwl, recLen]; simp only [catB, List.flatMap_cons, List.flatMap_nil, List.length_append, id, List.length_nil, fourB_len, twoB_len1]; omega, rfl, rfl⟩⟩
end Go.TL.Tryz

/- TfMoE -/
namespace Go.TL.Tryz
open Go Go.TL Go.Proofs
set_option maxRecDepth 20000
variable {P : Program}
theorem put_e {l : List UInt8} {ls : List (List T)} {n : Int} (h : encB (l ++ put16 n) = ls) (hn : 0 ≤ n ∧ n ≤ 65535) : ∃ pb, encB pb = ls ∧ pb.length = l.length + 2 := ⟨_, h, by rw [List.length_append, put16_lenE hn]⟩
theorem wire_e {l : List UInt8} {ls : List (List T)} {n : List (List UInt8)} (h : encB (l ++ wireN n) = ls) : ∃ pb, encB pb = ls ∧ pb.length = l.length + (wireN n).length := ⟨_, h, by rw [List.length_append]⟩
theorem flags_rng {ar : Ar} (har : ar = std) {op code : Int} (ho : op = 0 ∨ op = 5) (hc : 0 ≤ code ∧ code ≤ 10) :
    (0 ≤ ar.iop .add .i64 (ar.iop .shl .i64 op 11) code ∧ ar.iop .add .i64 (ar.iop .shl .i64 op 11) code ≤ 65535) ∧
    (0 ≤ ar.iop .add .i64 (ar.iop .add .i64 (ar.iop .shl .i64 op 11) code) 32768 ∧ ar.iop .add .i64 (ar.iop .add .i64 (ar.iop .shl .i64 op 11) code) 32768 ≤ 65535) ∧
    (0 ≤ ar.iop .add .i64 (ar.iop .add .i64 (ar.iop .shl .i64 op 11) code) 1024 ∧ ar.iop .add .i64 (ar.iop .add .i64 (ar.iop .shl .i64 op 11) code) 1024 ≤ 65535) ∧
    (0 ≤ ar.iop .add .i64 (ar.iop .add .i64 (ar.iop .add .i64 (ar.iop .shl .i64 op 11) code) 32768) 1024 ∧ ar.iop .add .i64 (ar.iop .add .i64 (ar.iop .add .i64 (ar.iop .shl .i64 op 11) code) 32768) 1024 ≤ 65535) := by
  subst har
  have e : iopS .shl .i64 op 11 = op * 2048 := by rcases ho with rfl | rfl <;> rfl
  have e0 : iopS .add .i64 (op * 2048) code = op * 2048 + code := addI (by omega) (by omega)
  have e1 : iopS .add .i64 (op * 2048 + code) 32768 = op * 2048 + code + 32768 := addI (by omega) (by omega)
  have e2 : iopS .add .i64 (op * 2048 + code) 1024 = op * 2048 + code + 1024 := addI (by omega) (by omega)
  have e3 : iopS .add .i64 (op * 2048 + code + 32768) 1024 = op * 2048 + code + 32768 + 1024 := addI (by omega) (by omega)
  simp only [std, e, e0, e1, e2, e3]
  omega
def sumW (l : List Wnt) : Nat := (l.map wantLen).sum
def sumR (l : List Rrv) : Nat := (l.map recLen).sum
def mesLen (m : Mes) : Nat := 16 + (m.qs.map fun q => (wireN q.n).length).sum + sumW m.pr + sumW m.up + sumR (m.an ++ m.au ++ m.mo)
/-- What a message that may be is known to have. -/
structure MayF (m : Mes) : Prop where
  id : 0 ≤ m.id ∧ m.id ≤ 65535
  op : m.op = 0 ∨ m.op = 5
  code : 0 ≤ m.code ∧ m.code ≤ 10
  q : ∃ q, m.qs = [q] ∧ nameOk q.n = true ∧ NmB q.n ∧ (0 ≤ q.t ∧ q.t ≤ 65535)
  an : listOk rrOkR m.an = true
  au : listOk rrOkR m.au = true
  mo : listOk rrOkR m.mo = true
  pr : listOk wantOk m.pr = true
  up : listOk wantOk m.up = true
theorem mayF {m : Mes} (h : mayB m = true) : MayF m := by
  simp only [mayB, Bool.and_eq_true, decide_eq_true_eq] at h
  obtain ⟨h1, h2, h3, h4, h5, h6, h7, h8, h9, h10, _⟩ := h
  refine ⟨h1, h2, h3, ?_, h6, h7, h8, h9, h10⟩
  match hq : m.qs, h4 with
  | [q], _ =>
    rw [hq] at h5
    simp only [List.all_cons, List.all_nil, Bool.and_true, Bool.and_eq_true] at h5
    refine ⟨q, rfl, h5.1, nmB_ok h5.1, ?_⟩
    have := h5.2
    simp only [askedB, typeB, Bool.or_eq_true, decide_eq_true_eq] at this
    omega
theorem len_rng {ar : Ar} (har : ar = std) {es : List (List T)} {k : Nat} (h : es.length = k) (hk : k ≤ 12) : 0 ≤ ar.len es ∧ ar.len es ≤ 65535 := by
  subst har
  exact ⟨Int.natCast_nonneg _, by show (es.length : Int) ≤ _; omega⟩
theorem sumW_le {l : List Wnt} (h : ∀ (i : Nat) w, l[i]? = some w → wantOk w = true) (hl : l.length ≤ 12) (n : Nat) : sumW (l.take n) ≤ 5040 := by
  have key : ∀ m : List Wnt, (∀ w, w ∈ m → wantLen w ≤ 420) → sumW m ≤ 420 * m.length := by
    intro m
    induction m with
    | nil => intro _; simp [sumW]
    | cons a r ih =>
      intro hm
      have h1 := hm a (by simp)
      have h2 := ih (fun w hw => hm w (by simp [hw]))
      simp only [sumW, List.map_cons, List.sum_cons, List.length_cons] at *
      omega
  have h1 := key (l.take n) (fun w hw => by
    have hw2 := List.mem_of_mem_take hw
    obtain ⟨i, hi, rfl⟩ := List.getElem_of_mem hw2
    exact want_len (h i _ (List.getElem?_eq_getElem hi)))
  have h2 : (l.take n).length ≤ 12 := by simp; omega
  omega
theorem take_allW {α : Type} {l : List α} {n : Nat} (h : l.length ≤ n) : l.take n = l := List.take_of_length_le h
theorem sumR_le {l : List Rrv} (h : ∀ (i : Nat) x, l[i]? = some x → rrOkR x = true) (hl : l.length ≤ 36) (n : Nat) : sumR (l.take n) ≤ 15120 := by
  have key : ∀ m : List Rrv, (∀ w, w ∈ m → recLen w ≤ 420) → sumR m ≤ 420 * m.length := by
    intro m
    induction m with
    | nil => intro _; simp [sumR]
    | cons a r ih =>
      intro hm
      have h1 := hm a (by simp)
      have h2 := ih (fun w hw => hm w (by simp [hw]))
      simp only [sumR, List.map_cons, List.sum_cons, List.length_cons] at *
      omega
  have h1 := key (l.take n) (fun w hw => by
    have hw2 := List.mem_of_mem_take hw
    obtain ⟨i, hi, rfl⟩ := List.getElem_of_mem hw2
    have hr := h i _ (List.getElem?_eq_getElem hi)
    have := dataI_len2 hr
    have := wireN_len (rrOk_facts hr).1
    unfold recLen; omega)
  have h2 : (l.take n).length ≤ 36 := by simp; omega
  omega
theorem all_e {ar : Ar} (har : ar = std) {an au mo : List Rrv} {ans aus mos : List (List T)} (ha : encR an = ans) (hu : encR au = aus) (ho : encR mo = mos) : encR (an ++ au ++ mo) = ar.app (ar.app (ar.app [] ans) aus) mos := by
  subst har; subst ha; subst hu; subst ho; simp [std, encR]
theorem all3_len {ar : Ar} (har : ar = std) {an au mo : List Rrv} {ans aus mos : List (List T)} (ha : encR an = ans) (hu : encR au = aus) (ho : encR mo = mos) (h1 : an.length ≤ 12) (h2 : au.length ≤ 12) (h3 : mo.length ≤ 12) : (ar.app (ar.app (ar.app [] ans) aus) mos).length ≤ 36 := by
  subst har; subst ha; subst hu; subst ho; simp [std, encR]; omega
theorem all2_len {ar : Ar} (har : ar = std) {an au : List Rrv} {ans aus : List (List T)} (ha : encR an = ans) (hu : encR au = aus) (h1 : an.length ≤ 12) (h2 : au.length ≤ 12) : (ar.app (ar.app [] ans) aus).length ≤ 36 := by
  subst har; subst ha; subst hu; simp [std, encR]; omega
theorem all1_len {ar : Ar} (har : ar = std) {an : List Rrv} {ans : List (List T)} (ha : encR an = ans) (h1 : an.length ≤ 12) : (ar.app [] ans).length ≤ 36 := by
  subst har; subst ha; simp [std, encR]; omega
theorem side_rr {ar : Ar} (har : ar = std) {es fs : List (List T)} {l : List Rrv} (h : es.length ≤ 36) (k : encR l = fs) : Side (ar.room 120 es ∧ ar.wid 7 fs) := by
  subst har; subst k
  exact ⟨by show es.length * (120 + 1) ≤ 2 ^ 46; omega, wid_encR l⟩
theorem sumW_succ {l : List Wnt} {i : Nat} {w : Wnt} (h : l[i]? = some w) : sumW (l.take (i + 1)) = sumW (l.take i) + wantLen w := by
  rw [List.take_add_one, h]; simp [sumW]
theorem sumR_succ {l : List Rrv} {i : Nat} {x : Rrv} (h : l[i]? = some x) : sumR (l.take (i + 1)) = sumR (l.take i) + recLen x := by
  rw [List.take_add_one, h]; simp [sumR]
set_option maxRecDepth 20000 in
theorem fn35 : Tryz.prog.funcs[35]? = some Tryz.f35 := rfl
set_option maxHeartbeats 40000000 in
set_option maxRecDepth 3000 in
theorem sl4bytes (hP : Prg P) {m : Mes} {qss ans aus mos prs ups : List (List T)} (hm : MesA m qss ans aus mos prs ups) (hmay : mayB m = true) :
    ACall P 35 [.agg [.t (.int .i64 m.id), .t (.bool m.reply), .t (.int .i64 m.op), .t (.bool m.auth), .t (.int .i64 m.code), .t (.sl qss), .t (.sl ans), .t (.sl aus), .t (.sl mos), .t (.sl prs), .t (.sl ups)]] []
      (fun r ob => ∃ (lr : List UInt8) (ls' : List (List T)), encB lr = ls' ∧ lr.length = mesLen m ∧ r = .one (.row 32 0) ∧ ob = [(32, .row 1 ls' 0 [0] false)]) := by
  generalize hK : (fun (r : A) (ob : Obs) => ∃ (lr : List UInt8) (ls' : List (List T)), encB lr = ls' ∧ lr.length = mesLen m ∧ r = .one (.row 32 0) ∧ ob = [(32, .row 1 ls' 0 [0] false)]) = K
  have hk : ∀ (b : List UInt8) (bs : List (List T)), encB b = bs → b.length = mesLen m → RetP K (.one (.row 32 0)) [(32, .row 1 bs 0 [0] false)] := by
    intro b bs h1 h2
    subst hK
    exact ⟨⟨b, bs, h1, h2, rfl, rfl⟩⟩
  obtain ⟨hq, ha, hu, ho, hp, hup⟩ := hm
  obtain ⟨fid, fop, fcode, ⟨q, fq, fnok, fnb, fqt⟩, fan, fau, fmo, fpr, fup⟩ := mayF hmay
  have hnil : encB [] = [] := rfl
  refine acall_fn (md := mdM) [some [(0, 1)]] v35 hP.mixed hP.tab (fn_at hP fn35) 1 rfl (by decide +kernel) rfl ?_
  intro ar har
  obtain ⟨r1, r2, r3, r4⟩ := flags_rng har fop fcode
  have r5 := len_rng har (encR_len ha) (listOk_len fan)
  have r6 := len_rng har (encR_len hu) (listOk_len fau)
  have r7 := len_rng har (encR_len ho) (listOk_len fmo)
  have r8 := len_rng har (encW_len hp) (listOk_len fpr)
  have r9 := len_rng har (encW_len hup) (listOk_len fup)
  have r10 : (0 : Int) ≤ 1 ∧ (1 : Int) ≤ 65535 := by decide
  have hone : ar.icmp .neq (ar.len qss) 1 = false := by
    have := encQ_len hq
    rw [fq] at this
    subst har
    simp [std, icmpS, this]
  have hqr : ∀ q', m.qs[(0 : Int).toNat]? = some q' → (0 ≤ q'.t ∧ q'.t ≤ 65535) ∧ NmB q'.n ∧ (wireN q'.n).length ≤ 200 ∧ (m.qs.map fun q => (wireN q.n).length).sum = (wireN q'.n).length := by
    intro q' hq'
    rw [fq] at hq' ⊢
    obtain rfl : q = q' := by simpa using hq'
    exact ⟨fqt, fnb, wireN_len fnb, by simp⟩
  have hpk : ∀ (i : Nat) w, m.pr[i]? = some w → wantOk w = true := fun i w h => by have := fpr; simp only [listOk, Bool.and_eq_true, List.all_eq_true] at this; exact this.2 w (List.mem_of_getElem? h)
  have huk : ∀ (i : Nat) w, m.up[i]? = some w → wantOk w = true := fun i w h => by have := fup; simp only [listOk, Bool.and_eq_true, List.all_eq_true] at this; exact this.2 w (List.mem_of_getElem? h)
  have hrk : ∀ (i : Nat) x, (m.an ++ m.au ++ m.mo)[i]? = some x → rrOkR x = true := fun i x h => by
    have h1 := fan; have h2 := fau; have h3 := fmo
    simp only [listOk, Bool.and_eq_true, List.all_eq_true] at h1 h2 h3
    have := List.mem_of_getElem? h
    simp only [List.mem_append] at this
    rcases this with (h | h) | h
    · exact h1.2 x h
    · exact h2.2 x h
    · exact h3.2 x h
  have hpS := sumW_le hpk (listOk_len fpr)
  have huS := sumW_le huk (listOk_len fup)
  have hqS : (m.qs.map fun q => (wireN q.n).length).sum ≤ 200 := by rw [fq]; simpa using wireN_len fnb
  generalize hN : 16 + (m.qs.map fun q => (wireN q.n).length).sum = N
  refine (fun (tail : True ∧ (?T : Prop)) => ?main) ?tl
  case main =>
    cbv
    repeat' (first | (intro; cbv) | (with_reducible refine and_side ?_ ?_; rotate_left; try cbv) | (refine ChkP.mk (by decide +kernel) ?_; cbv) | (refine br_intro ?_ ?_ <;> intro <;> cbv) | (refine get_at har (by assumption) (by assumption) (by assumption) (by assumption) ?_; cbv) | (refine get_lt har (by assumption) (by assumption) (by assumption) ?_; intro x xx hx hxx; cbv) | (refine get_atN har (by assumption) (by assumption) (by assumption) (by assumption) ?_; cbv) | (refine get_ltN har (by assumption) (by assumption) (by assumption) ?_; intro x xx hx hxx; cbv) | (refine get_atI har (by assumption) (by assumption) (by decide) ?_; cbv) | (refine get_twoA har (by assumption) (by assumption) (by decide) ?_; intro x hx; cbv) | (refine get_twoB har (by assumption) (by assumption) (by decide) ?_; intro x hx; cbv) | (refine bytes_intro (by assumption) ?_; cbv) | (exact side_lt har (by assumption) (by assumption)) | (exact side_inb har (by assumption) (by assumption) (by assumption)) | (exact side_sh har (by decide)) | (exact side_app har (by assumption) (by assumption) (by omega)) | (exact side_app0 har (by assumption) (by omega)) | (exact side_new har (by assumption) (by omega)) | (exact side_one har (by assumption) (by omega)) | (exact side_oneN har (by assumption) (by omega)) | (exact side_flat har (by assumption)) | (exact side_sbig har (by omega)) | (refine side_sbig har ?_; simp; done) | (exact side_oneI har (by assumption) (by omega)) | (refine side_ix har ?_; simp; done) | (refine side_ix har ?_; simp; omega) | (refine get_qst har (by assumption) (one_q har (by assumption) (by assumption)) ?_; intro q qns hqq hqn; cbv) | (refine call_intro (sPut16 hP (by assumption) (by first | omega | decide)) ?_; rintro r ob ⟨rfl, rfl⟩; generalize hls : encB (_ ++ put16 _) = ls; obtain ⟨pb, hpb, hpl⟩ := put_e hls (by first | assumption | exact (hqr _ (by assumption)).1); clear hls; (try simp only [List.length_nil, Nat.zero_add] at hpl); cbv) | (refine calld_intro (sPut16 hP (by assumption) (by first | omega | decide)) ?_; generalize hls : encB (_ ++ put16 _) = ls; obtain ⟨pb, hpb, hpl⟩ := put_e hls (by first | assumption | exact (hqr _ (by assumption)).1); clear hls; (try simp only [List.length_nil, Nat.zero_add] at hpl); cbv) | (refine call_intro (sl2put hP (by assumption) (by assumption) (by omega) (hqr _ (by assumption)).2.1) ?_; rintro r ob ⟨rfl, rfl⟩; generalize hls : encB (_ ++ wireN _) = ls; obtain ⟨pb, hpb, hpl⟩ := wire_e hls; clear hls; have hqs := (hqr _ (by assumption)).2.2; cbv) | (refine calld_intro (sl2put hP (by assumption) (by assumption) (by omega) (hqr _ (by assumption)).2.1) ?_; generalize hls : encB (_ ++ wireN _) = ls; obtain ⟨pb, hpb, hpl⟩ := wire_e hls; clear hls; have hqs := (hqr _ (by assumption)).2.2; cbv))
    all_goals
      refine LoopP.mk (List UInt8 × List (List T) × Int) [1, 2, 6, 7] [] (fun x => ⟨[(1, .one (.ptr 16 0)), (2, .one .nil), (6, .one (.row 17 0)), (7, .one (.t (.int .i64 x.2.2)))], [(16, .box [.t (.int .i64 m.id), .t (.bool m.reply), .t (.int .i64 m.op), .t (.bool m.auth), .t (.int .i64 m.code), .t (.sl qss), .t (.sl ans), .t (.sl aus), .t (.sl mos), .t (.sl prs), .t (.sl ups)] false), (17, .row 1 x.2.1 0 [0] false)]⟩)
        (fun x => encB x.1 = x.2.1 ∧ 0 ≤ x.2.2 ∧ x.1.length = N + sumW (m.pr.take x.2.2.toNat)) (fun x => m.pr.length - x.2.2.toNat) (pb, ls, 0) ?_ ?_ ?_
      · kernel_rfl
      · exact ⟨hpb, Int.le_refl _, by show pb.length = N + 0; omega⟩
      · with_reducible exact tail.2
  case tl =>
    refine ⟨trivial, ?_⟩
    intro x hx
    obtain ⟨b, bs, i⟩ := x
    have hb : encB b = bs := hx.1
    have hi0 : 0 ≤ i := hx.2.1
    have hbl : b.length = N + sumW (m.pr.take i.toNat) := hx.2.2
    have hle := hpS i.toNat
    clear hx
    cbv
    repeat' (first | (intro; cbv) | (with_reducible refine and_side ?_ ?_; rotate_left; try cbv) | (refine ChkP.mk (by decide +kernel) ?_; cbv) | (refine br_intro ?_ ?_ <;> intro <;> cbv) | (refine get_at har (by assumption) (by assumption) (by assumption) (by assumption) ?_; cbv) | (refine get_lt har (by assumption) (by assumption) (by assumption) ?_; intro x xx hx hxx; cbv) | (refine get_atN har (by assumption) (by assumption) (by assumption) (by assumption) ?_; cbv) | (refine get_ltN har (by assumption) (by assumption) (by assumption) ?_; intro x xx hx hxx; cbv) | (refine get_atI har (by assumption) (by assumption) (by decide) ?_; cbv) | (refine get_twoA har (by assumption) (by assumption) (by decide) ?_; intro x hx; cbv) | (refine get_twoB har (by assumption) (by assumption) (by decide) ?_; intro x hx; cbv) | (refine bytes_intro (by assumption) ?_; cbv) | (exact side_lt har (by assumption) (by assumption)) | (exact side_inb har (by assumption) (by assumption) (by assumption)) | (exact side_sh har (by decide)) | (exact side_app har (by assumption) (by assumption) (by omega)) | (exact side_app0 har (by assumption) (by omega)) | (exact side_new har (by assumption) (by omega)) | (exact side_one har (by assumption) (by omega)) | (exact side_oneN har (by assumption) (by omega)) | (exact side_flat har (by assumption)) | (exact side_sbig har (by omega)) | (refine side_sbig har ?_; simp; done) | (exact side_oneI har (by assumption) (by omega)) | (refine side_ix har ?_; simp; done) | (refine side_ix har ?_; simp; omega) | (refine get_ltW har (by assumption) (by assumption) (by assumption) ?_; intro w wns wtos wtxs wnus hw hwn hwto hwtx hwnu; cbv) | (refine call_intro (sl4want hP (by assumption) (by omega) (by assumption) (by assumption) (by assumption) (by assumption) (hpk _ _ (by assumption))) ?_; rintro r ob ⟨l1, lr, ls1, ls, hl1, hlr, hlrl, rfl, rfl⟩; cbv))
    · have hi : ar.iop .add .i64 i 1 = i + 1 := add_std har (by have := (List.getElem?_eq_some_iff.1 hw).1; omega) (by have := (List.getElem?_eq_some_iff.1 hw).1; have := listOk_len fpr; omega)
      have hs : sumW (m.pr.take (i + 1).toNat) = sumW (m.pr.take i.toNat) + wantLen w := by rw [show (i + 1).toNat = i.toNat + 1 by omega]; exact sumW_succ hw
      have hlt := (List.getElem?_eq_some_iff.1 hw).1
      refine ⟨(lr, ls, i + 1), by rw [← hi]; kernel_rfl, ⟨hlr, by dsimp only; omega, by dsimp only; omega⟩, by dsimp only; omega⟩
    have hend := ge_len har (by assumption) hi0
    rw [encW_len hp] at hend
    rw [take_allW hend] at hbl
    have hle2 := huS
    refine LoopP.mk (List UInt8 × List (List T) × Int) [1, 2, 6, 8] [] (fun x => ⟨[(1, .one (.ptr 16 0)), (2, .one .nil), (6, .one (.row 17 0)), (8, .one (.t (.int .i64 x.2.2)))], [(16, .box [.t (.int .i64 m.id), .t (.bool m.reply), .t (.int .i64 m.op), .t (.bool m.auth), .t (.int .i64 m.code), .t (.sl qss), .t (.sl ans), .t (.sl aus), .t (.sl mos), .t (.sl prs), .t (.sl ups)] false), (17, .row 1 x.2.1 0 [0] false)]⟩)
        (fun x => encB x.1 = x.2.1 ∧ 0 ≤ x.2.2 ∧ x.1.length = N + sumW m.pr + sumW (m.up.take x.2.2.toNat)) (fun x => m.up.length - x.2.2.toNat) (b, bs, 0) ?e2 ?f2 ?g2
    case e2 => kernel_rfl
    case f2 => exact ⟨hb, Int.le_refl _, by show b.length = _ + 0; omega⟩
    case g2 =>
      clear hb hi0 hbl hend hle
      intro x hx
      obtain ⟨b, bs, i⟩ := x
      have hb : encB b = bs := hx.1
      have hi0 : 0 ≤ i := hx.2.1
      have hbl : b.length = N + sumW m.pr + sumW (m.up.take i.toNat) := hx.2.2
      have hle := huS i.toNat
      have hlp := hpS 12
      rw [take_allW (listOk_len fpr)] at hlp
      clear hx
      cbv
      repeat' (first | (intro; cbv) | (with_reducible refine and_side ?_ ?_; rotate_left; try cbv) | (refine ChkP.mk (by decide +kernel) ?_; cbv) | (refine br_intro ?_ ?_ <;> intro <;> cbv) | (refine get_at har (by assumption) (by assumption) (by assumption) (by assumption) ?_; cbv) | (refine get_lt har (by assumption) (by assumption) (by assumption) ?_; intro x xx hx hxx; cbv) | (refine get_atN har (by assumption) (by assumption) (by assumption) (by assumption) ?_; cbv) | (refine get_ltN har (by assumption) (by assumption) (by assumption) ?_; intro x xx hx hxx; cbv) | (refine get_atI har (by assumption) (by assumption) (by decide) ?_; cbv) | (refine get_twoA har (by assumption) (by assumption) (by decide) ?_; intro x hx; cbv) | (refine get_twoB har (by assumption) (by assumption) (by decide) ?_; intro x hx; cbv) | (refine bytes_intro (by assumption) ?_; cbv) | (exact side_lt har (by assumption) (by assumption)) | (exact side_inb har (by assumption) (by assumption) (by assumption)) | (exact side_sh har (by decide)) | (exact side_app har (by assumption) (by assumption) (by omega)) | (exact side_app0 har (by assumption) (by omega)) | (exact side_new har (by assumption) (by omega)) | (exact side_one har (by assumption) (by omega)) | (exact side_oneN har (by assumption) (by omega)) | (exact side_flat har (by assumption)) | (exact side_sbig har (by omega)) | (refine side_sbig har ?_; simp; done) | (exact side_oneI har (by assumption) (by omega)) | (refine side_ix har ?_; simp; done) | (refine side_ix har ?_; simp; omega) | (refine get_ltW har (by assumption) (by assumption) (by assumption) ?_; intro w wns wtos wtxs wnus hw hwn hwto hwtx hwnu; cbv) | (refine call_intro (sl4want hP (by assumption) (by omega) (by assumption) (by assumption) (by assumption) (by assumption) (huk _ _ (by assumption))) ?_; rintro r ob ⟨l1, lr, ls1, ls, hl1, hlr, hlrl, rfl, rfl⟩; cbv))
      case refine_1.refine_2.refine_2 =>
        have hi : ar.iop .add .i64 i 1 = i + 1 := add_std har (by have := (List.getElem?_eq_some_iff.1 hw).1; omega) (by have := (List.getElem?_eq_some_iff.1 hw).1; have := listOk_len fup; omega)
        have hs : sumW (m.up.take (i + 1).toNat) = sumW (m.up.take i.toNat) + wantLen w := by rw [show (i + 1).toNat = i.toNat + 1 by omega]; exact sumW_succ hw
        have hlt := (List.getElem?_eq_some_iff.1 hw).1
        refine ⟨(lr, ls, i + 1), by rw [← hi]; kernel_rfl, ⟨hlr, by dsimp only; omega, by dsimp only; omega⟩, by dsimp only; omega⟩
      case refine_2.refine_2.refine_2.refine_1 => exact side_rr har (all3_len har ha hu ho (listOk_len fan) (listOk_len fau) (listOk_len fmo)) ho
      case refine_2.refine_2.refine_1 => exact side_rr har (all2_len har ha hu (listOk_len fan) (listOk_len fau)) hu
      case refine_2.refine_1 => exact side_rr har (all1_len har ha (listOk_len fan)) ha
      have hend := ge_len har (by assumption) hi0
      rw [encW_len hup] at hend
      rw [take_allW hend] at hbl
      have hal := all_e har ha hu ho
      refine LoopP.mk (List UInt8 × List (List T) × List (List T) × Int) [2, 6, 9, 10] [] (fun x => ⟨[(2, .one .nil), (6, .one (.row 16 0)), (9, .one (.row 17 0)), (10, .one (.t (.int .i64 x.2.2.2)))], [(16, .row 1 x.2.1 0 [0] false), (17, .row 7 x.2.2.1 0 [0] false)]⟩)
        (fun x => encB x.1 = x.2.1 ∧ 0 ≤ x.2.2.2 ∧ x.1.length = N + sumW m.pr + sumW m.up + sumR ((m.an ++ m.au ++ m.mo).take x.2.2.2.toNat) ∧ encR (m.an ++ m.au ++ m.mo) = x.2.2.1) (fun x => (m.an ++ m.au ++ m.mo).length - x.2.2.2.toNat) (b, bs, ar.app (ar.app (ar.app [] ans) aus) mos, 0) ?e3 ?f3 ?g3
      case e3 => kernel_rfl
      case f3 => exact ⟨hb, Int.le_refl _, by show b.length = _ + 0; omega, hal⟩
      case g3 =>
        have hlu := huS 12
        rw [take_allW (listOk_len fup)] at hlu
        have hRl : (m.an ++ m.au ++ m.mo).length ≤ 36 := by have := listOk_len fan; have := listOk_len fau; have := listOk_len fmo; simp only [List.length_append]; omega
        clear hb hi0 hbl hend hle hal
        intro x hx
        obtain ⟨b, bs, al, i⟩ := x
        have hb : encB b = bs := hx.1
        have hi0 : 0 ≤ i := hx.2.1
        have hbl : b.length = N + sumW m.pr + sumW m.up + sumR ((m.an ++ m.au ++ m.mo).take i.toNat) := hx.2.2.1
        have hal : encR (m.an ++ m.au ++ m.mo) = al := hx.2.2.2
        have hle := sumR_le hrk hRl i.toNat
        clear hx
        cbv
        repeat' (first | (intro; cbv) | (with_reducible refine and_side ?_ ?_; rotate_left; try cbv) | (refine ChkP.mk (by decide +kernel) ?_; cbv) | (refine br_intro ?_ ?_ <;> intro <;> cbv) | (refine get_at har (by assumption) (by assumption) (by assumption) (by assumption) ?_; cbv) | (refine get_lt har (by assumption) (by assumption) (by assumption) ?_; intro x xx hx hxx; cbv) | (refine get_atN har (by assumption) (by assumption) (by assumption) (by assumption) ?_; cbv) | (refine get_ltN har (by assumption) (by assumption) (by assumption) ?_; intro x xx hx hxx; cbv) | (refine get_atI har (by assumption) (by assumption) (by decide) ?_; cbv) | (refine get_twoA har (by assumption) (by assumption) (by decide) ?_; intro x hx; cbv) | (refine get_twoB har (by assumption) (by assumption) (by decide) ?_; intro x hx; cbv) | (refine bytes_intro (by assumption) ?_; cbv) | (exact side_lt har (by assumption) (by assumption)) | (exact side_inb har (by assumption) (by assumption) (by assumption)) | (exact side_sh har (by decide)) | (exact side_app har (by assumption) (by assumption) (by omega)) | (exact side_app0 har (by assumption) (by omega)) | (exact side_new har (by assumption) (by omega)) | (exact side_one har (by assumption) (by omega)) | (exact side_oneN har (by assumption) (by omega)) | (exact side_flat har (by assumption)) | (exact side_sbig har (by omega)) | (refine side_sbig har ?_; simp; done) | (exact side_oneI har (by assumption) (by omega)) | (refine side_ix har ?_; simp; done) | (refine side_ix har ?_; simp; omega) | (refine get_ltR har (by assumption) (by assumption) (by assumption) ?_; intro r rns rtos rtxs rnus hr hrn hrto hrtx hrnu; cbv) | (refine call_intro (sl3rrN hP (by assumption) (by omega) (by assumption) (by assumption) (by assumption) (by assumption) (hrk _ _ (by assumption)) (by decide)) ?_; rintro r ob ⟨l1, lr, ls1, ls, hl1, hlr, hlrl, rfl, rfl⟩; cbv))
        · have hi : ar.iop .add .i64 i 1 = i + 1 := add_std har (by have := (List.getElem?_eq_some_iff.1 hr).1; omega) (by have := (List.getElem?_eq_some_iff.1 hr).1; omega)
          have hs : sumR ((m.an ++ m.au ++ m.mo).take (i + 1).toNat) = sumR ((m.an ++ m.au ++ m.mo).take i.toNat) + recLen r := by rw [show (i + 1).toNat = i.toNat + 1 by omega]; exact sumR_succ hr
          have hlt := (List.getElem?_eq_some_iff.1 hr).1
          refine ⟨(lr, ls, al, i + 1), by rw [← hi]; kernel_rfl, ⟨hlr, by dsimp only; omega, by dsimp only; omega, hal⟩, by dsimp only; omega⟩
        have hend := ge_len har (by assumption) hi0
        rw [encR_len hal] at hend
        rw [take_allW hend] at hbl
        exact hk b bs hb (by unfold mesLen; omega)
end Go.TL.Tryz
