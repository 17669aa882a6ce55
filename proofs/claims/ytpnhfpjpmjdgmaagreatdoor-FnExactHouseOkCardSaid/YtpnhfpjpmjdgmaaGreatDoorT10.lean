/- Texts of a proof, joined by a program (merge.py): TfItoT TfTxD TfRevI TfShB TfShC TfShD TfDhcI TfHouP TfHouI TfHouL TfHozE. -/
import Derived.Test.YtpnhfpjpmjdgmaaGreatDoorT09
import Derived.Lib.ItoaLen
set_option linter.all false
/- TfItoT -/
namespace Go.TL.Tryz
open Go Go.TL Go.Proofs Go.RowKit Go.Sort
set_option maxRecDepth 20000

theorem acall_pure {P : Program} {f : Nat} {fn : Func} {args : List A} {K : A → Obs → Prop} (hf : P.funcs[f]? = some fn) (hb : fn.body.isSome = true) (hn : fn.name ≠ "runtime.NumGoroutine")
    (h : ∀ (w : World) (ok : Nat → Prop) (hd : HF) (vs : List Value), Gl P w ok → (∀ b, ok b → b < w.heap.size) → vs.length = args.length → (∀ (i : Nat) v x, vs[i]? = some v → args[i]? = some x → AR w ok hd (look []) v x) →
      Calls P f vs.toArray w fun e w' => ∃ v t, e = .returned v ∧ Below w.heap.size w w' ∧ (∀ w'', Rep w'' ok v t) ∧ K (.one (.t t)) []) : ACall P f args [] K := by
  refine acall_calls hf hb hn ?_
  intro w ok hd vs G R hl ha
  refine (h w ok hd vs G R.okLt hl ha).mono ?_
  rintro e w' ⟨v, t, rfl, hb, hr, hk⟩
  refine ⟨_, rfl, ok, hd, _, [], hk, ?_, .one _ _ (hr w')⟩
  exact ⟨⟨fun b hb' => Nat.lt_of_lt_of_le (R.okLt b hb') hb.size, fun n b h => absurd rfl h, fun n m b _ h => absurd rfl h, fun n o h => by cases h⟩, hb.os, hb.tape, hb.output, hb.size, fun b h1 _ => hb.block b h1, fun _ h => h, fun _ h => .inl h, fun n b h => absurd rfl h, TL.Keep.refl _ _⟩
theorem rep_string (l : List UInt8) (h : l.length ≤ 2 ^ 63 - 1) (w : World) (ok : Nat → Prop) : Rep w ok (.string ⟨l.toArray⟩) (.str l) := by
  have := Rep.str (w := w) (ok := ok) ⟨l.toArray⟩ (by simpa [ByteArray.size] using h)
  simpa using this
theorem drewN_heap (w : World) (k : Nat) : (w.drewN k).heap = w.heap ∧ (w.drewN k).os = w.os ∧ (w.drewN k).tape = w.tape ∧ (w.drewN k).output = w.output := by
  exact ⟨rfl, rfl, rfl, rfl⟩
theorem below_grow (w : World) (k : Nat) (os : Array Obj) : Below w.heap.size w (grow (w.drewN k) os) :=
  ⟨rfl, rfl, rfl, by simp [grow, (drewN_heap w k).1], fun i hi => by simp only [grow, (drewN_heap w k).1]; rw [Array.getElem?_append_left hi]⟩
theorem pow10_eq : Lib.pow10Tab = pow10L := by decide +kernel
theorem iItoa {P : Program} (hP : Prg P) {n : Int} : ACall P 158 [.one (.t (.int .i64 n))] [] (fun r ob => r = .one (.t (.str (Lib.itoa n))) ∧ ob = []) := by
  have hP := hP.eq
  subst hP
  refine acall_pure Tryz.func158 (by rfl) (by decide) ?_
  intro w ok hd vs G hlt hl ha
  obtain ⟨v, rfl⟩ : ∃ v, vs = [v] := by
    match vs, hl with
    | [v], _ => exact ⟨v, rfl⟩
  have hv := (ha 0 v _ rfl rfl).one_inv
  cases hv with
  | int _ _ hk =>
    obtain ⟨h0, h1⟩ := i64_rng hk
    obtain ⟨g, hg⟩ : ∃ g, Tryz.prog.globalNamed "internal/strconv.uint64pow10" = some g := ⟨_, by rfl⟩
    have htab : Lib.TabIs Tryz.prog w "internal/strconv.uint64pow10" .u64 Lib.pow10Tab := by
      have := (G g hg).2
      rw [Lib.TabIs, pow10_eq]; exact this
    refine (Tryz.strconv_Itoa n h0 h1 w htab).mono ?_
    rintro e w' ⟨rfl, k, os, rfl⟩
    exact ⟨_, _, rfl, below_grow w k os, fun w'' => rep_string _ (by have := Lib.itoa_length_le n h0 h1; omega) w'' ok, rfl, rfl⟩
theorem dec_digits (u : Nat) : ∀ x, x ∈ Lib.decDigits u → 48 ≤ iB x ∧ iB x ≤ 57 := by
  induction u using Nat.strongRecOn with
  | _ u ih =>
    intro x hx
    have key : ∀ d : Nat, d < 10 → 48 ≤ iB (UInt8.ofNat (48 + d)) ∧ iB (UInt8.ofNat (48 + d)) ≤ 57 := by
      intro d hd
      simp only [iB, UInt8.toNat_ofNat']; omega
    rw [Lib.decDigits] at hx
    split at hx
    · rw [List.mem_singleton] at hx; subst hx; exact key u (by assumption)
    · rcases List.mem_append.1 hx with h | h
      · exact ih (u / 10) (by omega) x h
      · rw [List.mem_singleton] at h; subst h; exact key (u % 10) (by omega)
theorem itoa_chars {n : Int} : ∀ x, x ∈ Lib.itoa n → 45 ≤ iB x ∧ iB x ≤ 57 := by
  intro x hx
  unfold Lib.itoa at hx
  split at hx
  · rcases List.mem_cons.1 hx with e | h
    · subst e; decide
    · have := dec_digits _ x h; omega
  · have := dec_digits _ x hx; omega
theorem itoa_len {n : Int} (h : IntKind.i64.has n) : (Lib.itoa n).length ≤ 21 := Lib.itoa_length_le n (i64_rng h).1 (i64_rng h).2

theorem rep_str_inv {w : World} {ok : Nat → Prop} {v : Value} {s : List UInt8} (h : Rep w ok v (.str s)) : v = .string ⟨s.toArray⟩ := by
  cases h with
  | str b hb => congr
end Go.TL.Tryz

/- TfTxD -/
namespace Go.TL.Tryz
open Go Go.TL Go.Proofs
variable {P : Program}

def decS (l : List UInt8) : List (List UInt8) := l.map fun c => Lib.itoa (iB c)
theorem wid_encS (l : List (List UInt8)) : std.wid 1 (encS l) := by intro x hx; obtain ⟨y, _, rfl⟩ := List.mem_map.1 hx; rfl
theorem side_oneS {ar : Ar} (har : ar = std) {l : List (List UInt8)} {es : List (List T)} {t : T} (h : encS l = es) (hn : l.length ≤ 1000000000) : Side (ar.room 16 (ar.app es [[t]]) ∧ ar.wid 1 [[t]]) := by
  have := encS_len h
  subst har
  exact ⟨by simp [std]; omega, wid_one t⟩
theorem side_flatS {ar : Ar} (har : ar = std) {l : List (List UInt8)} {es : List (List T)} (h : encS l = es) : Side (ar.flat es) := by
  subst har; subst h
  refine ⟨fun x hx t ht => ?_⟩
  obtain ⟨y, _, rfl⟩ := List.mem_map.1 hx
  simp at ht; subst ht; rfl
theorem encS_app {l m : List (List UInt8)} {es fs : List (List T)} (h : encS l = es) (k : encS m = fs) : encS (l ++ m) = es ++ fs := by subst h; subst k; simp [encS]
set_option maxRecDepth 20000 in
theorem fn129 : Tryz.prog.funcs[129]? = some Tryz.f129 := rfl
set_option maxHeartbeats 40000000 in
set_option maxRecDepth 3000 in
theorem iDecimals (hP : Prg P) {n : Int} : ACall P 129 [.one (.t (.int .i64 n))] [] (fun r ob => r = .one (.row 32 0) ∧ ob = [(32, .row 1 (encS (decS (fourB n))) 0 [0] false)]) := by
  refine acall_fn (md := md) [some [(0, 1)]] v129 hP.mixed hP.tab (fn_at hP fn129) 1 rfl (by decide +kernel) rfl ?_
  intro ar har
  cbv
  repeat' (first | (intro; cbv) | (with_reducible refine and_side ?_ ?_; rotate_left; try cbv) | (exact side_flat har (by assumption)) | (refine call_intro (iFour hP) ?_; rintro r ob ⟨rfl, rfl⟩; generalize hfo : encB (fourB _) = fo; cbv))
  have hfl : (fourB n).length = 4 := rfl
  refine LoopP.mk (List (List UInt8) × List (List T) × Int) [3, 8, 9, 10] []
    (fun x => ⟨[(3, .one (.row 16 0)), (8, .one (.row 17 0)), (9, .one (.t (.int .i64 (ar.len fo)))), (10, .one (.t (.int .i64 x.2.2)))], [(16, .row 1 x.2.1 0 [0] false), (17, .row 1 fo 0 [0] false)]⟩)
    (fun x => encS x.1 = x.2.1 ∧ 0 ≤ x.2.2 ∧ x.2.2.toNat ≤ (fourB n).length ∧ x.1 = decS ((fourB n).take x.2.2.toNat)) (fun x => 4 - x.2.2.toNat) ([], [], 0) ?e ?f ?g
  case e => kernel_rfl
  case f => exact ⟨rfl, Int.le_refl _, by simp, rfl⟩
  case g =>
    intro x hx
    obtain ⟨l, os, j⟩ := x
    have hl : encS l = os := hx.1
    have hj0 : 0 ≤ j := hx.2.1
    have hjb : j.toNat ≤ (fourB n).length := hx.2.2.1
    have hll : l = decS ((fourB n).take j.toNat) := hx.2.2.2
    have hln : l.length ≤ 4 := by rw [hll, decS, List.length_map, List.length_take]; omega
    clear hx
    cbv
    repeat' (first | (intro; cbv) | (with_reducible refine and_side ?_ ?_; rotate_left; try cbv) | (refine br_intro ?_ ?_ <;> intro <;> cbv) | (refine get_lt har (by assumption) (by assumption) (by assumption) ?_; intro x xx hx hxx; cbv) | (exact side_lt har (by assumption) (by assumption)) | (refine call_intro (iItoa hP) ?_; rintro r ob ⟨rfl, rfl⟩; generalize hit : Lib.itoa _ = it; cbv))
    · have hlt := (List.getElem?_eq_some_iff.1 hx).1
      have hw : ar.conv .i64 xx = xx := by subst har; rw [← hxx]; exact iB_wrap64 x
      rw [hw] at hit
      have hl1 : l ++ [it] = decS ((fourB n).take (j.toNat + 1)) := by rw [List.take_add_one, hx, hll, ← hit, ← hxx]; simp [decS]
      subst har
      refine ⟨(l ++ [it], encS (l ++ [it]), j + 1), ?_, ⟨rfl, by dsimp only; omega, by dsimp only; omega, by dsimp only; rw [hl1, show (j + 1).toNat = j.toNat + 1 by omega]⟩, by dsimp only; omega⟩
      rw [show encS (l ++ [it]) = std.app os [[.str it]] from encS_app hl rfl, show j + 1 = std.iop .add .i64 j 1 from (addI (by omega) (by omega)).symm]
      kernel_rfl
    · exact side_oneS har hl (by omega)
    · have hg := ge_len har (by assumption) hj0
      rw [encB_len hfo] at hg
      rw [take_all (by omega)] at hll
      exact ⟨⟨rfl, by rw [← hl, hll]⟩⟩
end Go.TL.Tryz

/- TfRevI -/
namespace Go.TL.Tryz
open Go Go.TL Go.Proofs
set_option maxRecDepth 20000
variable {P : Program}
theorem dig_short : ∀ n : Fin 256, (digB (n.val : Int)).length ≤ 3 := by decide +kernel
theorem oct_short (ip : Int) (i : Nat) : (digB (octI ip i)).length ≤ 3 := by
  have h : 0 ≤ octI ip i ∧ octI ip i < 256 := by unfold octI; omega
  have := dig_short ⟨(octI ip i).toNat, by omega⟩
  simpa [Int.toNat_of_nonneg h.1] using this
theorem rev_short (ip : Int) : ∀ l ∈ revOf ip, l.length ≤ 7 := by
  intro l hl
  simp only [revOf, List.mem_cons, List.not_mem_nil, or_false] at hl
  rcases hl with rfl | rfl | rfl | rfl | rfl | rfl
  · have := oct_short ip 0; omega
  · have := oct_short ip 1; omega
  · have := oct_short ip 2; omega
  · have := oct_short ip 3; omega
  · decide
  · decide
theorem itoa_dig : ∀ n : Fin 256, Lib.itoa (n.val : Int) = digB (n.val : Int) := by decide +kernel
theorem itoa_byte (v : Int) : Lib.itoa (iB (byteOf v)) = digB (v % 256) := by
  rw [iB_byteOf_mod]
  have h : 0 ≤ v % 256 ∧ v % 256 < 256 := by omega
  have := itoa_dig ⟨(v % 256).toNat, by omega⟩
  simpa [Int.toNat_of_nonneg h.1] using this
theorem dec_rev (ip : Int) : (decS (fourB ip)).reverse ++ [[105, 110, 45, 97, 100, 100, 114], [97, 114, 112, 97]] = revOf ip := by
  show [Lib.itoa (iB (byteOf ip)), Lib.itoa (iB (byteOf (shr8 ip 8))), Lib.itoa (iB (byteOf (shr8 ip 16))), Lib.itoa (iB (byteOf (shr8 (shr8 ip 16) 8)))] ++ _ = _
  rw [itoa_byte, itoa_byte, itoa_byte, itoa_byte]
  rw [show shr8 (shr8 ip 16) 8 = shr8 ip 16 / 2 ^ 8 from shr8_eq _ 8 (by decide), show shr8 ip 16 = ip / 2 ^ 16 from shr8_eq ip 16 (by decide), show shr8 ip 8 = ip / 2 ^ 8 from shr8_eq ip 8 (by decide), show ip / 2 ^ 16 / 2 ^ 8 = ip / 2 ^ 24 by omega]
  simp only [revOf, octI]
  rw [show ip / 2 ^ (8 * 0) = ip by simp]
  rfl
def mdV (n : Nat) : Md := bif eqB n 130 then ⟨[some [(1000000, 0)]], true⟩ else md n
set_option maxRecDepth 20000 in
theorem fn86 : Tryz.prog.funcs[86]? = some Tryz.f86 := rfl
set_option maxHeartbeats 40000000 in
set_option maxRecDepth 3000 in
theorem iReverse (hP : Prg P) {ip : Int} : ACall P 86 [.one (.t (.int .i64 ip))] [] (fun r ob => r = .agg [.t (.sl (encN (revOf ip)))] ∧ ob = []) := by
  generalize hh : encN (revOf ip) = hs
  refine acall_fn (md := mdV) [none] v86 hP.mixed hP.tab (fn_at hP fn86) 1 rfl (by decide +kernel) rfl ?_
  intro ar har
  cbv
  refine call_intro (iDecimals hP) ?_
  rintro r ob ⟨rfl, rfl⟩
  obtain ⟨a, b, c, d, habcd⟩ : ∃ a b c d, decS (fourB ip) = [a, b, c, d] := ⟨_, _, _, _, rfl⟩
  have hes : encS (decS (fourB ip)) = [[.str a], [.str b], [.str c], [.str d]] := by rw [habcd]; rfl
  generalize hed : encS (decS (fourB ip)) = es at hes
  cbv
  repeat' (first | (with_reducible refine and_side ?_ ?_; rotate_left; try cbv))
  case refine_1 => exact side_flatS har hed
  refine call_intro (iRev4 hP hes) ?_
  rintro r ob ⟨rfl, rfl⟩
  cbv
  repeat' (first | (with_reducible refine and_side ?_ ?_; rotate_left; try cbv))
  have hrev : [d, c, b, a] ++ [[105, 110, 45, 97, 100, 100, 114], [97, 114, 112, 97]] = revOf ip := by
    have := dec_rev ip
    rw [habcd] at this
    simpa using this
  have hshort : ∀ l ∈ revOf ip, l.length ≤ 100 := by
    intro l hl
    have := rev_short ip l hl
    omega
  rw [← hrev] at hshort
  all_goals first
    | exact ⟨⟨by subst har; show (6 : Nat) * (16 + 1) ≤ 2 ^ 46; decide, by subst har; intro x hx; simp [std] at hx; rcases hx with rfl | rfl <;> rfl⟩⟩
    | exact ⟨by subst har; intro x hx t ht; simp at hx; rcases hx with rfl | rfl | rfl | rfl <;> (simp at ht; subst ht; rfl)⟩
    | skip
  refine call_intro (iNameOf hP (n := [d, c, b, a] ++ [[105, 110, 45, 97, 100, 100, 114], [97, 114, 112, 97]]) (by subst har; rfl) (by simp) hshort) ?_
  rintro r ob ⟨rfl, rfl⟩
  rw [hrev, hh]
  cbv
  repeat' (first | (intro; cbv) | (with_reducible refine and_side ?_ ?_; rotate_left; try cbv) | (refine ChkP.mk (by decide +kernel) ?_; cbv) | (refine br_intro ?_ ?_ <;> intro <;> cbv) | (refine side_sh har ?_; decide))
  exact ⟨⟨rfl, rfl⟩⟩
end Go.TL.Tryz

/- TfShB -/
namespace Go.TL.Tryz
open Go Go.TL Go.Proofs
set_option maxRecDepth 20000
variable {P : Program}
theorem word_nat (a b c d : UInt8) : wI ((bW a <<< 24) ||| (bW b <<< 16) ||| (bW c <<< 8) ||| bW d) = iB a * 16777216 + iB b * 65536 + iB c * 256 + iB d := by
  have ha := a.toNat_lt; have hb := b.toNat_lt; have hc := c.toNat_lt; have hd := d.toNat_lt
  simp only [wI, iB, bW, BitVec.toNat_or, BitVec.toNat_shiftLeft, BitVec.toNat_ofNat]
  have e0 : ∀ x : Nat, x < 256 → x % 2 ^ 32 = x := fun x h => Nat.mod_eq_of_lt (by omega)
  rw [e0 _ ha, e0 _ hb, e0 _ hc, e0 _ hd]
  rw [Nat.mod_eq_of_lt (show a.toNat <<< 24 < 2 ^ 32 by rw [Nat.shiftLeft_eq]; omega), Nat.mod_eq_of_lt (show b.toNat <<< 16 < 2 ^ 32 by rw [Nat.shiftLeft_eq]; omega), Nat.mod_eq_of_lt (show c.toNat <<< 8 < 2 ^ 32 by rw [Nat.shiftLeft_eq]; omega)]
  rw [← Nat.shiftLeft_add_eq_or_of_lt (show b.toNat <<< 16 < 2 ^ 24 by rw [Nat.shiftLeft_eq]; omega)]
  rw [show a.toNat <<< 24 + b.toNat <<< 16 = (a.toNat * 256 + b.toNat) <<< 16 by simp only [Nat.shiftLeft_eq]; omega]
  rw [← Nat.shiftLeft_add_eq_or_of_lt (show c.toNat <<< 8 < 2 ^ 16 by rw [Nat.shiftLeft_eq]; omega)]
  rw [show (a.toNat * 256 + b.toNat) <<< 16 + c.toNat <<< 8 = (a.toNat * 65536 + b.toNat * 256 + c.toNat) <<< 8 by simp only [Nat.shiftLeft_eq]; omega]
  rw [← Nat.shiftLeft_add_eq_or_of_lt (show d.toNat < 2 ^ 8 by omega)]
  simp only [Nat.shiftLeft_eq]
  omega
theorem getS_word {b : List UInt8} {i : Nat} (h : 4 * i + 4 ≤ b.length) : getS b ((4 * i : Nat) : Int) 4 = (iB (b.getD (4 * i) 0) * 16777216 + iB (b.getD (4 * i + 1) 0) * 65536 + iB (b.getD (4 * i + 2) 0) * 256 + iB (b.getD (4 * i + 3) 0), ((4 * i : Nat) : Int) + 4) := by
  rw [getS, if_neg (by omega)]
  have e : subB b ((4 * i : Nat) : Int) 4 = [b.getD (4 * i) 0, b.getD (4 * i + 1) 0, b.getD (4 * i + 2) 0, b.getD (4 * i + 3) 0] := by
    unfold subB
    rw [show (((4 * i : Nat) : Int) + 4).toNat = 4 * i + 4 by omega, Int.toNat_natCast, List.drop_take, show 4 * i + 4 - 4 * i = 4 by omega]
    rw [List.drop_eq_getElem_cons (by omega), List.drop_eq_getElem_cons (by omega), List.drop_eq_getElem_cons (by omega), List.drop_eq_getElem_cons (by omega)]
    simp only [List.take_succ_cons, List.take_zero]
    simp only [List.getD, List.getElem?_eq_getElem (show 4 * i < b.length by omega), List.getElem?_eq_getElem (show 4 * i + 1 < b.length by omega), List.getElem?_eq_getElem (show 4 * i + 2 < b.length by omega), List.getElem?_eq_getElem (show 4 * i + 3 < b.length by omega), Option.getD_some]
  rw [e, getV_four]
theorem conv_word (b : List UInt8) (i : Nat) : std.conv .u32 (iB (b.getD (4 * i) 0) * 16777216 + iB (b.getD (4 * i + 1) 0) * 65536 + iB (b.getD (4 * i + 2) 0) * 256 + iB (b.getD (4 * i + 3) 0)) = wI (word4 b i) := by
  rw [word4, word_nat]
  have a1 := iB_lo (b.getD (4 * i) 0); have a2 := iB_hi (b.getD (4 * i) 0)
  have b1 := iB_lo (b.getD (4 * i + 1) 0); have b2 := iB_hi (b.getD (4 * i + 1) 0)
  have c1 := iB_lo (b.getD (4 * i + 2) 0); have c2 := iB_hi (b.getD (4 * i + 2) 0)
  have d1 := iB_lo (b.getD (4 * i + 3) 0); have d2 := iB_hi (b.getD (4 * i + 3) 0)
  exact wrap_u32 (by omega)
set_option maxRecDepth 20000 in
theorem fn171 : Tryz.prog.funcs[171]? = some Tryz.f171 := rfl
set_option maxHeartbeats 40000000 in
set_option maxRecDepth 3000 in
theorem iRot (hP : Prg P) {x : Wd} {xx n : Int} (hx : wI x = xx) {k : Nat} {q : Int} (hq : q.toNat = k) (hn : iopS .and .u64 (IntKind.u64.wrap n) 31 = 32 - q) (hk : 1 ≤ q ∧ q ≤ 31) : ACall P 171 [.one (.t (.int .u32 xx)), .one (.t (.int .i64 n))] [] (fun r ob => r = .one (.t (.int .u32 (wI (rotr x k)))) ∧ ob = []) := by
  refine acall_fn (md := md) [none] v171 hP.mixed hP.tab (fn_at hP fn171) 2 rfl (by decide +kernel) rfl ?_
  intro ar har
  cbv
  repeat' (first | (intro; cbv) | (with_reducible refine and_side ?_ ?_; rotate_left; try cbv))
  case refine_2.refine_2 =>
    subst har; subst hx
    refine ⟨⟨?_, rfl⟩⟩
    have hs : iopS .sub .u64 32 (32 - q) = q := by
      show IntKind.u64.wrap ((32 : Int) - (32 - q)) = q
      rw [show (32 : Int) - (32 - q) = q by omega]
      exact wrap_id (by simp [IntKind.has, IntKind.min, IntKind.max, IntKind.signed, IntKind.bits]; omega)
    show A.one (V.t (T.int .u32 (iopS .or .u32 (iopS .shl .u32 (wI x) (iopS .and .u64 (IntKind.u64.wrap n) 31)) (iopS .shr .u32 (wI x) (iopS .sub .u64 32 (iopS .and .u64 (IntKind.u64.wrap n) 31)))))) = _
    rw [hn, hs, shl32 x (k := 32 - k) (by omega) (by omega), shr32 x (k := k) (by omega) (by omega), or32, rotr, BitVec.or_comm]
  case refine_2.refine_1 =>
    subst har
    refine ⟨?_⟩
    show (0 : Int) ≤ iopS .sub .u64 32 (iopS .and .u64 (IntKind.u64.wrap n) 31)
    have hs : iopS .sub .u64 32 (32 - q) = q := by
      show IntKind.u64.wrap ((32 : Int) - (32 - q)) = q
      rw [show (32 : Int) - (32 - q) = q by omega]
      exact wrap_id (by simp [IntKind.has, IntKind.min, IntKind.max, IntKind.signed, IntKind.bits]; omega)
    rw [hn, hs]; omega
  case refine_1 =>
    subst har
    refine ⟨?_⟩
    show (0 : Int) ≤ iopS .and .u64 (IntKind.u64.wrap n) 31
    rw [hn]; omega
set_option maxRecDepth 20000 in
theorem fn170 : Tryz.prog.funcs[170]? = some Tryz.f170 := rfl
set_option maxHeartbeats 40000000 in
set_option maxRecDepth 3000 in
theorem iTurn (hP : Prg P) {x : Wd} {xx n : Int} (hx : wI x = xx) {k : Nat} {q : Int} (hq : q.toNat = k) (hn : iopS .and .u64 (IntKind.u64.wrap (IntKind.i64.wrap (0 - n))) 31 = 32 - q) (hk : 1 ≤ q ∧ q ≤ 31) : ACall P 170 [.one (.t (.int .u32 xx)), .one (.t (.int .i64 n))] [] (fun r ob => r = .one (.t (.int .u32 (wI (rotr x k)))) ∧ ob = []) := by
  refine acall_fn (md := md) [none] v170 hP.mixed hP.tab (fn_at hP fn170) 2 rfl (by decide +kernel) rfl ?_
  intro ar har
  cbv
  repeat' (first | (intro; cbv))
  refine call_intro (iRot hP hx hq (by subst har; exact hn) hk) ?_
  rintro r ob ⟨rfl, rfl⟩
  generalize hrr : wI (rotr x k) = rr
  cbv
  repeat' (first | (intro; cbv) | (with_reducible refine and_side ?_ ?_; rotate_left; try cbv) | (refine ChkP.mk (by decide +kernel) ?_; cbv) | (refine br_intro ?_ ?_ <;> intro <;> cbv) | (refine get_at har (by assumption) (by assumption) (by assumption) (by assumption) ?_; cbv) | (refine get_lt har (by assumption) (by assumption) (by assumption) ?_; intro x xx hx hxx; cbv) | (refine get_atN har (by assumption) (by assumption) (by assumption) (by assumption) ?_; cbv) | (refine get_ltN har (by assumption) (by assumption) (by assumption) ?_; intro x xx hx hxx; cbv) | (refine get_atI har (by assumption) (by assumption) (by decide) ?_; cbv) | (refine get_twoA har (by assumption) (by assumption) (by decide) ?_; intro x hx; cbv) | (refine get_twoB har (by assumption) (by assumption) (by decide) ?_; intro x hx; cbv) | (refine bytes_intro (by assumption) ?_; cbv) | (exact side_lt har (by assumption) (by assumption)) | (exact side_inb har (by assumption) (by assumption) (by assumption)) | (exact side_sh har (by decide)) | (exact side_app har (by assumption) (by assumption) (by omega)) | (exact side_app0 har (by assumption) (by omega)) | (exact side_new har (by assumption) (by omega)) | (exact side_one har (by assumption) (by omega)) | (exact side_oneN har (by assumption) (by omega)) | (exact side_flat har (by assumption)) | (exact side_sbig har (by omega)) | (refine side_sbig har ?_; simp; done) | (exact side_oneI har (by assumption) (by omega)) | (refine side_ix har ?_; simp; done) | (refine side_ix har ?_; simp; omega))
  exact ⟨⟨rfl, rfl⟩⟩

end Go.TL.Tryz

/- TfShC -/
namespace Go.TL.Tryz
open Go Go.TL Go.Proofs
set_option maxRecDepth 20000
variable {P : Program}
def boxS (a b c d e f g h : Int) : Ob := .box [.row 1 0, .t (.int .u32 a), .t (.int .u32 b), .t (.int .u32 c), .t (.int .u32 d), .t (.int .u32 e), .t (.int .u32 f), .t (.int .u32 g), .t (.int .u32 h)] false
/-- The first ones of the second list, the others of the first. -/
def mixN (n : Nat) (x y : N8) : N8 := match n with
  | 0 => x
  | 1 => ⟨y.a, x.b, x.c, x.d, x.e, x.f, x.g, x.h⟩
  | 2 => ⟨y.a, y.b, x.c, x.d, x.e, x.f, x.g, x.h⟩
  | 3 => ⟨y.a, y.b, y.c, x.d, x.e, x.f, x.g, x.h⟩
  | 4 => ⟨y.a, y.b, y.c, y.d, x.e, x.f, x.g, x.h⟩
  | 5 => ⟨y.a, y.b, y.c, y.d, y.e, x.f, x.g, x.h⟩
  | 6 => ⟨y.a, y.b, y.c, y.d, y.e, y.f, x.g, x.h⟩
  | 7 => ⟨y.a, y.b, y.c, y.d, y.e, y.f, y.g, x.h⟩
  | _ => y
theorem side_x {ar : Ar} (har : ar = std) {l : List Wd} {es : List (List T)} {i : Int} (hes : encU l = es) (hl : l.length = 64) (h : 0 ≤ i ∧ i < 64) : Side (ar.inb i es) := by
  have := encU_len hes
  subst har
  exact ⟨by simp [std]; omega⟩
set_option maxRecDepth 20000 in
theorem fn156 : Tryz.prog.funcs[156]? = some Tryz.f156 := rfl
set_option maxHeartbeats 40000000 in
set_option maxRecDepth 3000 in
theorem iBlock (hP : Prg P) {v : V8} {a1 b1 c1 d1 e1 f1 g1 h1 : Int} (hv : V8R v a1 b1 c1 d1 e1 f1 g1 h1) {b : List UInt8} {bs : List (List T)} (hb : encB b = bs) (hbl : b.length = 64) {ks : List (List T)} (hks : encU kC = ks) :
    ACall P 156 [.one (.ptr 0 0), .one (.t (.sl bs))] [(0, boxS a1 b1 c1 d1 e1 f1 g1 h1), (1, .row 1 ks 0 [0] false)]
      (fun r ob => ∃ n : N8, V8R (blockV kC v b) n.a n.b n.c n.d n.e n.f n.g n.h ∧ r = .tup [] ∧ ob = [(0, boxS n.a n.b n.c n.d n.e n.f n.g n.h), (1, .row 1 ks 0 [0] false)]) := by
  generalize hKK : (fun (r : A) (ob : Obs) => ∃ n : N8, V8R (blockV kC v b) n.a n.b n.c n.d n.e n.f n.g n.h ∧ r = A.tup [] ∧ ob = [(0, boxS n.a n.b n.c n.d n.e n.f n.g n.h), (1, Ob.row 1 ks 0 [0] false)]) = K
  have hkl : kC.length = 64 := rfl
  generalize hkk : kC = kk at *
  have hksl := encU_len hks
  refine acall_fn (md := md) [none] v156 hP.mixed hP.tab (fn_at hP fn156) 2 rfl (by decide +kernel) rfl ?_
  intro ar har
  cbv
  repeat' (first | (with_reducible refine and_side ?_ ?_; rotate_left; try cbv))
  case refine_1 => exact ⟨by subst har; simp [std]⟩
  refine loop_start [] [] ?_
  cbv
  refine LoopR.mk (List Wd × List (List T) × Int) (fun x => ([(18, .one (.t (.int .i64 x.2.2)))], [(16, .row 1 x.2.1 0 [0] false)])) (fun x => encU x.1 = x.2.1 ∧ 0 ≤ x.2.2 ∧ x.2.2 ≤ 16 ∧ x.1 = sch1 b x.2.2.toNat) (fun x => 16 - x.2.2.toNat) (List.replicate 64 0, ar.rep 64 [.int .u32 0], 0) ?e ?f ?g
  case e => kernel_rfl
  case f => exact ⟨by subst har; exact encU_zero rfl, Int.le_refl _, (by decide : (0 : Int) ≤ 16), rfl⟩
  case g =>
    intro x hx
    obtain ⟨ws, wss, i⟩ := x
    have hws : encU ws = wss := hx.1
    have hi0 : 0 ≤ i := hx.2.1
    have hi16 : i ≤ 16 := hx.2.2.1
    have hwv : ws = sch1 b i.toNat := hx.2.2.2
    clear hx
    have hwl : ws.length = 64 := by rw [hwv]; exact sch1_len b _
    have hwsl := encU_len hws
    have e4 : iopS .mul .i64 4 i = 4 * i := mulI (by omega) (by omega)
    cbv
    repeat' (first | (intro; cbv) | (refine br_intro ?_ ?_ <;> intro <;> cbv))
    case refine_1 =>
      have hlt := lt_cmp har (by assumption : ar.icmp .lss i 16 = true)
      have eidx : ar.iop .mul .i64 4 i = ((4 * i.toNat : Nat) : Int) := by subst har; show iopS .mul .i64 4 i = _; rw [e4]; omega
      have hW : std.conv .u32 (getS b (ar.iop .mul .i64 4 i) 4).1 = wI (word4 b i.toNat) := by rw [eidx, getS_word (by omega)]; exact conv_word b i.toNat
      refine call_intro (iGet hP (b := b) (i := ar.iop .mul .i64 4 i) (k := 4) hb (by omega) (by decide)) ?_
      rintro r ob ⟨rfl, rfl⟩
      generalize hgs : getS b (ar.iop .mul .i64 4 i) 4 = gs at hW ⊢
      obtain ⟨gv, ga⟩ := gs
      dsimp only at hW ⊢
      clear eidx
      cbv
      repeat' (first | (intro; cbv) | (with_reducible refine and_side ?_ ?_; rotate_left; try cbv))
      case refine_1 => exact side_x har hws hwl ⟨hi0, by omega⟩
      case refine_2.refine_1 => exact side_x har hws hwl ⟨hi0, by omega⟩
      case refine_2.refine_2 =>
        have hi : ar.iop .add .i64 i 1 = i + 1 := add_std har (by omega) (by omega)
        refine ⟨(ws.set i.toNat (word4 b i.toNat), ar.setc wss i 0 [.int .u32 (ar.conv .u32 gv)], i + 1), by rw [← hi]; kernel_rfl, ⟨?_, by dsimp only; omega, by dsimp only; omega, ?_⟩, by dsimp only; omega⟩
        · subst har; exact (encU_set hws hW.symm).symm
        · rw [show (i + 1).toNat = i.toNat + 1 by omega, hwv]; rfl
    case refine_2 =>
      have hi16e := ge_cmp har (by assumption : ar.icmp .lss i 16 = false)
      have hie : i.toNat = 16 := by omega
      rw [hie] at hwv
      clear hi0 hi16 hi16e hie e4
      refine loop_start [18, 19] [] ?_
      cbv
      refine LoopR.mk (List Wd × List (List T) × Int) (fun x => ([(9, .one (.t (.int .i64 x.2.2)))], [(16, .row 1 x.2.1 0 [0] false)])) (fun x => encU x.1 = x.2.1 ∧ 16 ≤ x.2.2 ∧ x.2.2 ≤ 64 ∧ x.1 = sch2 ws (x.2.2.toNat - 16)) (fun x => 64 - x.2.2.toNat) (ws, wss, 16) ?e2 ?f2 ?g2
      case e2 => kernel_rfl
      case f2 => exact ⟨hws, Int.le_refl _, (by decide : (16 : Int) ≤ 64), rfl⟩
      case g2 =>
        intro x hx
        obtain ⟨us, uss, i⟩ := x
        have hus : encU us = uss := hx.1
        have hi0 : 16 ≤ i := hx.2.1
        have hi64 : i ≤ 64 := hx.2.2.1
        have huv : us = sch2 ws (i.toNat - 16) := hx.2.2.2
        clear hx
        have hul : us.length = 64 := by rw [huv]; exact sch2_len hwl _
        have husl := encU_len hus
        have s15 : i < 64 → ar.iop .sub .i64 i 15 = i - 15 := fun h => sub_std har (by omega) (by omega)
        have s2 : i < 64 → ar.iop .sub .i64 i 2 = i - 2 := fun h => sub_std har (by omega) (by omega)
        have s16 : i < 64 → ar.iop .sub .i64 i 16 = i - 16 := fun h => sub_std har (by omega) (by omega)
        have s7 : i < 64 → ar.iop .sub .i64 i 7 = i - 7 := fun h => sub_std har (by omega) (by omega)
        cbv
        repeat' (first | (with_reducible refine and_side ?_ ?_; rotate_left; try cbv) | (refine br_intro ?_ ?_ <;> intro <;> cbv))
        case refine_1.refine_1 =>
          have hlt := lt_cmp har (by assumption : ar.icmp .lss i 64 = true)
          exact side_x har hus hul (by show 0 ≤ ar.iop .sub .i64 i 15 ∧ ar.iop .sub .i64 i 15 < 64; rw [s15 hlt]; omega)
        case refine_1.refine_2 =>
          have hlt := lt_cmp har (by assumption : ar.icmp .lss i 64 = true)
          refine get_wordJ har (i.toNat - 15) hus (by show ar.iop .sub .i64 i 15 = _; rw [s15 hlt]; omega) (by omega) fun y1 hy1 => ?_
          cbv
          repeat' (first | (with_reducible refine and_side ?_ ?_; rotate_left; try cbv))
          case refine_1 => exact side_x har hus hul (by show 0 ≤ ar.iop .sub .i64 i 2 ∧ ar.iop .sub .i64 i 2 < 64; rw [s2 hlt]; omega)
          refine get_wordJ har (i.toNat - 2) hus (by show ar.iop .sub .i64 i 2 = _; rw [s2 hlt]; omega) (by omega) fun y2 hy2 => ?_
          cbv
          repeat' (first | (intro; cbv) | (with_reducible refine and_side ?_ ?_; rotate_left; try cbv) | (refine ChkP.mk (by decide +kernel) ?_; cbv))
          case refine_2.refine_1 => exact side_x har hus hul (by show 0 ≤ ar.iop .sub .i64 i 16 ∧ ar.iop .sub .i64 i 16 < 64; rw [s16 hlt]; omega)
          refine get_wordJ har (i.toNat - 16) hus (by show ar.iop .sub .i64 i 16 = _; rw [s16 hlt]; omega) (by omega) fun y3 hy3 => ?_
          cbv
          repeat' (first | (with_reducible refine and_side ?_ ?_; rotate_left; try cbv))
          case refine_1 => exact side_x har hus hul (by show 0 ≤ ar.iop .sub .i64 i 7 ∧ ar.iop .sub .i64 i 7 < 64; rw [s7 hlt]; omega)
          refine get_wordJ har (i.toNat - 7) hus (by show ar.iop .sub .i64 i 7 = _; rw [s7 hlt]; omega) (by omega) fun y4 hy4 => ?_
          cbv
          repeat' (first | (intro; cbv) | (with_reducible refine and_side ?_ ?_; rotate_left; try cbv) | (refine ChkP.mk (by decide +kernel) ?_; cbv) | (exact side_sh har (by decide)) | (refine calld_intro (iTurn hP (by assumption) (k := 7) (q := 7) (by decide) (by decide +kernel) (by decide)) ?_; generalize hr7 : wI (rotr _ 7) = r7; cbv) | (refine calld_intro (iTurn hP (by assumption) (k := 18) (q := 18) (by decide) (by decide +kernel) (by decide)) ?_; generalize hr18 : wI (rotr _ 18) = r18; cbv) | (refine calld_intro (iTurn hP (by assumption) (k := 17) (q := 17) (by decide) (by decide +kernel) (by decide)) ?_; generalize hr17 : wI (rotr _ 17) = r17; cbv) | (refine calld_intro (iTurn hP (by assumption) (k := 19) (q := 19) (by decide) (by decide +kernel) (by decide)) ?_; generalize hr19 : wI (rotr _ 19) = r19; cbv))
          case refine_2.refine_2.refine_2.refine_2.refine_2.refine_1 => exact side_x har hus hul ⟨by omega, hlt⟩
          case refine_2.refine_2.refine_2.refine_2.refine_2.refine_2.refine_1 => exact side_x har hus hul ⟨by omega, hlt⟩
          have hW : wI (wNext us i.toNat) = ar.iop .add .u32 (ar.iop .add .u32 (ar.iop .add .u32 y3 y4) (ar.iop .xor .u32 (ar.iop .xor .u32 r7 r18) (ar.iop .shr .u32 y1 3))) (ar.iop .xor .u32 (ar.iop .xor .u32 r17 r19) (ar.iop .shr .u32 y2 10)) := by
            subst har; subst hr7; subst hr18; subst hr17; subst hr19; subst hy1; subst hy2; subst hy3; subst hy4
            show _ = iopS .add .u32 (iopS .add .u32 (iopS .add .u32 (wI _) (wI _)) (iopS .xor .u32 (iopS .xor .u32 (wI _) (wI _)) (iopS .shr .u32 (wI _) 3))) (iopS .xor .u32 (iopS .xor .u32 (wI _) (wI _)) (iopS .shr .u32 (wI _) 10))
            rw [xor32, xor32, shr32 _ (k := 3) rfl (by decide), shr32 _ (k := 10) rfl (by decide), xor32, xor32, add32, add32, add32, wNext]
            refine congrArg wI ?_
            rw [show wAt us (i.toNat - 16) + sg0 (wAt us (i.toNat - 15)) + wAt us (i.toNat - 7) = wAt us (i.toNat - 16) + wAt us (i.toNat - 7) + sg0 (wAt us (i.toNat - 15)) by ac_rfl]
            rfl
          generalize hWW : ar.iop .add .u32 (ar.iop .add .u32 (ar.iop .add .u32 y3 y4) (ar.iop .xor .u32 (ar.iop .xor .u32 r7 r18) (ar.iop .shr .u32 y1 3))) (ar.iop .xor .u32 (ar.iop .xor .u32 r17 r19) (ar.iop .shr .u32 y2 10)) = WW at hW
          have hi : ar.iop .add .i64 i 1 = i + 1 := add_std har (by omega) (by omega)
          refine ⟨(us.set i.toNat (wNext us i.toNat), ar.setc uss i 0 [.int .u32 WW], i + 1), by rw [← hi, ← hWW]; kernel_rfl, ⟨?_, by dsimp only; omega, by dsimp only; omega, ?_⟩, by dsimp only; omega⟩
          · subst har; exact (encU_set hus hW).symm
          · rw [show (i + 1).toNat - 16 = (i.toNat - 16) + 1 by omega, sch2, ← huv, show 16 + (i.toNat - 16) = i.toNat by omega]
        case refine_2 =>
          have hi64e := ge_cmp har (by assumption : ar.icmp .lss i 64 = false)
          have hie : i.toNat - 16 = 48 := by omega
          rw [hie, hwv] at huv
          clear hi0 hi64 hi64e hie hwv hws hwl hwsl s15 s2 s16 s7
          refine loop_start [9, 35] [] ?_
          cbv
          refine LoopR.mk (V8 × N8 × Int) (fun x => ([(88, .one (.t (.int .i64 x.2.2)))], [(17, .box [.t (.int .u32 x.2.1.a), .t (.int .u32 x.2.1.b), .t (.int .u32 x.2.1.c), .t (.int .u32 x.2.1.d), .t (.int .u32 x.2.1.e), .t (.int .u32 x.2.1.f), .t (.int .u32 x.2.1.g), .t (.int .u32 x.2.1.h)] false)]))
            (fun x => V8R x.1 x.2.1.a x.2.1.b x.2.1.c x.2.1.d x.2.1.e x.2.1.f x.2.1.g x.2.1.h ∧ 0 ≤ x.2.2 ∧ x.2.2 ≤ 64 ∧ x.1 = rnds kk us v x.2.2.toNat) (fun x => 64 - x.2.2.toNat) (v, ⟨a1, b1, c1, d1, e1, f1, g1, h1⟩, 0) ?e3 ?f3 ?g3
          case e3 => kernel_rfl
          case f3 => exact ⟨hv, Int.le_refl _, (by decide : (0 : Int) ≤ 64), rfl⟩
          case g3 =>
            intro x hx
            obtain ⟨u, ⟨a2, b2, c2, d2, e2, f2, g2, h2⟩, i⟩ := x
            have hu : V8R u a2 b2 c2 d2 e2 f2 g2 h2 := hx.1
            have hi0 : 0 ≤ i := hx.2.1
            have hi64 : i ≤ 64 := hx.2.2.1
            have huu : u = rnds kk us v i.toNat := hx.2.2.2
            clear hx
            obtain ⟨ua, ub, uc, ud, ue, uf, ug, uh⟩ := hu
            cbv
            repeat' (first | (with_reducible refine and_side ?_ ?_; rotate_left; try cbv) | (refine br_intro ?_ ?_ <;> intro <;> cbv) | (refine calld_intro (iTurn hP (by assumption) (k := 6) (q := 6) (by decide) (by decide +kernel) (by decide)) ?_; generalize hr6 : wI (rotr _ 6) = r6; cbv) | (refine calld_intro (iTurn hP (by assumption) (k := 11) (q := 11) (by decide) (by decide +kernel) (by decide)) ?_; generalize hr11 : wI (rotr _ 11) = r11; cbv) | (refine calld_intro (iTurn hP (by assumption) (k := 25) (q := 25) (by decide) (by decide +kernel) (by decide)) ?_; generalize hr25 : wI (rotr _ 25) = r25; cbv))
            case refine_1.refine_1 =>
              have hlt := lt_cmp har (by assumption : ar.icmp .lss i 64 = true)
              exact side_x har hks hkl ⟨hi0, hlt⟩
            case refine_1.refine_2 =>
              have hlt := lt_cmp har (by assumption : ar.icmp .lss i 64 = true)
              refine get_wordJ har i.toNat hks (by omega) (by omega) fun rk hrk => ?_
              cbv
              repeat' (first | (with_reducible refine and_side ?_ ?_; rotate_left; try cbv))
              case refine_1 => exact side_x har hus hul ⟨hi0, hlt⟩
              refine get_wordJ har i.toNat hus (by omega) (by omega) fun yw hyw => ?_
              cbv
              repeat' (first | (intro; cbv) | (refine ChkP.mk (by decide +kernel) ?_; cbv) | (refine calld_intro (iTurn hP (by assumption) (k := 2) (q := 2) (by decide) (by decide +kernel) (by decide)) ?_; generalize hr2 : wI (rotr _ 2) = r2; cbv) | (refine calld_intro (iTurn hP (by assumption) (k := 13) (q := 13) (by decide) (by decide +kernel) (by decide)) ?_; generalize hr13 : wI (rotr _ 13) = r13; cbv) | (refine calld_intro (iTurn hP (by assumption) (k := 22) (q := 22) (by decide) (by decide +kernel) (by decide)) ?_; generalize hr22 : wI (rotr _ 22) = r22; cbv))
              have hT : wI (u.h + bg1 u.e + ((u.e &&& u.f) ^^^ (~~~ u.e &&& u.g)) + wAt kk i.toNat + wAt us i.toNat) = ar.iop .add .u32 (ar.iop .add .u32 (ar.iop .add .u32 (ar.iop .add .u32 h2 (ar.iop .xor .u32 (ar.iop .xor .u32 r6 r11) r25)) (ar.iop .xor .u32 (ar.iop .and .u32 e2 f2) (ar.iop .and .u32 (ar.compl .u32 e2) g2))) rk) yw := by
                subst har; subst ua; subst ub; subst uc; subst ud; subst ue; subst uf; subst ug; subst uh; subst hr6; subst hr11; subst hr25; subst hrk; subst hyw
                show _ = iopS .add .u32 (iopS .add .u32 (iopS .add .u32 (iopS .add .u32 (wI _) (iopS .xor .u32 (iopS .xor .u32 (wI _) (wI _)) (wI _))) (iopS .xor .u32 (iopS .and .u32 (wI _) (wI _)) (iopS .and .u32 (std.compl .u32 (wI _)) (wI _)))) (wI _)) (wI _)
                rw [not32, xor32, xor32, and32, and32, xor32, add32, add32, add32, add32]
                rfl
              have hA : wI (u.h + bg1 u.e + ((u.e &&& u.f) ^^^ (~~~ u.e &&& u.g)) + wAt kk i.toNat + wAt us i.toNat + bg0 u.a + ((u.a &&& u.b) ^^^ (u.a &&& u.c) ^^^ (u.b &&& u.c))) = ar.iop .add .u32 (ar.iop .add .u32 (ar.iop .add .u32 (ar.iop .add .u32 (ar.iop .add .u32 h2 (ar.iop .xor .u32 (ar.iop .xor .u32 r6 r11) r25)) (ar.iop .xor .u32 (ar.iop .and .u32 e2 f2) (ar.iop .and .u32 (ar.compl .u32 e2) g2))) rk) yw) (ar.iop .add .u32 (ar.iop .xor .u32 (ar.iop .xor .u32 r2 r13) r22) (ar.iop .xor .u32 (ar.iop .xor .u32 (ar.iop .and .u32 a2 b2) (ar.iop .and .u32 a2 c2)) (ar.iop .and .u32 b2 c2))) := by
                rw [← hT]
                subst har; subst ua; subst ub; subst uc; subst hr2; subst hr13; subst hr22
                show _ = iopS .add .u32 (wI _) (iopS .add .u32 (iopS .xor .u32 (iopS .xor .u32 (wI _) (wI _)) (wI _)) (iopS .xor .u32 (iopS .xor .u32 (iopS .and .u32 (wI _) (wI _)) (iopS .and .u32 (wI _) (wI _))) (iopS .and .u32 (wI _) (wI _))))
                rw [xor32, xor32, and32, and32, and32, xor32, xor32, add32, add32, BitVec.add_assoc]
                rfl
              have hE : wI (u.d + (u.h + bg1 u.e + ((u.e &&& u.f) ^^^ (~~~ u.e &&& u.g)) + wAt kk i.toNat + wAt us i.toNat)) = ar.iop .add .u32 d2 (ar.iop .add .u32 (ar.iop .add .u32 (ar.iop .add .u32 (ar.iop .add .u32 h2 (ar.iop .xor .u32 (ar.iop .xor .u32 r6 r11) r25)) (ar.iop .xor .u32 (ar.iop .and .u32 e2 f2) (ar.iop .and .u32 (ar.compl .u32 e2) g2))) rk) yw) := by
                rw [← hT]
                subst har; subst ud
                show _ = iopS .add .u32 (wI _) (wI _)
                rw [add32]
              generalize hAA : ar.iop .add .u32 (ar.iop .add .u32 (ar.iop .add .u32 (ar.iop .add .u32 (ar.iop .add .u32 h2 (ar.iop .xor .u32 (ar.iop .xor .u32 r6 r11) r25)) (ar.iop .xor .u32 (ar.iop .and .u32 e2 f2) (ar.iop .and .u32 (ar.compl .u32 e2) g2))) rk) yw) (ar.iop .add .u32 (ar.iop .xor .u32 (ar.iop .xor .u32 r2 r13) r22) (ar.iop .xor .u32 (ar.iop .xor .u32 (ar.iop .and .u32 a2 b2) (ar.iop .and .u32 a2 c2)) (ar.iop .and .u32 b2 c2))) = AA at hA
              generalize hEE : ar.iop .add .u32 d2 (ar.iop .add .u32 (ar.iop .add .u32 (ar.iop .add .u32 (ar.iop .add .u32 h2 (ar.iop .xor .u32 (ar.iop .xor .u32 r6 r11) r25)) (ar.iop .xor .u32 (ar.iop .and .u32 e2 f2) (ar.iop .and .u32 (ar.compl .u32 e2) g2))) rk) yw) = EE at hE
              have hi : ar.iop .add .i64 i 1 = i + 1 := add_std har (by omega) (by omega)
              refine ⟨(rnd u (wAt kk i.toNat) (wAt us i.toNat), ⟨AA, a2, b2, c2, EE, e2, f2, g2⟩, i + 1), by rw [← hi, ← hAA, ← hEE]; kernel_rfl, ⟨⟨hA, ua, ub, uc, hE, ue, uf, ug⟩, by dsimp only; omega, by dsimp only; omega, ?_⟩, by dsimp only; omega⟩
              rw [show (i + 1).toNat = i.toNat + 1 by omega, rnds, ← huu]
            case refine_2 =>
              have hi64e := ge_cmp har (by assumption : ar.icmp .lss i 64 = false)
              have hie : i.toNat = 64 := by omega
              rw [hie] at huu
              clear hi0 hi64 hi64e hie
              refine loop_start [88, 89] [] ?_
              cbv
              refine LoopR.mk (Int × Nat × N8) (fun x => ([(187, .one (.t (.int .i64 x.1)))], [(0, .box [.row 1 0, .t (.int .u32 x.2.2.a), .t (.int .u32 x.2.2.b), .t (.int .u32 x.2.2.c), .t (.int .u32 x.2.2.d), .t (.int .u32 x.2.2.e), .t (.int .u32 x.2.2.f), .t (.int .u32 x.2.2.g), .t (.int .u32 x.2.2.h)] false)]))
                (fun x => 0 ≤ x.1 ∧ x.1.toNat = x.2.1 ∧ x.2.1 ≤ 8 ∧ x.2.2 = mixN x.2.1 ⟨a1, b1, c1, d1, e1, f1, g1, h1⟩ ⟨ar.iop .add .u32 a1 a2, ar.iop .add .u32 b1 b2, ar.iop .add .u32 c1 c2, ar.iop .add .u32 d1 d2, ar.iop .add .u32 e1 e2, ar.iop .add .u32 f1 f2, ar.iop .add .u32 g1 g2, ar.iop .add .u32 h1 h2⟩) (fun x => 8 - x.2.1) (0, 0, ⟨a1, b1, c1, d1, e1, f1, g1, h1⟩) ?e4 ?f4 ?g4
              case e4 => kernel_rfl
              case f4 => exact ⟨Int.le_refl _, rfl, Nat.zero_le _, rfl⟩
              case g4 =>
                intro x hx
                obtain ⟨i, n, m⟩ := x
                have hi0 : 0 ≤ i := hx.1
                have hin : i.toNat = n := hx.2.1
                have hn8 : n ≤ 8 := hx.2.2.1
                have hm : m = mixN n ⟨a1, b1, c1, d1, e1, f1, g1, h1⟩ ⟨ar.iop .add .u32 a1 a2, ar.iop .add .u32 b1 b2, ar.iop .add .u32 c1 c2, ar.iop .add .u32 d1 d2, ar.iop .add .u32 e1 e2, ar.iop .add .u32 f1 f2, ar.iop .add .u32 g1 g2, ar.iop .add .u32 h1 h2⟩ := hx.2.2.2
                clear hx
                have hcase := nine hi0 hin hn8
                clear hi0 hin hn8
                rcases hcase with ⟨rfl, rfl⟩ | ⟨rfl, rfl⟩ | ⟨rfl, rfl⟩ | ⟨rfl, rfl⟩ | ⟨rfl, rfl⟩ | ⟨rfl, rfl⟩ | ⟨rfl, rfl⟩ | ⟨rfl, rfl⟩ | ⟨rfl, rfl⟩
                all_goals subst hm
                all_goals cbv
                all_goals (repeat' (first | (intro; cbv) | (refine ChkP.mk (by decide +kernel) ?_; cbv) | (refine br_intro ?_ ?_ <;> intro <;> cbv)))
                case inl.refine_1 => exact ⟨(ar.iop .add .i64 0 1, 1, mixN 1 ⟨a1, b1, c1, d1, e1, f1, g1, h1⟩ ⟨ar.iop .add .u32 a1 a2, ar.iop .add .u32 b1 b2, ar.iop .add .u32 c1 c2, ar.iop .add .u32 d1 d2, ar.iop .add .u32 e1 e2, ar.iop .add .u32 f1 f2, ar.iop .add .u32 g1 g2, ar.iop .add .u32 h1 h2⟩), by kernel_rfl, ⟨by show (0 : Int) ≤ ar.iop .add .i64 0 1; subst har; decide +kernel, by show (ar.iop .add .i64 0 1).toNat = 1; subst har; decide +kernel, by dsimp only; omega, rfl⟩, by dsimp only; omega⟩
                case inl.refine_2 => exact absurd (by assumption : ar.icmp .lss 0 8 = false) (by subst har; decide)
                case inr.inl.refine_1 => exact ⟨(ar.iop .add .i64 1 1, 2, mixN 2 ⟨a1, b1, c1, d1, e1, f1, g1, h1⟩ ⟨ar.iop .add .u32 a1 a2, ar.iop .add .u32 b1 b2, ar.iop .add .u32 c1 c2, ar.iop .add .u32 d1 d2, ar.iop .add .u32 e1 e2, ar.iop .add .u32 f1 f2, ar.iop .add .u32 g1 g2, ar.iop .add .u32 h1 h2⟩), by kernel_rfl, ⟨by show (0 : Int) ≤ ar.iop .add .i64 1 1; subst har; decide +kernel, by show (ar.iop .add .i64 1 1).toNat = 2; subst har; decide +kernel, by dsimp only; omega, rfl⟩, by dsimp only; omega⟩
                case inr.inl.refine_2 => exact absurd (by assumption : ar.icmp .lss 1 8 = false) (by subst har; decide)
                case inr.inr.inl.refine_1 => exact ⟨(ar.iop .add .i64 2 1, 3, mixN 3 ⟨a1, b1, c1, d1, e1, f1, g1, h1⟩ ⟨ar.iop .add .u32 a1 a2, ar.iop .add .u32 b1 b2, ar.iop .add .u32 c1 c2, ar.iop .add .u32 d1 d2, ar.iop .add .u32 e1 e2, ar.iop .add .u32 f1 f2, ar.iop .add .u32 g1 g2, ar.iop .add .u32 h1 h2⟩), by kernel_rfl, ⟨by show (0 : Int) ≤ ar.iop .add .i64 2 1; subst har; decide +kernel, by show (ar.iop .add .i64 2 1).toNat = 3; subst har; decide +kernel, by dsimp only; omega, rfl⟩, by dsimp only; omega⟩
                case inr.inr.inl.refine_2 => exact absurd (by assumption : ar.icmp .lss 2 8 = false) (by subst har; decide)
                case inr.inr.inr.inl.refine_1 => exact ⟨(ar.iop .add .i64 3 1, 4, mixN 4 ⟨a1, b1, c1, d1, e1, f1, g1, h1⟩ ⟨ar.iop .add .u32 a1 a2, ar.iop .add .u32 b1 b2, ar.iop .add .u32 c1 c2, ar.iop .add .u32 d1 d2, ar.iop .add .u32 e1 e2, ar.iop .add .u32 f1 f2, ar.iop .add .u32 g1 g2, ar.iop .add .u32 h1 h2⟩), by kernel_rfl, ⟨by show (0 : Int) ≤ ar.iop .add .i64 3 1; subst har; decide +kernel, by show (ar.iop .add .i64 3 1).toNat = 4; subst har; decide +kernel, by dsimp only; omega, rfl⟩, by dsimp only; omega⟩
                case inr.inr.inr.inl.refine_2 => exact absurd (by assumption : ar.icmp .lss 3 8 = false) (by subst har; decide)
                case inr.inr.inr.inr.inl.refine_1 => exact ⟨(ar.iop .add .i64 4 1, 5, mixN 5 ⟨a1, b1, c1, d1, e1, f1, g1, h1⟩ ⟨ar.iop .add .u32 a1 a2, ar.iop .add .u32 b1 b2, ar.iop .add .u32 c1 c2, ar.iop .add .u32 d1 d2, ar.iop .add .u32 e1 e2, ar.iop .add .u32 f1 f2, ar.iop .add .u32 g1 g2, ar.iop .add .u32 h1 h2⟩), by kernel_rfl, ⟨by show (0 : Int) ≤ ar.iop .add .i64 4 1; subst har; decide +kernel, by show (ar.iop .add .i64 4 1).toNat = 5; subst har; decide +kernel, by dsimp only; omega, rfl⟩, by dsimp only; omega⟩
                case inr.inr.inr.inr.inl.refine_2 => exact absurd (by assumption : ar.icmp .lss 4 8 = false) (by subst har; decide)
                case inr.inr.inr.inr.inr.inl.refine_1 => exact ⟨(ar.iop .add .i64 5 1, 6, mixN 6 ⟨a1, b1, c1, d1, e1, f1, g1, h1⟩ ⟨ar.iop .add .u32 a1 a2, ar.iop .add .u32 b1 b2, ar.iop .add .u32 c1 c2, ar.iop .add .u32 d1 d2, ar.iop .add .u32 e1 e2, ar.iop .add .u32 f1 f2, ar.iop .add .u32 g1 g2, ar.iop .add .u32 h1 h2⟩), by kernel_rfl, ⟨by show (0 : Int) ≤ ar.iop .add .i64 5 1; subst har; decide +kernel, by show (ar.iop .add .i64 5 1).toNat = 6; subst har; decide +kernel, by dsimp only; omega, rfl⟩, by dsimp only; omega⟩
                case inr.inr.inr.inr.inr.inl.refine_2 => exact absurd (by assumption : ar.icmp .lss 5 8 = false) (by subst har; decide)
                case inr.inr.inr.inr.inr.inr.inl.refine_1 => exact ⟨(ar.iop .add .i64 6 1, 7, mixN 7 ⟨a1, b1, c1, d1, e1, f1, g1, h1⟩ ⟨ar.iop .add .u32 a1 a2, ar.iop .add .u32 b1 b2, ar.iop .add .u32 c1 c2, ar.iop .add .u32 d1 d2, ar.iop .add .u32 e1 e2, ar.iop .add .u32 f1 f2, ar.iop .add .u32 g1 g2, ar.iop .add .u32 h1 h2⟩), by kernel_rfl, ⟨by show (0 : Int) ≤ ar.iop .add .i64 6 1; subst har; decide +kernel, by show (ar.iop .add .i64 6 1).toNat = 7; subst har; decide +kernel, by dsimp only; omega, rfl⟩, by dsimp only; omega⟩
                case inr.inr.inr.inr.inr.inr.inl.refine_2 => exact absurd (by assumption : ar.icmp .lss 6 8 = false) (by subst har; decide)
                case inr.inr.inr.inr.inr.inr.inr.inl.refine_1 => exact ⟨(ar.iop .add .i64 7 1, 8, mixN 8 ⟨a1, b1, c1, d1, e1, f1, g1, h1⟩ ⟨ar.iop .add .u32 a1 a2, ar.iop .add .u32 b1 b2, ar.iop .add .u32 c1 c2, ar.iop .add .u32 d1 d2, ar.iop .add .u32 e1 e2, ar.iop .add .u32 f1 f2, ar.iop .add .u32 g1 g2, ar.iop .add .u32 h1 h2⟩), by kernel_rfl, ⟨by show (0 : Int) ≤ ar.iop .add .i64 7 1; subst har; decide +kernel, by show (ar.iop .add .i64 7 1).toNat = 8; subst har; decide +kernel, by dsimp only; omega, rfl⟩, by dsimp only; omega⟩
                case inr.inr.inr.inr.inr.inr.inr.inl.refine_2 => exact absurd (by assumption : ar.icmp .lss 7 8 = false) (by subst har; decide)
                case inr.inr.inr.inr.inr.inr.inr.inr.refine_1 => exact absurd (by assumption : ar.icmp .lss 8 8 = true) (by subst har; decide)
                case inr.inr.inr.inr.inr.inr.inr.inr.refine_2 =>
                  subst hKK
                  have hbv : blockV kk v b = v.add u := by rw [huu, huv]; rfl
                  refine ⟨⟨⟨ar.iop .add .u32 a1 a2, ar.iop .add .u32 b1 b2, ar.iop .add .u32 c1 c2, ar.iop .add .u32 d1 d2, ar.iop .add .u32 e1 e2, ar.iop .add .u32 f1 f2, ar.iop .add .u32 g1 g2, ar.iop .add .u32 h1 h2⟩, ?_, rfl, rfl⟩⟩
                  rw [hbv]
                  subst har
                  exact ⟨by show wI (v.a + u.a) = iopS .add .u32 a1 a2; rw [← hv.a, ← ua, add32], by show wI (v.b + u.b) = iopS .add .u32 b1 b2; rw [← hv.b, ← ub, add32], by show wI (v.c + u.c) = iopS .add .u32 c1 c2; rw [← hv.c, ← uc, add32], by show wI (v.d + u.d) = iopS .add .u32 d1 d2; rw [← hv.d, ← ud, add32], by show wI (v.e + u.e) = iopS .add .u32 e1 e2; rw [← hv.e, ← ue, add32], by show wI (v.f + u.f) = iopS .add .u32 f1 f2; rw [← hv.f, ← uf, add32], by show wI (v.g + u.g) = iopS .add .u32 g1 g2; rw [← hv.g, ← ug, add32], by show wI (v.h + u.h) = iopS .add .u32 h1 h2; rw [← hv.h, ← uh, add32]⟩
end Go.TL.Tryz

/- TfShD -/
namespace Go.TL.Tryz
open Go Go.TL Go.Proofs
set_option maxRecDepth 20000
variable {P : Program}
def mdS2 (n : Nat) : Md := bif eqB n 156 then ⟨[some []], true⟩ else md n
theorem fourB_nat (n : Nat) : fourB (n : Int) = [UInt8.ofNat (n / 2 ^ 24), UInt8.ofNat (n / 2 ^ 16), UInt8.ofNat (n / 2 ^ 8), UInt8.ofNat n] := by
  show [byteOf (shr8 (shr8 (n : Int) 16) 8), byteOf (shr8 (n : Int) 16), byteOf (shr8 (n : Int) 8), byteOf (n : Int)] = _
  have e : shr8 (shr8 (n : Int) 16) 8 = shr8 (n : Int) 24 := by
    rw [show shr8 (shr8 (n : Int) 16) 8 = shr8 (n : Int) 16 / 2 ^ 8 from shr8_eq _ 8 (by decide), show shr8 (n : Int) 16 = (n : Int) / 2 ^ 16 from shr8_eq _ 16 (by decide), show shr8 (n : Int) 24 = (n : Int) / 2 ^ 24 from shr8_eq _ 24 (by decide)]; omega
  rw [e]
  have h0 : byteOf (n : Int) = UInt8.ofNat n := by
    apply UInt8.toNat_inj.1
    simp only [byteOf, UInt8.toNat_ofNat']
    omega
  rw [show byteOf (shr8 (n : Int) 24) = _ from byte_shr (n := n) (j := 24) (by decide), show byteOf (shr8 (n : Int) 16) = _ from byte_shr (n := n) (j := 16) (by decide), show byteOf (shr8 (n : Int) 8) = _ from byte_shr (n := n) (j := 8) (by decide), h0]
theorem four_w {ar : Ar} (har : ar = std) {w : Wd} {x : Int} (h : wI w = x) : fourB (ar.conv .i64 x) = w4 w := by
  subst har; subst h
  have hw := w.isLt
  rw [show std.conv .i64 (wI w) = ((w.toNat : Nat) : Int) from wrap_id (by simp [wI, IntKind.has, IntKind.min, IntKind.max, IntKind.signed, IntKind.bits]; omega), fourB_nat]
  rfl
theorem cat_all (b : List UInt8) : catB [padB b, fourB 0, fourB ((8 * b.length : Nat) : Int)] = allB b := by
  rw [fourB_nat]
  rfl
theorem side_flatJ {ar : Ar} (har : ar = std) {l : List Int} {es : List (List T)} (h : encJ l = es) : Side (ar.flat es) := by
  subst har; subst h
  refine ⟨fun x hx t ht => ?_⟩
  obtain ⟨y, _, rfl⟩ := List.mem_map.1 hx
  simp at ht; subst ht; rfl
theorem side_flatU {ar : Ar} (har : ar = std) {l : List Wd} {es : List (List T)} (h : encU l = es) : Side (ar.flat es) := by
  subst har; subst h
  refine ⟨fun x hx t ht => ?_⟩
  obtain ⟨y, _, rfl⟩ := List.mem_map.1 hx
  simp at ht; subst ht; rfl
def z8 : N8 := ⟨0, 0, 0, 0, 0, 0, 0, 0⟩
def h8 : N8 := ⟨1779033703, 3144134277, 1013904242, 2773480762, 1359893119, 2600822924, 528734635, 1541459225⟩
def N8.at (n : N8) (i : Nat) : Int := [n.a, n.b, n.c, n.d, n.e, n.f, n.g, n.h].getD i 0
theorem frac_at {i : Nat} {x : Int} (h : (prV 310)[i]? = some x) : fracV x true = wI (wAt kC i) := by
  have h1 := congrArg (fun l => l[i]?) frac_k
  simp only [List.getElem?_map, h, Option.map_some] at h1
  have hi : i < kC.length := by
    rcases Nat.lt_or_ge i kC.length with h2 | h2
    · exact h2
    · rw [List.getElem?_eq_none h2] at h1; cases h1
  rw [List.getElem?_eq_getElem hi, Option.map_some] at h1
  rw [Option.some.inj h1, wAt, List.getD, List.getElem?_eq_getElem hi]; rfl
theorem frac_h8 : [wI hC.a, wI hC.b, wI hC.c, wI hC.d, wI hC.e, wI hC.f, wI hC.g, wI hC.h] = [h8.a, h8.b, h8.c, h8.d, h8.e, h8.f, h8.g, h8.h] := by decide +kernel
theorem frac_ath {i : Nat} {x : Int} (h : (prV 310)[i]? = some x) (hi : i < 8) : fracV x false = h8.at i := by
  have h1 := congrArg (fun l => l[i]?) (frac_h.trans frac_h8)
  simp only [List.getElem?_map, List.getElem?_take_of_lt hi, h, Option.map_some] at h1
  rw [N8.at, List.getD, ← h1]; rfl
theorem enc_takeU {l : List Wd} {es : List (List T)} {n : Nat} {y : Int} (h : encU (l.take n) = es) (hn : n < l.length) (hy : y = wI (wAt l n)) : encU (l.take (n + 1)) = es ++ [[.int .u32 y]] := by
  subst h; subst hy
  rw [List.take_add_one, List.getElem?_eq_getElem hn, wAt, List.getD, List.getElem?_eq_getElem hn, encU, List.map_append]
  rfl
set_option maxRecDepth 20000 in
theorem fn126 : Tryz.prog.funcs[126]? = some Tryz.f126 := rfl
set_option maxHeartbeats 40000000 in
set_option maxRecDepth 3000 in
theorem iSha (hP : Prg P) {b : List UInt8} {bs : List (List T)} (hb : encB b = bs) (hbl : b.length ≤ 900) : ACall P 126 [.one (.t (.sl bs))] [] (fun r ob => r = .one (.row 32 0) ∧ ob = [(32, .row 1 (encB (sumV kC hC b)) 0 [0] false)]) := by
  generalize hKK : (fun (r : A) (ob : Obs) => r = A.one (V.row 32 0) ∧ ob = [(32, Ob.row 1 (encB (sumV kC hC b)) 0 [0] false)]) = K
  have hll := encB_len hb
  refine acall_fn (md := mdS2) [some [(0, 1)]] v126 hP.mixed hP.tab (fn_at hP fn126) 1 rfl (by decide +kernel) rfl ?_
  intro ar har
  cbv
  repeat' (first | (intro; cbv) | (with_reducible refine and_side ?_ ?_; rotate_left; try cbv) | (refine ChkP.mk (by decide +kernel) ?_; cbv) | (refine br_intro ?_ ?_ <;> intro <;> cbv) | (exact side_sh har (by decide)))
  refine call_intro (iPrimes hP) ?_
  rintro r ob ⟨rfl, rfl⟩
  generalize hprs : encJ (prV 310) = prs
  cbv
  repeat' (first | (intro; cbv) | (with_reducible refine and_side ?_ ?_; rotate_left; try cbv))
  case refine_1 => exact side_flatJ har hprs
  refine loop_start [] [.cell 3 0 1 12] ?_
  cbv
  have hpl := prV_310
  have hpk : ∀ (i : Nat) (x : Int), (prV 310)[i]? = some x → fracV x true = wI (wAt kC i) := fun i x h => frac_at h
  have hph : ∀ (i : Nat) (x : Int), (prV 310)[i]? = some x → i < 8 → fracV x false = h8.at i := fun i x h => frac_ath h
  generalize prV 310 = pl at hprs hpl hpk hph
  have hprl := encJ_len hprs
  refine LoopR.mk (List (List T) × Int × Nat × N8) (fun x => ([(15, .one (.t (.int .i64 x.2.1)))], [(16, .box [.row 18 0, .t (.int .u32 x.2.2.2.a), .t (.int .u32 x.2.2.2.b), .t (.int .u32 x.2.2.2.c), .t (.int .u32 x.2.2.2.d), .t (.int .u32 x.2.2.2.e), .t (.int .u32 x.2.2.2.f), .t (.int .u32 x.2.2.2.g), .t (.int .u32 x.2.2.2.h)] false), (18, .row 1 x.1 0 [0] false)]))
    (fun x => encU (kC.take x.2.2.1) = x.1 ∧ 0 ≤ x.2.1 ∧ x.2.1.toNat = x.2.2.1 ∧ x.2.2.1 ≤ 64 ∧ x.2.2.2 = mixN x.2.2.1 z8 h8) (fun x => 64 - x.2.2.1) ([], 0, 0, z8) ?e ?f ?g
  case e => kernel_rfl
  case f => exact ⟨rfl, Int.le_refl _, rfl, Nat.zero_le _, rfl⟩
  case g =>
    intro x hx
    obtain ⟨ks, i, n, m⟩ := x
    have hks : encU (kC.take n) = ks := hx.1
    have hi0 : 0 ≤ i := hx.2.1
    have hin : i.toNat = n := hx.2.2.1
    have hn64 : n ≤ 64 := hx.2.2.2.1
    have hm : m = mixN n z8 h8 := hx.2.2.2.2
    have hksl : ks.length ≤ 64 := by rw [encU_len hks, List.length_take]; omega
    clear hx
    have hcase := nineO hi0 hin
    rcases hcase with hge | ⟨rfl, rfl⟩ | ⟨rfl, rfl⟩ | ⟨rfl, rfl⟩ | ⟨rfl, rfl⟩ | ⟨rfl, rfl⟩ | ⟨rfl, rfl⟩ | ⟨rfl, rfl⟩ | ⟨rfl, rfl⟩
    case inl =>
      have h8f : ar.icmp .lss i 8 = false := by subst har; simp [std, icmpS]; omega
      cbv
      repeat' (first | (with_reducible refine and_side ?_ ?_; rotate_left; try cbv) | (refine br_intro ?_ ?_ <;> intro <;> cbv))
      case refine_1.refine_1 => exact side_lt har (by assumption) hi0
      case refine_1.refine_2 =>
        refine get_ltJ har hprs (by assumption) hi0 ?_
        intro p hp
        cbv
        repeat' (first | (intro; cbv) | (with_reducible refine and_side ?_ ?_; rotate_left; try cbv) | (refine ChkP.mk (by decide +kernel) ?_; cbv) | (refine calld_intro (iFraction hP) ?_; generalize hfr : fracV _ _ = fr; cbv))
        case refine_1 => exact ⟨by subst har; simp [std]; omega, by subst har; exact wid_one _⟩
        refine br_intro (fun h => absurd (h8f.symm.trans h) (by simp)) fun _ => ?_
        cbv
        repeat' (first | (intro; cbv))
        have hlt := (List.getElem?_eq_some_iff.1 hp).1
        have ei : ar.iop .add .i64 i 1 = i + 1 := add_std har (by omega) (by omega)
        have hfk : fr = wI (wAt kC n) := by rw [← hfr]; exact hpk n p (by rw [← hin]; exact hp)
        refine ⟨(ar.app ks [[.int .u32 fr]], i + 1, n + 1, m), by rw [← ei]; kernel_rfl, ⟨?_, by dsimp only; omega, by dsimp only; omega, by dsimp only; omega, ?_⟩, by dsimp only; omega⟩
        · subst har; exact enc_takeU hks (by show n < 64; omega) hfk
        · show m = mixN (n + 1) z8 h8
          rw [hm]
          match n, hge.1 with
          | 8, _ => rfl
          | k + 9, _ => rfl
      case refine_2 =>
        have hend := ge_len har (by assumption : ar.icmp .lss i (ar.len prs) = false) hi0
        have hn : n = 64 := by omega
        subst hn
        have hm : m = h8 := hm
        subst hm
        have hks : encU kC = ks := hks
        clear hge h8f hpk hph hin hn64
        generalize hkk : kC = kk at hks ⊢
        generalize hh8 : h8 = hh
        refine call_intro (iClone hP hb (by omega)) ?_
        rintro r ob ⟨rfl, rfl⟩
        generalize hcl : encB b = cl
        cbv
        repeat' (first | (with_reducible refine and_side ?_ ?_; rotate_left; try cbv))
        case refine_1 => exact side_flat har hcl
        case refine_2.refine_1 => exact side_one har hcl (by omega)
        clear hm
        have hcll := encB_len hcl
        refine loop_start [13, 14, 15, 16] [] ?_
        cbv
        refine LoopR.mk (List (List T) × Nat) (fun x => ([], [(17, .row 1 x.1 0 [0] false)])) (fun x => encB (b ++ [128] ++ List.replicate x.2 0) = x.1 ∧ x.2 ≤ padN b.length) (fun x => padN b.length - x.2) (ar.app cl [[.int .u8 128]], 0) ?e2 ?f2 ?g2
        case e2 => kernel_rfl
        case f2 => exact ⟨by subst har; subst hcl; simp [std, encB], Nat.zero_le _⟩
        case g2 =>
          intro x hx
          obtain ⟨es, z⟩ := x
          have hes : encB (b ++ [128] ++ List.replicate z 0) = es := hx.1
          have hz : z ≤ padN b.length := hx.2
          have hesl : es.length = b.length + 1 + z := by rw [encB_len hes]; simp; omega
          have hpad64 := padN_lt b.length
          clear hx
          cbv
          repeat' (first | (intro; cbv) | (with_reducible refine and_side ?_ ?_; rotate_left; try cbv) | (refine br_intro ?_ ?_ <;> intro <;> cbv))
          case refine_1 => exact ⟨by subst har; show (64 : Int) ≠ 0; decide⟩
          case refine_2.refine_1.refine_1 => exact side_one har hes (by simp; omega)
          case refine_2.refine_1.refine_2 =>
            have hr := rem64 har hesl (by assumption : _ = true)
            have hzl : z < padN b.length := by
              have hr := of_decide_eq_true hr
              have := padN_spec b.length
              rcases Nat.lt_or_ge z (padN b.length) with h | h
              · exact h
              · exact absurd (by rw [show z = padN b.length by omega]; exact this) hr
            refine ⟨(ar.app es [[.int .u8 0]], z + 1), by kernel_rfl, ⟨?_, hzl⟩, by dsimp only; omega⟩
            show encB (b ++ [128] ++ List.replicate (z + 1) 0) = _
            subst har
            rw [List.replicate_succ', ← List.append_assoc]
            exact enc_app hes rfl
          case refine_2.refine_2 =>
            have hr := rem64 har hesl (by assumption : _ = false)
            have hr := of_decide_eq_false hr
            have hzp : z = padN b.length := padN_least (by omega) hz
            have hpad : encB (padB b) = es := by rw [← hes, hzp]; rfl
            have hpl2 : (padB b).length ≤ 1000 := by rw [padB_len]; omega
            clear hr hz hes hcl hcll
            repeat' (first | (intro; cbv) | (with_reducible refine and_side ?_ ?_; rotate_left; try cbv) | (refine call_intro (iFour hP) ?_; rintro r ob ⟨rfl, rfl⟩; generalize hfo : encB (fourB _) = fo; cbv))
            case refine_1 => exact side_flat har (by assumption)
            case refine_2.refine_1 => exact side_flat har (by assumption)
            rename_i fo0 hfo0 _ _
            have hn8 : ar.iop .mul .i64 8 (ar.len bs) = ((8 * b.length : Nat) : Int) := by
              subst har
              show iopS .mul .i64 8 (bs.length : Int) = _
              rw [hll, show iopS .mul .i64 8 (b.length : Int) = 8 * (b.length : Int) from mulI (by omega) (by omega)]; omega
            rw [hn8] at hfo
            refine call_intro (iConcat hP (n := [padB b, fourB 0, fourB ((8 * b.length : Nat) : Int)]) (show encN _ = _ by rw [← hpad, ← hfo0, ← hfo]; rfl) (by simp) (by
              intro l hl
              simp only [List.mem_cons, List.not_mem_nil, or_false] at hl
              rcases hl with rfl | rfl | rfl
              · exact hpl2
              · rw [fourB_len]; omega
              · rw [fourB_len]; omega)) ?_
            rintro r ob ⟨rfl, rfl⟩
            rw [cat_all]
            generalize hall : encB (allB b) = als
            clear hn8 hfo hfo0 hpad
            cbv
            repeat' (first | (with_reducible refine and_side ?_ ?_; rotate_left; try cbv))
            case refine_2.refine_2.refine_1 => exact side_flat har hall
            have halln := allB_64 b
            have halll : als.length = (allB b).length := encB_len hall
            have hall2 : (allB b).length ≤ 2000 := by rw [allB_len]; omega
            have hh0 : V8R hC hh.a hh.b hh.c hh.d hh.e hh.f hh.g hh.h := by subst hh8; exact ⟨rfl, rfl, rfl, rfl, rfl, rfl, rfl, rfl⟩
            obtain ⟨a0, b0, c0, d0, e0, f0, g0, h0⟩ := hh
            refine loop_start [48] [.tree 6] ?_
            cbv
            refine LoopR.mk (V8 × N8 × Int × Nat) (fun x => ([(7, .one (.t (.int .i64 x.2.2.1)))], [(16, .box [.row 17 0, .t (.int .u32 x.2.1.a), .t (.int .u32 x.2.1.b), .t (.int .u32 x.2.1.c), .t (.int .u32 x.2.1.d), .t (.int .u32 x.2.1.e), .t (.int .u32 x.2.1.f), .t (.int .u32 x.2.1.g), .t (.int .u32 x.2.1.h)] false)]))
              (fun x => V8R x.1 x.2.1.a x.2.1.b x.2.1.c x.2.1.d x.2.1.e x.2.1.f x.2.1.g x.2.1.h ∧ 0 ≤ x.2.2.1 ∧ x.2.2.1.toNat = 64 * x.2.2.2 ∧ x.2.2.1.toNat ≤ (allB b).length ∧ x.1 = hashN kk hC (allB b) x.2.2.2) (fun x => (allB b).length - x.2.2.1.toNat) (hC, ⟨a0, b0, c0, d0, e0, f0, g0, h0⟩, 0, 0) ?e3 ?f3 ?g3
            case e3 => kernel_rfl
            case f3 => exact ⟨hh0, Int.le_refl _, rfl, Nat.zero_le _, rfl⟩
            case g3 =>
              intro x hx
              obtain ⟨u, ⟨a2, b2, c2, d2, e2, f2, g2, h2⟩, i, k⟩ := x
              have hu : V8R u a2 b2 c2 d2 e2 f2 g2 h2 := hx.1
              have hi0 : 0 ≤ i := hx.2.1
              have hi64 : i.toNat = 64 * k := hx.2.2.1
              have hil : i.toNat ≤ (allB b).length := hx.2.2.2.1
              have huu : u = hashN kk hC (allB b) k := hx.2.2.2.2
              clear hx
              cbv
              repeat' (first | (intro; cbv) | (with_reducible refine and_side ?_ ?_; rotate_left; try cbv) | (refine br_intro ?_ ?_ <;> intro <;> cbv))
              case refine_1.refine_1 =>
                have hlt := lt_len har (by assumption : ar.icmp .lss i (ar.len als) = true) hi0
                have e1 : ar.iop .add .i64 i 64 = i + 64 := add_std har (by omega) (by omega)
                refine ⟨⟨?_, by rw [← hall]; subst har; exact wid_byte _⟩⟩
                show ar.insub i (ar.iop .add .i64 i 64) als
                rw [e1]
                subst har
                exact ⟨hi0, by omega, by omega⟩
              case refine_1.refine_2 =>
                have hlt := lt_len har (by assumption : ar.icmp .lss i (ar.len als) = true) hi0
                have e1 : ar.iop .add .i64 i 64 = i + 64 := add_std har (by omega) (by omega)
                have hsub : encB (((allB b).drop (64 * k)).take 64) = ar.sub als i (ar.iop .add .i64 i 64) := by
                  rw [e1, ← hall]
                  subst har
                  show _ = ((encB (allB b)).take (i + 64).toNat).drop i.toNat
                  simp only [encB, ← List.map_take, ← List.map_drop]
                  rw [List.drop_take, hi64, show (i + 64).toNat - 64 * k = 64 by omega]
                refine call_intro (iBlock hP hu hsub (by simp; omega) (by rw [hkk]; exact hks)) ?_
                rintro r ob ⟨⟨na, nb, nc, nd, ne, nf, ng, nh⟩, hn, rfl, rfl⟩
                dsimp only at hn
                rw [hkk] at hn
                unfold boxS
                cbv
                repeat' (first | (intro; cbv) | (with_reducible refine and_side ?_ ?_; rotate_left; try cbv))
                case refine_1 => exact side_flatU har hks
                refine ⟨(blockV kk u (((allB b).drop (64 * k)).take 64), ⟨na, nb, nc, nd, ne, nf, ng, nh⟩, i + 64, k + 1), by rw [← e1]; kernel_rfl, ⟨hn, by dsimp only; omega, by dsimp only; omega, by dsimp only; omega, by rw [huu]; rfl⟩, by dsimp only; omega⟩
              case refine_2 =>
                have hend := ge_len har (by assumption : ar.icmp .lss i (ar.len als) = false) hi0
                have hk64 : k = (allB b).length / 64 := by omega
                rw [hk64] at huu
                have hfin : encB u.bytes = encB (sumV kC hC b) := by rw [huu, hkk]; rfl
                obtain ⟨ua, ub, uc, ud, ue, uf, ug, uh⟩ := hu
                refine loop_start [63, 7, 3, 6] [] ?_
                cbv
                refine LoopR.mk (List (List T) × Int × Nat) (fun x => ([(78, .one (.t (.int .i64 x.2.1)))], [(16, .row 1 x.1 0 [0] false)])) (fun x => encB (u.bytes.take (4 * x.2.2)) = x.1 ∧ 0 ≤ x.2.1 ∧ x.2.1.toNat = x.2.2 ∧ x.2.2 ≤ 8) (fun x => 8 - x.2.2) ([], 0, 0) ?e4 ?f4 ?g4
                case e4 => kernel_rfl
                case f4 => exact ⟨rfl, Int.le_refl _, rfl, Nat.zero_le _⟩
                case g4 =>
                  intro x hx
                  obtain ⟨es4, i, k⟩ := x
                  have hes : encB (u.bytes.take (4 * k)) = es4 := hx.1
                  have hi0 : 0 ≤ i := hx.2.1
                  have hik : i.toNat = k := hx.2.2.1
                  have hk8 : k ≤ 8 := hx.2.2.2
                  have hesl : es4.length ≤ 32 := by rw [encB_len hes, List.length_take, bytes_len]; omega
                  clear hx
                  have hcase := nine hi0 hik hk8
                  clear hi0 hik hk8
                  rcases hcase with ⟨rfl, rfl⟩ | ⟨rfl, rfl⟩ | ⟨rfl, rfl⟩ | ⟨rfl, rfl⟩ | ⟨rfl, rfl⟩ | ⟨rfl, rfl⟩ | ⟨rfl, rfl⟩ | ⟨rfl, rfl⟩ | ⟨rfl, rfl⟩
                  all_goals cbv
                  all_goals (repeat' (first | (intro; cbv) | (with_reducible refine and_side ?_ ?_; rotate_left; try cbv) | (refine br_intro ?_ ?_ <;> intro <;> cbv) | (refine call_intro (iFour hP) ?_; rintro r ob ⟨rfl, rfl⟩; generalize hfo : encB (fourB _) = fo; cbv)))
                  case inl.refine_1.refine_1 => exact side_flat har hfo
                  case inl.refine_1.refine_2.refine_1 => exact side_app har hes hfo (by rw [fourB_len, List.length_take, bytes_len]; omega)
                  case inl.refine_1.refine_2.refine_2 => exact ⟨(ar.app es4 fo, ar.iop .add .i64 0 1, 1), by kernel_rfl, ⟨by show encB (u.bytes.take (4 * 1)) = _; rw [show u.bytes.take (4 * 1) = u.bytes.take (4 * 0) ++ w4 u.a from rfl, enc_app hes ((congrArg encB (four_w har ua)).symm.trans hfo)]; subst har; rfl, by show (0 : Int) ≤ ar.iop .add .i64 0 1; subst har; decide +kernel, by show (ar.iop .add .i64 0 1).toNat = 1; subst har; decide +kernel, by dsimp only; omega⟩, by dsimp only; omega⟩
                  case inl.refine_2 => exact absurd (by assumption : ar.icmp .lss 0 8 = false) (by subst har; decide)
                  case inr.inl.refine_1.refine_1 => exact side_flat har hfo
                  case inr.inl.refine_1.refine_2.refine_1 => exact side_app har hes hfo (by rw [fourB_len, List.length_take, bytes_len]; omega)
                  case inr.inl.refine_1.refine_2.refine_2 => exact ⟨(ar.app es4 fo, ar.iop .add .i64 1 1, 2), by kernel_rfl, ⟨by show encB (u.bytes.take (4 * 2)) = _; rw [show u.bytes.take (4 * 2) = u.bytes.take (4 * 1) ++ w4 u.b from rfl, enc_app hes ((congrArg encB (four_w har ub)).symm.trans hfo)]; subst har; rfl, by show (0 : Int) ≤ ar.iop .add .i64 1 1; subst har; decide +kernel, by show (ar.iop .add .i64 1 1).toNat = 2; subst har; decide +kernel, by dsimp only; omega⟩, by dsimp only; omega⟩
                  case inr.inl.refine_2 => exact absurd (by assumption : ar.icmp .lss 1 8 = false) (by subst har; decide)
                  case inr.inr.inl.refine_1.refine_1 => exact side_flat har hfo
                  case inr.inr.inl.refine_1.refine_2.refine_1 => exact side_app har hes hfo (by rw [fourB_len, List.length_take, bytes_len]; omega)
                  case inr.inr.inl.refine_1.refine_2.refine_2 => exact ⟨(ar.app es4 fo, ar.iop .add .i64 2 1, 3), by kernel_rfl, ⟨by show encB (u.bytes.take (4 * 3)) = _; rw [show u.bytes.take (4 * 3) = u.bytes.take (4 * 2) ++ w4 u.c from rfl, enc_app hes ((congrArg encB (four_w har uc)).symm.trans hfo)]; subst har; rfl, by show (0 : Int) ≤ ar.iop .add .i64 2 1; subst har; decide +kernel, by show (ar.iop .add .i64 2 1).toNat = 3; subst har; decide +kernel, by dsimp only; omega⟩, by dsimp only; omega⟩
                  case inr.inr.inl.refine_2 => exact absurd (by assumption : ar.icmp .lss 2 8 = false) (by subst har; decide)
                  case inr.inr.inr.inl.refine_1.refine_1 => exact side_flat har hfo
                  case inr.inr.inr.inl.refine_1.refine_2.refine_1 => exact side_app har hes hfo (by rw [fourB_len, List.length_take, bytes_len]; omega)
                  case inr.inr.inr.inl.refine_1.refine_2.refine_2 => exact ⟨(ar.app es4 fo, ar.iop .add .i64 3 1, 4), by kernel_rfl, ⟨by show encB (u.bytes.take (4 * 4)) = _; rw [show u.bytes.take (4 * 4) = u.bytes.take (4 * 3) ++ w4 u.d from rfl, enc_app hes ((congrArg encB (four_w har ud)).symm.trans hfo)]; subst har; rfl, by show (0 : Int) ≤ ar.iop .add .i64 3 1; subst har; decide +kernel, by show (ar.iop .add .i64 3 1).toNat = 4; subst har; decide +kernel, by dsimp only; omega⟩, by dsimp only; omega⟩
                  case inr.inr.inr.inl.refine_2 => exact absurd (by assumption : ar.icmp .lss 3 8 = false) (by subst har; decide)
                  case inr.inr.inr.inr.inl.refine_1.refine_1 => exact side_flat har hfo
                  case inr.inr.inr.inr.inl.refine_1.refine_2.refine_1 => exact side_app har hes hfo (by rw [fourB_len, List.length_take, bytes_len]; omega)
                  case inr.inr.inr.inr.inl.refine_1.refine_2.refine_2 => exact ⟨(ar.app es4 fo, ar.iop .add .i64 4 1, 5), by kernel_rfl, ⟨by show encB (u.bytes.take (4 * 5)) = _; rw [show u.bytes.take (4 * 5) = u.bytes.take (4 * 4) ++ w4 u.e from rfl, enc_app hes ((congrArg encB (four_w har ue)).symm.trans hfo)]; subst har; rfl, by show (0 : Int) ≤ ar.iop .add .i64 4 1; subst har; decide +kernel, by show (ar.iop .add .i64 4 1).toNat = 5; subst har; decide +kernel, by dsimp only; omega⟩, by dsimp only; omega⟩
                  case inr.inr.inr.inr.inl.refine_2 => exact absurd (by assumption : ar.icmp .lss 4 8 = false) (by subst har; decide)
                  case inr.inr.inr.inr.inr.inl.refine_1.refine_1 => exact side_flat har hfo
                  case inr.inr.inr.inr.inr.inl.refine_1.refine_2.refine_1 => exact side_app har hes hfo (by rw [fourB_len, List.length_take, bytes_len]; omega)
                  case inr.inr.inr.inr.inr.inl.refine_1.refine_2.refine_2 => exact ⟨(ar.app es4 fo, ar.iop .add .i64 5 1, 6), by kernel_rfl, ⟨by show encB (u.bytes.take (4 * 6)) = _; rw [show u.bytes.take (4 * 6) = u.bytes.take (4 * 5) ++ w4 u.f from rfl, enc_app hes ((congrArg encB (four_w har uf)).symm.trans hfo)]; subst har; rfl, by show (0 : Int) ≤ ar.iop .add .i64 5 1; subst har; decide +kernel, by show (ar.iop .add .i64 5 1).toNat = 6; subst har; decide +kernel, by dsimp only; omega⟩, by dsimp only; omega⟩
                  case inr.inr.inr.inr.inr.inl.refine_2 => exact absurd (by assumption : ar.icmp .lss 5 8 = false) (by subst har; decide)
                  case inr.inr.inr.inr.inr.inr.inl.refine_1.refine_1 => exact side_flat har hfo
                  case inr.inr.inr.inr.inr.inr.inl.refine_1.refine_2.refine_1 => exact side_app har hes hfo (by rw [fourB_len, List.length_take, bytes_len]; omega)
                  case inr.inr.inr.inr.inr.inr.inl.refine_1.refine_2.refine_2 => exact ⟨(ar.app es4 fo, ar.iop .add .i64 6 1, 7), by kernel_rfl, ⟨by show encB (u.bytes.take (4 * 7)) = _; rw [show u.bytes.take (4 * 7) = u.bytes.take (4 * 6) ++ w4 u.g from rfl, enc_app hes ((congrArg encB (four_w har ug)).symm.trans hfo)]; subst har; rfl, by show (0 : Int) ≤ ar.iop .add .i64 6 1; subst har; decide +kernel, by show (ar.iop .add .i64 6 1).toNat = 7; subst har; decide +kernel, by dsimp only; omega⟩, by dsimp only; omega⟩
                  case inr.inr.inr.inr.inr.inr.inl.refine_2 => exact absurd (by assumption : ar.icmp .lss 6 8 = false) (by subst har; decide)
                  case inr.inr.inr.inr.inr.inr.inr.inl.refine_1.refine_1 => exact side_flat har hfo
                  case inr.inr.inr.inr.inr.inr.inr.inl.refine_1.refine_2.refine_1 => exact side_app har hes hfo (by rw [fourB_len, List.length_take, bytes_len]; omega)
                  case inr.inr.inr.inr.inr.inr.inr.inl.refine_1.refine_2.refine_2 => exact ⟨(ar.app es4 fo, ar.iop .add .i64 7 1, 8), by kernel_rfl, ⟨by show encB (u.bytes.take (4 * 8)) = _; rw [show u.bytes.take (4 * 8) = u.bytes.take (4 * 7) ++ w4 u.h from rfl, enc_app hes ((congrArg encB (four_w har uh)).symm.trans hfo)]; subst har; rfl, by show (0 : Int) ≤ ar.iop .add .i64 7 1; subst har; decide +kernel, by show (ar.iop .add .i64 7 1).toNat = 8; subst har; decide +kernel, by dsimp only; omega⟩, by dsimp only; omega⟩
                  case inr.inr.inr.inr.inr.inr.inr.inl.refine_2 => exact absurd (by assumption : ar.icmp .lss 7 8 = false) (by subst har; decide)
                  case inr.inr.inr.inr.inr.inr.inr.inr.refine_1 => exact absurd (by assumption : ar.icmp .lss 8 8 = true) (by subst har; decide)
                  case inr.inr.inr.inr.inr.inr.inr.inr.refine_2 =>
                    subst hKK
                    exact ⟨⟨rfl, by rw [← hfin, ← hes]; rfl⟩⟩
    case inr.inl =>
      subst hm
      cbv
      repeat' (first | (with_reducible refine and_side ?_ ?_; rotate_left; try cbv) | (refine br_intro ?_ ?_ <;> intro <;> cbv))
      case refine_2 => have hg := ge_len har (by assumption : ar.icmp .lss 0 (ar.len prs) = false) (by decide); exfalso; omega
      case refine_1.refine_1 => exact side_lt har (by assumption) (by decide)
      refine get_ltJ har hprs (by assumption) (by decide) ?_
      intro p hp
      have ht := hpk 0 p hp
      have hf := hph 0 p hp (by decide)
      cbv
      repeat' (first | (intro; cbv) | (with_reducible refine and_side ?_ ?_; rotate_left; try cbv) | (refine ChkP.mk (by decide +kernel) ?_; cbv) | (refine br_intro ?_ ?_ <;> intro <;> cbv) | (exact side_sh har (by decide)))
      refine calld_intro (iFraction hP) ?_
      rw [ht]
      generalize hq : wI (wAt kC 0) = q
      cbv
      repeat' (first | (intro; cbv) | (with_reducible refine and_side ?_ ?_; rotate_left; try cbv) | (refine ChkP.mk (by decide +kernel) ?_; cbv) | (refine br_intro ?_ ?_ <;> intro <;> cbv))
      case refine_1.refine_2.refine_1 => exact ⟨by subst har; simp [std]; omega, by subst har; exact wid_one _⟩
      case refine_1.refine_2.refine_2.refine_2 => exact absurd (by assumption : ar.icmp .lss 0 8 = false) (by subst har; decide)
      refine calld_intro (iFraction hP) ?_
      rw [hf, show h8.at 0 = 1779033703 from rfl]
      cbv
      repeat' (first | (intro; cbv) | (refine ChkP.mk (by decide +kernel) ?_; cbv))
      exact ⟨(ar.app ks [[.int .u32 q]], ar.iop .add .i64 0 1, 1, mixN 1 z8 h8), by kernel_rfl, ⟨by show encU (kC.take (0 + 1)) = ar.app ks [[.int .u32 q]]; subst har; exact enc_takeU hks (by decide) hq.symm, by show (0 : Int) ≤ ar.iop .add .i64 0 1; subst har; decide +kernel, by show (ar.iop .add .i64 0 1).toNat = 1; subst har; decide +kernel, by dsimp only; omega, rfl⟩, by dsimp only; omega⟩
    case inr.inr.inl =>
      subst hm
      cbv
      repeat' (first | (with_reducible refine and_side ?_ ?_; rotate_left; try cbv) | (refine br_intro ?_ ?_ <;> intro <;> cbv))
      case refine_2 => have hg := ge_len har (by assumption : ar.icmp .lss 1 (ar.len prs) = false) (by decide); exfalso; omega
      case refine_1.refine_1 => exact side_lt har (by assumption) (by decide)
      refine get_ltJ har hprs (by assumption) (by decide) ?_
      intro p hp
      have ht := hpk 1 p hp
      have hf := hph 1 p hp (by decide)
      cbv
      repeat' (first | (intro; cbv) | (with_reducible refine and_side ?_ ?_; rotate_left; try cbv) | (refine ChkP.mk (by decide +kernel) ?_; cbv) | (refine br_intro ?_ ?_ <;> intro <;> cbv) | (exact side_sh har (by decide)))
      refine calld_intro (iFraction hP) ?_
      rw [ht]
      generalize hq : wI (wAt kC 1) = q
      cbv
      repeat' (first | (intro; cbv) | (with_reducible refine and_side ?_ ?_; rotate_left; try cbv) | (refine ChkP.mk (by decide +kernel) ?_; cbv) | (refine br_intro ?_ ?_ <;> intro <;> cbv))
      case refine_1.refine_2.refine_1 => exact ⟨by subst har; simp [std]; omega, by subst har; exact wid_one _⟩
      case refine_1.refine_2.refine_2.refine_2 => exact absurd (by assumption : ar.icmp .lss 1 8 = false) (by subst har; decide)
      refine calld_intro (iFraction hP) ?_
      rw [hf, show h8.at 1 = 3144134277 from rfl]
      cbv
      repeat' (first | (intro; cbv) | (refine ChkP.mk (by decide +kernel) ?_; cbv))
      exact ⟨(ar.app ks [[.int .u32 q]], ar.iop .add .i64 1 1, 2, mixN 2 z8 h8), by kernel_rfl, ⟨by show encU (kC.take (1 + 1)) = ar.app ks [[.int .u32 q]]; subst har; exact enc_takeU hks (by decide) hq.symm, by show (0 : Int) ≤ ar.iop .add .i64 1 1; subst har; decide +kernel, by show (ar.iop .add .i64 1 1).toNat = 2; subst har; decide +kernel, by dsimp only; omega, rfl⟩, by dsimp only; omega⟩
    case inr.inr.inr.inl =>
      subst hm
      cbv
      repeat' (first | (with_reducible refine and_side ?_ ?_; rotate_left; try cbv) | (refine br_intro ?_ ?_ <;> intro <;> cbv))
      case refine_2 => have hg := ge_len har (by assumption : ar.icmp .lss 2 (ar.len prs) = false) (by decide); exfalso; omega
      case refine_1.refine_1 => exact side_lt har (by assumption) (by decide)
      refine get_ltJ har hprs (by assumption) (by decide) ?_
      intro p hp
      have ht := hpk 2 p hp
      have hf := hph 2 p hp (by decide)
      cbv
      repeat' (first | (intro; cbv) | (with_reducible refine and_side ?_ ?_; rotate_left; try cbv) | (refine ChkP.mk (by decide +kernel) ?_; cbv) | (refine br_intro ?_ ?_ <;> intro <;> cbv) | (exact side_sh har (by decide)))
      refine calld_intro (iFraction hP) ?_
      rw [ht]
      generalize hq : wI (wAt kC 2) = q
      cbv
      repeat' (first | (intro; cbv) | (with_reducible refine and_side ?_ ?_; rotate_left; try cbv) | (refine ChkP.mk (by decide +kernel) ?_; cbv) | (refine br_intro ?_ ?_ <;> intro <;> cbv))
      case refine_1.refine_2.refine_1 => exact ⟨by subst har; simp [std]; omega, by subst har; exact wid_one _⟩
      case refine_1.refine_2.refine_2.refine_2 => exact absurd (by assumption : ar.icmp .lss 2 8 = false) (by subst har; decide)
      refine calld_intro (iFraction hP) ?_
      rw [hf, show h8.at 2 = 1013904242 from rfl]
      cbv
      repeat' (first | (intro; cbv) | (refine ChkP.mk (by decide +kernel) ?_; cbv))
      exact ⟨(ar.app ks [[.int .u32 q]], ar.iop .add .i64 2 1, 3, mixN 3 z8 h8), by kernel_rfl, ⟨by show encU (kC.take (2 + 1)) = ar.app ks [[.int .u32 q]]; subst har; exact enc_takeU hks (by decide) hq.symm, by show (0 : Int) ≤ ar.iop .add .i64 2 1; subst har; decide +kernel, by show (ar.iop .add .i64 2 1).toNat = 3; subst har; decide +kernel, by dsimp only; omega, rfl⟩, by dsimp only; omega⟩
    case inr.inr.inr.inr.inl =>
      subst hm
      cbv
      repeat' (first | (with_reducible refine and_side ?_ ?_; rotate_left; try cbv) | (refine br_intro ?_ ?_ <;> intro <;> cbv))
      case refine_2 => have hg := ge_len har (by assumption : ar.icmp .lss 3 (ar.len prs) = false) (by decide); exfalso; omega
      case refine_1.refine_1 => exact side_lt har (by assumption) (by decide)
      refine get_ltJ har hprs (by assumption) (by decide) ?_
      intro p hp
      have ht := hpk 3 p hp
      have hf := hph 3 p hp (by decide)
      cbv
      repeat' (first | (intro; cbv) | (with_reducible refine and_side ?_ ?_; rotate_left; try cbv) | (refine ChkP.mk (by decide +kernel) ?_; cbv) | (refine br_intro ?_ ?_ <;> intro <;> cbv) | (exact side_sh har (by decide)))
      refine calld_intro (iFraction hP) ?_
      rw [ht]
      generalize hq : wI (wAt kC 3) = q
      cbv
      repeat' (first | (intro; cbv) | (with_reducible refine and_side ?_ ?_; rotate_left; try cbv) | (refine ChkP.mk (by decide +kernel) ?_; cbv) | (refine br_intro ?_ ?_ <;> intro <;> cbv))
      case refine_1.refine_2.refine_1 => exact ⟨by subst har; simp [std]; omega, by subst har; exact wid_one _⟩
      case refine_1.refine_2.refine_2.refine_2 => exact absurd (by assumption : ar.icmp .lss 3 8 = false) (by subst har; decide)
      refine calld_intro (iFraction hP) ?_
      rw [hf, show h8.at 3 = 2773480762 from rfl]
      cbv
      repeat' (first | (intro; cbv) | (refine ChkP.mk (by decide +kernel) ?_; cbv))
      exact ⟨(ar.app ks [[.int .u32 q]], ar.iop .add .i64 3 1, 4, mixN 4 z8 h8), by kernel_rfl, ⟨by show encU (kC.take (3 + 1)) = ar.app ks [[.int .u32 q]]; subst har; exact enc_takeU hks (by decide) hq.symm, by show (0 : Int) ≤ ar.iop .add .i64 3 1; subst har; decide +kernel, by show (ar.iop .add .i64 3 1).toNat = 4; subst har; decide +kernel, by dsimp only; omega, rfl⟩, by dsimp only; omega⟩
    case inr.inr.inr.inr.inr.inl =>
      subst hm
      cbv
      repeat' (first | (with_reducible refine and_side ?_ ?_; rotate_left; try cbv) | (refine br_intro ?_ ?_ <;> intro <;> cbv))
      case refine_2 => have hg := ge_len har (by assumption : ar.icmp .lss 4 (ar.len prs) = false) (by decide); exfalso; omega
      case refine_1.refine_1 => exact side_lt har (by assumption) (by decide)
      refine get_ltJ har hprs (by assumption) (by decide) ?_
      intro p hp
      have ht := hpk 4 p hp
      have hf := hph 4 p hp (by decide)
      cbv
      repeat' (first | (intro; cbv) | (with_reducible refine and_side ?_ ?_; rotate_left; try cbv) | (refine ChkP.mk (by decide +kernel) ?_; cbv) | (refine br_intro ?_ ?_ <;> intro <;> cbv) | (exact side_sh har (by decide)))
      refine calld_intro (iFraction hP) ?_
      rw [ht]
      generalize hq : wI (wAt kC 4) = q
      cbv
      repeat' (first | (intro; cbv) | (with_reducible refine and_side ?_ ?_; rotate_left; try cbv) | (refine ChkP.mk (by decide +kernel) ?_; cbv) | (refine br_intro ?_ ?_ <;> intro <;> cbv))
      case refine_1.refine_2.refine_1 => exact ⟨by subst har; simp [std]; omega, by subst har; exact wid_one _⟩
      case refine_1.refine_2.refine_2.refine_2 => exact absurd (by assumption : ar.icmp .lss 4 8 = false) (by subst har; decide)
      refine calld_intro (iFraction hP) ?_
      rw [hf, show h8.at 4 = 1359893119 from rfl]
      cbv
      repeat' (first | (intro; cbv) | (refine ChkP.mk (by decide +kernel) ?_; cbv))
      exact ⟨(ar.app ks [[.int .u32 q]], ar.iop .add .i64 4 1, 5, mixN 5 z8 h8), by kernel_rfl, ⟨by show encU (kC.take (4 + 1)) = ar.app ks [[.int .u32 q]]; subst har; exact enc_takeU hks (by decide) hq.symm, by show (0 : Int) ≤ ar.iop .add .i64 4 1; subst har; decide +kernel, by show (ar.iop .add .i64 4 1).toNat = 5; subst har; decide +kernel, by dsimp only; omega, rfl⟩, by dsimp only; omega⟩
    case inr.inr.inr.inr.inr.inr.inl =>
      subst hm
      cbv
      repeat' (first | (with_reducible refine and_side ?_ ?_; rotate_left; try cbv) | (refine br_intro ?_ ?_ <;> intro <;> cbv))
      case refine_2 => have hg := ge_len har (by assumption : ar.icmp .lss 5 (ar.len prs) = false) (by decide); exfalso; omega
      case refine_1.refine_1 => exact side_lt har (by assumption) (by decide)
      refine get_ltJ har hprs (by assumption) (by decide) ?_
      intro p hp
      have ht := hpk 5 p hp
      have hf := hph 5 p hp (by decide)
      cbv
      repeat' (first | (intro; cbv) | (with_reducible refine and_side ?_ ?_; rotate_left; try cbv) | (refine ChkP.mk (by decide +kernel) ?_; cbv) | (refine br_intro ?_ ?_ <;> intro <;> cbv) | (exact side_sh har (by decide)))
      refine calld_intro (iFraction hP) ?_
      rw [ht]
      generalize hq : wI (wAt kC 5) = q
      cbv
      repeat' (first | (intro; cbv) | (with_reducible refine and_side ?_ ?_; rotate_left; try cbv) | (refine ChkP.mk (by decide +kernel) ?_; cbv) | (refine br_intro ?_ ?_ <;> intro <;> cbv))
      case refine_1.refine_2.refine_1 => exact ⟨by subst har; simp [std]; omega, by subst har; exact wid_one _⟩
      case refine_1.refine_2.refine_2.refine_2 => exact absurd (by assumption : ar.icmp .lss 5 8 = false) (by subst har; decide)
      refine calld_intro (iFraction hP) ?_
      rw [hf, show h8.at 5 = 2600822924 from rfl]
      cbv
      repeat' (first | (intro; cbv) | (refine ChkP.mk (by decide +kernel) ?_; cbv))
      exact ⟨(ar.app ks [[.int .u32 q]], ar.iop .add .i64 5 1, 6, mixN 6 z8 h8), by kernel_rfl, ⟨by show encU (kC.take (5 + 1)) = ar.app ks [[.int .u32 q]]; subst har; exact enc_takeU hks (by decide) hq.symm, by show (0 : Int) ≤ ar.iop .add .i64 5 1; subst har; decide +kernel, by show (ar.iop .add .i64 5 1).toNat = 6; subst har; decide +kernel, by dsimp only; omega, rfl⟩, by dsimp only; omega⟩
    case inr.inr.inr.inr.inr.inr.inr.inl =>
      subst hm
      cbv
      repeat' (first | (with_reducible refine and_side ?_ ?_; rotate_left; try cbv) | (refine br_intro ?_ ?_ <;> intro <;> cbv))
      case refine_2 => have hg := ge_len har (by assumption : ar.icmp .lss 6 (ar.len prs) = false) (by decide); exfalso; omega
      case refine_1.refine_1 => exact side_lt har (by assumption) (by decide)
      refine get_ltJ har hprs (by assumption) (by decide) ?_
      intro p hp
      have ht := hpk 6 p hp
      have hf := hph 6 p hp (by decide)
      cbv
      repeat' (first | (intro; cbv) | (with_reducible refine and_side ?_ ?_; rotate_left; try cbv) | (refine ChkP.mk (by decide +kernel) ?_; cbv) | (refine br_intro ?_ ?_ <;> intro <;> cbv) | (exact side_sh har (by decide)))
      refine calld_intro (iFraction hP) ?_
      rw [ht]
      generalize hq : wI (wAt kC 6) = q
      cbv
      repeat' (first | (intro; cbv) | (with_reducible refine and_side ?_ ?_; rotate_left; try cbv) | (refine ChkP.mk (by decide +kernel) ?_; cbv) | (refine br_intro ?_ ?_ <;> intro <;> cbv))
      case refine_1.refine_2.refine_1 => exact ⟨by subst har; simp [std]; omega, by subst har; exact wid_one _⟩
      case refine_1.refine_2.refine_2.refine_2 => exact absurd (by assumption : ar.icmp .lss 6 8 = false) (by subst har; decide)
      refine calld_intro (iFraction hP) ?_
      rw [hf, show h8.at 6 = 528734635 from rfl]
      cbv
      repeat' (first | (intro; cbv) | (refine ChkP.mk (by decide +kernel) ?_; cbv))
      exact ⟨(ar.app ks [[.int .u32 q]], ar.iop .add .i64 6 1, 7, mixN 7 z8 h8), by kernel_rfl, ⟨by show encU (kC.take (6 + 1)) = ar.app ks [[.int .u32 q]]; subst har; exact enc_takeU hks (by decide) hq.symm, by show (0 : Int) ≤ ar.iop .add .i64 6 1; subst har; decide +kernel, by show (ar.iop .add .i64 6 1).toNat = 7; subst har; decide +kernel, by dsimp only; omega, rfl⟩, by dsimp only; omega⟩
    case inr.inr.inr.inr.inr.inr.inr.inr =>
      subst hm
      cbv
      repeat' (first | (with_reducible refine and_side ?_ ?_; rotate_left; try cbv) | (refine br_intro ?_ ?_ <;> intro <;> cbv))
      case refine_2 => have hg := ge_len har (by assumption : ar.icmp .lss 7 (ar.len prs) = false) (by decide); exfalso; omega
      case refine_1.refine_1 => exact side_lt har (by assumption) (by decide)
      refine get_ltJ har hprs (by assumption) (by decide) ?_
      intro p hp
      have ht := hpk 7 p hp
      have hf := hph 7 p hp (by decide)
      cbv
      repeat' (first | (intro; cbv) | (with_reducible refine and_side ?_ ?_; rotate_left; try cbv) | (refine ChkP.mk (by decide +kernel) ?_; cbv) | (refine br_intro ?_ ?_ <;> intro <;> cbv) | (exact side_sh har (by decide)))
      refine calld_intro (iFraction hP) ?_
      rw [ht]
      generalize hq : wI (wAt kC 7) = q
      cbv
      repeat' (first | (intro; cbv) | (with_reducible refine and_side ?_ ?_; rotate_left; try cbv) | (refine ChkP.mk (by decide +kernel) ?_; cbv) | (refine br_intro ?_ ?_ <;> intro <;> cbv))
      case refine_1.refine_2.refine_1 => exact ⟨by subst har; simp [std]; omega, by subst har; exact wid_one _⟩
      case refine_1.refine_2.refine_2.refine_2 => exact absurd (by assumption : ar.icmp .lss 7 8 = false) (by subst har; decide)
      refine calld_intro (iFraction hP) ?_
      rw [hf, show h8.at 7 = 1541459225 from rfl]
      cbv
      repeat' (first | (intro; cbv) | (refine ChkP.mk (by decide +kernel) ?_; cbv))
      exact ⟨(ar.app ks [[.int .u32 q]], ar.iop .add .i64 7 1, 8, mixN 8 z8 h8), by kernel_rfl, ⟨by show encU (kC.take (7 + 1)) = ar.app ks [[.int .u32 q]]; subst har; exact enc_takeU hks (by decide) hq.symm, by show (0 : Int) ≤ ar.iop .add .i64 7 1; subst har; decide +kernel, by show (ar.iop .add .i64 7 1).toNat = 8; subst har; decide +kernel, by dsimp only; omega, rfl⟩, by dsimp only; omega⟩
end Go.TL.Tryz

/- TfDhcI -/
namespace Go.TL.Tryz
open Go Go.TL Go.Proofs
set_option maxRecDepth 20000
variable {P : Program}
set_option maxRecDepth 20000 in
theorem fn85 : Tryz.prog.funcs[85]? = some Tryz.f85 := rfl
set_option maxHeartbeats 40000000 in
set_option maxRecDepth 3000 in
theorem iDhcid (hP : Prg P) {cl : List UInt8} {n : List (List UInt8)} {cs ns : List (List T)} (hc : encB cl = cs) (hn : encN n = ns) (hcl : cl.length ≤ 16) (hnb : NmB n) : ACall P 85 [.one (.t (.sl cs)), .agg [.t (.sl ns)]] [] (fun r ob => r = .one (.t (.sl (encB (dhcidV cl n)))) ∧ ob = []) := by
  generalize hK : (fun (r : A) (ob : Obs) => r = A.one (V.t (.sl (encB (dhcidV cl n)))) ∧ ob = []) = K
  have hw := wireN_len hnb
  refine acall_fn (md := md) [none] v85 hP.mixed hP.tab (fn_at hP fn85) 2 rfl (by decide +kernel) rfl ?_
  intro ar har
  cbv
  repeat' (first | (with_reducible refine and_side ?_ ?_; rotate_left; try cbv) | (refine call_intro (iWire hP (by assumption) (by assumption)) ?_; rintro r ob ⟨rfl, rfl⟩; generalize hwr : encB (wireN _) = wr; cbv))
  case refine_1 => exact side_flat har hwr
  refine call_intro (iConcat hP (n := [cl, wireN n]) (show encN [cl, wireN n] = [[.sl cs], [.sl wr]] by rw [← hc, ← hwr]; rfl) (by simp) (by
    intro l hl
    simp only [List.mem_cons, List.not_mem_nil, or_false] at hl
    rcases hl with rfl | rfl
    · omega
    · omega)) ?_
  rintro r ob ⟨rfl, rfl⟩
  rw [show catB [cl, wireN n] = cl ++ wireN n by simp [catB]]
  generalize hcat : encB (cl ++ wireN n) = cats
  cbv
  repeat' (first | (with_reducible refine and_side ?_ ?_; rotate_left; try cbv))
  case refine_1 => exact side_flat har hcat
  refine call_intro (iSha hP hcat (by simp; omega)) ?_
  rintro r ob ⟨rfl, rfl⟩
  have hsl := sumV_len kC hC (cl ++ wireN n)
  generalize hsv : sumV kC hC (cl ++ wireN n) = sv at hsl ⊢
  generalize hsm : encB sv = sms
  cbv
  repeat' (first | (with_reducible refine and_side ?_ ?_; rotate_left; try cbv))
  case refine_2.refine_2.refine_2.refine_2 =>
    subst hK
    refine ⟨⟨?_, rfl⟩⟩
    rw [dhcidV, hsv, encB_append, hsm]
    subst har; rfl
  case refine_2.refine_2.refine_2.refine_1 =>
    have h1 := encB_len hsm
    refine ⟨?_, by subst har; rw [← hsm]; exact wid_byte _⟩
    subst har
    show ([[T.int .u8 0], [T.int .u8 1], [T.int .u8 1]] ++ sms).length * (1 + 1) ≤ 2 ^ 46
    simp; omega
  case refine_2.refine_2.refine_1 => exact side_flat har hsm
def mdDI (n : Nat) : Md := bif eqB n 85 then ⟨[], false⟩ else bif eqB n 84 then ⟨[], false⟩ else md n
set_option maxRecDepth 20000 in
theorem fn37 : Tryz.prog.funcs[37]? = some Tryz.f37 := rfl
set_option maxHeartbeats 40000000 in
set_option maxRecDepth 3000 in
theorem iD (hP : Prg P) {l : Lea} {e1 e2 : List (List T)} (he1 : encB l.cl = e1) (he2 : encB l.ho = e2) (hcl : l.cl.length ≤ 16) (hnb : NmB (l.ho :: homeN)) : ACall P 37 [.agg [.t (.int .i64 l.ip), .t (.sl e1), .t (.sl e2), .t (.int .i64 l.til), .t (.bool l.won)]] []
    (fun r ob => r = .agg [.t (.sl (encN (l.ho :: homeN))), .t (.int .i64 49), .t (.int .i64 60), .t (.int .i64 0), .t (.sl []), .t (.sl (encB (dhcidV l.cl (l.ho :: homeN)))), .t (.sl [])] ∧ ob = []) := by
  refine acall_fn (md := mdDI) [none] v37 hP.mixed hP.tab (fn_at hP fn37) 1 rfl (by decide +kernel) rfl ?_
  intro ar har
  cbv
  refine calld_intro (iLeaName hP he1 he2 hnb) ?_
  generalize hnm : l.ho :: homeN = nm at hnb ⊢
  generalize hlna : encN nm = lnas
  cbv
  repeat' (first | (intro; cbv) | (with_reducible refine and_side ?_ ?_; rotate_left; try cbv) | (refine ChkP.mk (by decide +kernel) ?_; cbv) | (refine br_intro ?_ ?_ <;> intro <;> cbv) | (refine side_sh har ?_; decide))
  refine calld_intro (show ACall P 84 _ [] _ from iLeaName hP he1 he2 (by rw [hnm]; exact hnb)) ?_
  rw [hnm, hlna]
  cbv
  repeat' (first | (intro; cbv) | (with_reducible refine and_side ?_ ?_; rotate_left; try cbv) | (refine ChkP.mk (by decide +kernel) ?_; cbv) | (refine br_intro ?_ ?_ <;> intro <;> cbv) | (refine side_sh har ?_; decide))
  refine calld_intro (iDhcid hP he1 hlna hcl hnb) ?_
  generalize hdh : encB (dhcidV l.cl nm) = dhs
  cbv
  repeat' (first | (intro; cbv) | (refine ChkP.mk (by decide +kernel) ?_; cbv))
  exact ⟨⟨rfl, rfl⟩⟩
end Go.TL.Tryz

/- TfHouP -/
namespace Go.TL.Tryz
open Go Go.TL Go.Proofs
set_option maxRecDepth 20000
variable {P : Program}
set_option maxRecDepth 20000 in
theorem fn38 : Tryz.prog.funcs[38]? = some Tryz.f38 := rfl
set_option maxHeartbeats 40000000 in
set_option maxRecDepth 3000 in
theorem iP (hP : Prg P) {l : Lea} {e1 e2 : List (List T)} (he1 : encB l.cl = e1) (he2 : encB l.ho = e2) (hnb : NmB (l.ho :: homeN)) : ACall P 38 [.agg [.t (.int .i64 l.ip), .t (.sl e1), .t (.sl e2), .t (.int .i64 l.til), .t (.bool l.won)]] []
    (fun r ob => r = .agg [.t (.sl (encN (revOf l.ip))), .t (.int .i64 12), .t (.int .i64 60), .t (.int .i64 0), .t (.sl (encN (l.ho :: homeN))), .t (.sl []), .t (.sl [])] ∧ ob = []) := by
  generalize hrv : encN (revOf l.ip) = rvs
  generalize hlna : encN (l.ho :: homeN) = lnas
  refine acall_fn (md := mdDI) [none] v38 hP.mixed hP.tab (fn_at hP fn38) 1 rfl (by decide +kernel) rfl ?_
  intro ar har
  cbv
  refine calld_intro (iReverse hP) ?_
  rw [hrv]
  cbv
  repeat' (first | (intro; cbv) | (with_reducible refine and_side ?_ ?_; rotate_left; try cbv) | (refine ChkP.mk (by decide +kernel) ?_; cbv) | (refine br_intro ?_ ?_ <;> intro <;> cbv) | (refine side_sh har ?_; decide))
  refine calld_intro (iLeaName hP he1 he2 hnb) ?_
  rw [hlna]
  cbv
  repeat' (first | (intro; cbv) | (with_reducible refine and_side ?_ ?_; rotate_left; try cbv) | (refine ChkP.mk (by decide +kernel) ?_; cbv) | (refine br_intro ?_ ?_ <;> intro <;> cbv) | (refine side_sh har ?_; decide))
  exact ⟨⟨rfl, rfl⟩⟩
end Go.TL.Tryz

/- TfHouI -/
namespace Go.TL.Tryz
open Go Go.TL Go.Proofs
set_option maxRecDepth 20000
variable {P : Program}
set_option maxRecDepth 20000 in
theorem fn8 : Tryz.prog.funcs[8]? = some Tryz.f8 := rfl
set_option maxHeartbeats 40000000 in
set_option maxRecDepth 3000 in
theorem iHouseOk (hP : Prg P) {h : Hou} {d1 d2 d3 d4 d5 : List (List T)} (hd1 : encN h.z.o = d1) (hd2 : encR h.z.rs = d2) (hd3 : encN h.rv.o = d3) (hd4 : encR h.rv.rs = d4) (hd5 : encL h.ls = d5) (hb1 : BigN h.z.rs) (hb2 : BigN h.rv.rs) :
    ACall P 8 [.agg [.t (.int .i64 h.now), .t (.sl d1), .t (.sl d2), .t (.sl d3), .t (.sl d4), .t (.sl d5)]] [] (fun r ob => r = .one (.t (.bool (houseOk h))) ∧ ob = []) := by
  have hlen : d5.length = h.ls.length := by rw [← hd5]; simp [encL]
  have hhb := homeN_b.2
  have hrb := revN_b
  generalize hK : (fun (r : A) (ob : Obs) => r = A.one (V.t (.bool (houseOk h))) ∧ ob = []) = K
  refine acall_fn (md := md) [none] v8 hP.mixed hP.tab (fn_at hP fn8) 1 rfl (by decide +kernel) rfl ?_
  intro ar har
  cbv
  repeat' (first | (intro; cbv) | (with_reducible refine and_side ?_ ?_; rotate_left; try cbv) | (refine ChkP.mk (by decide +kernel) ?_; cbv) | (refine br_intro ?_ ?_ <;> intro <;> cbv) | (refine side_sh har ?_; decide) | (refine call_intro (iWithin hP) ?_; rintro r ob ⟨rfl, rfl⟩; generalize hwi : withinB _ _ _ = wi; cbv) | (refine calld_intro (iWithin hP) ?_; generalize hwi : withinB _ _ _ = wi; cbv) | (refine call_intro (iZoneOk hP (by assumption) (by assumption) (by assumption)) ?_; rintro r ob ⟨rfl, rfl⟩; generalize hzo : zoneOk _ = zo; cbv) | (refine calld_intro (iZoneOk hP (by assumption) (by assumption) (by assumption)) ?_; generalize hzo : zoneOk _ = zo; cbv))
  case refine_1 =>
    have h0 := bnot_t har (by assumption : ar.bnot wi = true)
    rw [h0] at hwi
    exact hou_f hK (by rw [houseOk, show decide (0 ≤ h.now ∧ h.now ≤ 1000000) = false from hwi]; rfl)
  case refine_2.refine_1 =>
    have h0 := bnot_t har (by assumption : ar.bnot zo = true)
    exact hou_f hK (by rw [houseOk, hzo, h0]; simp)
  case refine_2.refine_2.refine_1 =>
    have h0 := bnot_t har (by assumption : ar.bnot zo = true)
    exact hou_f hK (by rw [houseOk, hzo, h0]; simp)
  rename_i hwb zo1 hz1 hz1b hz2b
  have n0 : decide (0 ≤ h.now ∧ h.now ≤ 1000000) = true := hwi.trans (bnot_f har hwb)
  have z1 := hz1.trans (bnot_f har hz1b)
  have z2 := hzo.trans (bnot_f har hz2b)
  have o1 := zone_ol z1
  have o2 := zone_ol z2
  refine calld_intro (iHome hP) ?_
  generalize hhom : encN homeN = homs
  cbv
  repeat' (first | (intro; cbv) | (with_reducible refine and_side ?_ ?_; rotate_left; try cbv) | (refine ChkP.mk (by decide +kernel) ?_; cbv) | (refine br_intro ?_ ?_ <;> intro <;> cbv) | (refine side_sh har ?_; decide) | (refine call_intro (iNameIs hP (by assumption) (by assumption) (by omega) (by omega)) ?_; rintro r ob ⟨rfl, rfl⟩; generalize hni : (@BEq.beq (List (List UInt8)) _ _ _) = ni; cbv) | (refine calld_intro (iNameIs hP (by assumption) (by assumption) (by omega) (by omega)) ?_; generalize hni : (@BEq.beq (List (List UInt8)) _ _ _) = ni; cbv))
  case refine_1 =>
    have h0 := bnot_t har (by assumption : ar.bnot ni = true)
    exact hou_f hK (by rw [houseOk, hni, h0]; simp)
  rename_i ho1b
  have q1 : (h.z.o == homeN) = true := hni.trans (bnot_f har ho1b)
  refine calld_intro (iRev hP) ?_
  generalize hrev : encN revN = revs
  cbv
  repeat' (first | (intro; cbv) | (with_reducible refine and_side ?_ ?_; rotate_left; try cbv) | (refine ChkP.mk (by decide +kernel) ?_; cbv) | (refine br_intro ?_ ?_ <;> intro <;> cbv) | (refine side_sh har ?_; decide))
  refine calld_intro (iNameIs hP hd3 hrev (by omega) (by omega)) ?_
  generalize hni2 : (h.rv.o == revN) = ni2
  cbv
  repeat' (first | (intro; cbv) | (with_reducible refine and_side ?_ ?_; rotate_left; try cbv) | (refine ChkP.mk (by decide +kernel) ?_; cbv) | (refine br_intro ?_ ?_ <;> intro <;> cbv) | (refine side_sh har ?_; decide))
  case refine_1 =>
    have h0 := bnot_t har (by assumption : ar.bnot ni2 = true)
    exact hou_f hK (by rw [houseOk, hni2, h0]; simp)
  case refine_2.refine_1 =>
    have h0 := gt_cmp har (by assumption : ar.icmp .gtr (ar.len d5) 8 = true)
    have h1 : ¬ h.ls.length ≤ 8 := by subst har; have h0 : (8 : Int) < (d5.length : Int) := h0; omega
    exact hou_f hK (by rw [houseOk, decide_eq_false h1]; simp)
  rename_i ho2b hbg hle hbg2
  have q2 : (h.rv.o == revN) = true := hni2.trans (bnot_f har ho2b)
  have h8 : h.ls.length ≤ 8 := by
    have h0 := le_cmp har hle
    subst har; have h0 : (d5.length : Int) ≤ 8 := h0; omega
  have k1 := zone_rr z1
  have k2 := zone_rr z2
  refine loop_start [42] [] ?_
  cbv
  refine LoopR.mk Int (fun x => ([(46, .one (.t (.int .i64 x)))], [])) (fun x => 0 ≤ x ∧ x.toNat ≤ h.ls.length ∧ leasOk h x.toNat = true) (fun x => h.ls.length - x.toNat) 0 ?e ?f ?g
  case e => kernel_rfl
  case f => exact ⟨Int.le_refl _, Nat.zero_le _, rfl⟩
  case g =>
    intro i hi
    have hi0 : 0 ≤ i := hi.1
    have hil : i.toNat ≤ h.ls.length := hi.2.1
    have hlk : leasOk h i.toNat = true := hi.2.2
    clear hi
    cbv
    repeat' (first | (intro; cbv) | (with_reducible refine and_side ?_ ?_; rotate_left; try cbv) | (refine ChkP.mk (by decide +kernel) ?_; cbv) | (refine br_intro ?_ ?_ <;> intro <;> cbv) | (refine side_sh har ?_; decide) | (refine get_ltL har (by assumption) (by assumption) (by assumption) ?_; intro x e1 e2 hx he1 he2; cbv) | (refine call_intro (iLeaseOk hP (by assumption) (by assumption)) ?_; rintro r ob ⟨rfl, rfl⟩; generalize hlo : leaOk _ _ = lo; cbv) | (refine calld_intro (iLeaseOk hP (by assumption) (by assumption)) ?_; generalize hlo : leaOk _ _ = lo; cbv))
    case refine_2 =>
      have hend := ge_len har (by assumption : ar.icmp .lss i (ar.len d5) = false) hi0
      have e : h.ls.length = i.toNat := by omega
      subst hK
      refine ⟨⟨?_, rfl⟩⟩
      rw [houseOk, z1, z2, q1, q2, e, hlk, n0, decide_eq_true (show i.toNat ≤ 8 by omega)]
      rfl
    case refine_1.refine_2.refine_1 =>
      have h0 := bnot_t har (by assumption : ar.bnot lo = true)
      have hlt := (List.getElem?_eq_some_iff.1 hx).1
      exact hou_f hK (leas_bad hlt (by rw [leaRec, hx]; simp [hlo, h0]))
    case refine_1.refine_2.refine_2.refine_1 =>
      have h0 := bnot_f har (by assumption : ar.bnot lo = false)
      have hi00 := le_cmp har (by assumption : ar.icmp .gtr i 0 = false)
      have hpv : leaPrev h.ls i.toNat = true := by rw [show i.toNat = 0 by omega]; rfl
      have hlo1 : leaOk x h.now = true := hlo.trans h0
      obtain ⟨_, hcl16, hlab⟩ := lea_facts hlo1
      have hnb := host_b hlab
      have hbg5 := big_le har hbg
      have ea : ar.iop .add .i64 i 1 = i + 1 := add_std har (by omega) (by omega)
      have hlt5 := (List.getElem?_eq_some_iff.1 hx).1
      have hwon := (by assumption : x.won = true)
      refine calld_intro (iA hP he1 he2 hnb) ?_
      generalize hna : encN (x.ho :: homeN) = nas
      cbv
      repeat' (first | (intro; cbv) | (with_reducible refine and_side ?_ ?_; rotate_left; try cbv) | (refine ChkP.mk (by decide +kernel) ?_; cbv) | (refine br_intro ?_ ?_ <;> intro <;> cbv) | (refine side_sh har ?_; decide))
      refine calld_intro (iHas hP (r := leaA x) hd2 k1 (leaA_ok hlo1) hna rfl rfl rfl) ?_
      generalize hv1 : hasV h.z.rs (leaA x) = v1
      cbv
      repeat' (first | (intro; cbv) | (with_reducible refine and_side ?_ ?_; rotate_left; try cbv) | (refine ChkP.mk (by decide +kernel) ?_; cbv) | (refine br_intro ?_ ?_ <;> intro <;> cbv) | (refine side_sh har ?_; decide))
      all_goals first
        | exact absurd (bnot_f har (by assumption : ar.bnot false = false)) (by decide)
        | (have h1 : v1 = false := by first | assumption | exact bnot_t har (by assumption)
           exact hou_f hK (leas_bad hlt5 (by rw [leaRec, hx]; simp [leaHas, hwon, hv1, h1])))
        | skip
      have w1 : v1 = true := by first | assumption | exact bnot_f har (by assumption)
      replace w1 := hv1.trans w1
      refine calld_intro (iD hP he1 he2 hcl16 hnb) ?_
      generalize hdh : encB (dhcidV x.cl (x.ho :: homeN)) = dhs
      rw [hna]
      cbv
      repeat' (first | (intro; cbv) | (with_reducible refine and_side ?_ ?_; rotate_left; try cbv) | (refine ChkP.mk (by decide +kernel) ?_; cbv) | (refine br_intro ?_ ?_ <;> intro <;> cbv) | (refine side_sh har ?_; decide))
      refine calld_intro (iHas hP (r := leaD x) hd2 k1 (leaD_ok hlo1) hna rfl hdh rfl) ?_
      generalize hv2 : hasV h.z.rs (leaD x) = v2
      cbv
      repeat' (first | (intro; cbv) | (with_reducible refine and_side ?_ ?_; rotate_left; try cbv) | (refine ChkP.mk (by decide +kernel) ?_; cbv) | (refine br_intro ?_ ?_ <;> intro <;> cbv) | (refine side_sh har ?_; decide))
      all_goals first
        | exact absurd (bnot_f har (by assumption : ar.bnot false = false)) (by decide)
        | (have h1 : v2 = false := by first | assumption | exact bnot_t har (by assumption)
           exact hou_f hK (leas_bad hlt5 (by rw [leaRec, hx]; simp [leaHas, hwon, hv2, h1])))
        | skip
      have w2 : v2 = true := by first | assumption | exact bnot_f har (by assumption)
      replace w2 := hv2.trans w2
      refine calld_intro (iP hP he1 he2 hnb) ?_
      generalize hrvn : encN (revOf x.ip) = rvns
      rw [hna]
      cbv
      repeat' (first | (intro; cbv) | (with_reducible refine and_side ?_ ?_; rotate_left; try cbv) | (refine ChkP.mk (by decide +kernel) ?_; cbv) | (refine br_intro ?_ ?_ <;> intro <;> cbv) | (refine side_sh har ?_; decide))
      refine calld_intro (iHas hP (r := leaP x) hd4 k2 (leaP_ok hlo1) hrvn hna rfl rfl) ?_
      generalize hv3 : hasV h.rv.rs (leaP x) = v3
      cbv
      repeat' (first | (intro; cbv) | (with_reducible refine and_side ?_ ?_; rotate_left; try cbv) | (refine ChkP.mk (by decide +kernel) ?_; cbv) | (refine br_intro ?_ ?_ <;> intro <;> cbv) | (refine side_sh har ?_; decide))
      all_goals first
        | exact absurd (bnot_f har (by assumption : ar.bnot false = false)) (by decide)
        | (have h1 : v3 = false := by first | assumption | exact bnot_t har (by assumption)
           exact hou_f hK (leas_bad hlt5 (by rw [leaRec, hx]; simp [leaHas, hwon, hv3, h1])))
        | skip
      have w3 : v3 = true := by first | assumption | exact bnot_f har (by assumption)
      replace w3 := hv3.trans w3
      refine ⟨i + 1, by rw [← ea]; kernel_rfl, ⟨by omega, by omega, ?_⟩, by omega⟩
      rw [show (i + 1).toNat = i.toNat + 1 by omega, leas_succ, hlk, leaRec, hx]
      simp [hlo1, hpv, leaHas, w1, w2, w3]
    case refine_1.refine_2.refine_2.refine_2 =>
      have h0 := bnot_f har (by assumption : ar.bnot lo = false)
      have hi00 := le_cmp har (by assumption : ar.icmp .gtr i 0 = false)
      have hpv : leaPrev h.ls i.toNat = true := by rw [show i.toNat = 0 by omega]; rfl
      have hlo1 : leaOk x h.now = true := hlo.trans h0
      have hbg5 := big_le har hbg
      have ea : ar.iop .add .i64 i 1 = i + 1 := add_std har (by omega) (by omega)
      have hlt5 := (List.getElem?_eq_some_iff.1 hx).1
      have hwon := (by assumption : x.won = false)
      refine ⟨i + 1, by rw [← ea]; kernel_rfl, ⟨by omega, by omega, ?_⟩, by omega⟩
      rw [show (i + 1).toNat = i.toNat + 1 by omega, leas_succ, hlk, leaRec, hx]
      simp [hlo1, hpv, leaHas, hwon]
    case refine_1.refine_1 =>
      have h0 := gt_cmp har (by assumption : ar.icmp .gtr i 0 = true)
      have hb6 := big_le har hbg
      have es1 : ar.iop .sub .i64 i 1 = i - 1 := sub_std har (by omega) (by omega)
      have ej : (ar.iop .sub .i64 i 1).toNat = i.toNat - 1 := by rw [es1]; omega
      have hlt := (List.getElem?_eq_some_iff.1 hx).1
      refine get_lea har hd5 ⟨by show 0 ≤ ar.iop .sub .i64 i 1; rw [es1]; omega, by show (ar.iop .sub .i64 i 1).toNat < _; rw [ej]; omega⟩ fun y f1 f2 hy hf1 hf2 => ?_
      have hy : h.ls[(ar.iop .sub .i64 i 1).toNat]? = some y := hy
      rw [ej] at hy
      have hpe : leaPrev h.ls i.toNat = decide (y.ip < x.ip) := by
        rw [show i.toNat = (i.toNat - 1) + 1 by omega, leaPrev, hy, show i.toNat - 1 + 1 = i.toNat by omega, hx]
      cbv
      repeat' (first | (intro; cbv) | (with_reducible refine and_side ?_ ?_; rotate_left; try cbv) | (refine ChkP.mk (by decide +kernel) ?_; cbv) | (refine br_intro ?_ ?_ <;> intro <;> cbv) | (refine side_sh har ?_; decide) | (refine call_intro (iLeaseOk hP (by assumption) (by assumption)) ?_; rintro r ob ⟨rfl, rfl⟩; generalize hlo : leaOk _ _ = lo; cbv) | (refine calld_intro (iLeaseOk hP (by assumption) (by assumption)) ?_; generalize hlo : leaOk _ _ = lo; cbv))
      case refine_1 =>
        have h1 := leq_t har (by assumption : ar.icmp .leq x.ip y.ip = true)
        exact hou_f hK (leas_bad hlt (by rw [leaRec, hx]; simp only [hpe, decide_eq_false (show ¬ y.ip < x.ip by omega), Bool.false_and, Bool.and_false]))
      case refine_2.refine_1 =>
        have h0 := bnot_t har (by assumption : ar.bnot lo = true)
        exact hou_f hK (leas_bad hlt (by rw [leaRec, hx]; simp [hlo, h0]))
      all_goals
        have h0 := bnot_f har (by assumption : ar.bnot lo = false)
        have h1 := leq_f har (by assumption : ar.icmp .leq x.ip y.ip = false)
        have hpv : leaPrev h.ls i.toNat = true := by rw [hpe]; exact decide_eq_true (by omega)
      case refine_2.refine_2.refine_2 =>
        have hlo1 : leaOk x h.now = true := hlo.trans h0
        have hbg5 := big_le har hbg
        have ea : ar.iop .add .i64 i 1 = i + 1 := add_std har (by omega) (by omega)
        have hlt5 := (List.getElem?_eq_some_iff.1 hx).1
        have hwon := (by assumption : x.won = false)
        refine ⟨i + 1, by rw [← ea]; kernel_rfl, ⟨by omega, by omega, ?_⟩, by omega⟩
        rw [show (i + 1).toNat = i.toNat + 1 by omega, leas_succ, hlk, leaRec, hx]
        simp [hlo1, hpv, leaHas, hwon]
      have hlo1 : leaOk x h.now = true := hlo.trans h0
      obtain ⟨_, hcl16, hlab⟩ := lea_facts hlo1
      have hnb := host_b hlab
      have hbg5 := big_le har hbg
      have ea : ar.iop .add .i64 i 1 = i + 1 := add_std har (by omega) (by omega)
      have hlt5 := (List.getElem?_eq_some_iff.1 hx).1
      have hwon := (by assumption : x.won = true)
      refine calld_intro (iA hP he1 he2 hnb) ?_
      generalize hna : encN (x.ho :: homeN) = nas
      cbv
      repeat' (first | (intro; cbv) | (with_reducible refine and_side ?_ ?_; rotate_left; try cbv) | (refine ChkP.mk (by decide +kernel) ?_; cbv) | (refine br_intro ?_ ?_ <;> intro <;> cbv) | (refine side_sh har ?_; decide))
      refine calld_intro (iHas hP (r := leaA x) hd2 k1 (leaA_ok hlo1) hna rfl rfl rfl) ?_
      generalize hv1 : hasV h.z.rs (leaA x) = v1
      cbv
      repeat' (first | (intro; cbv) | (with_reducible refine and_side ?_ ?_; rotate_left; try cbv) | (refine ChkP.mk (by decide +kernel) ?_; cbv) | (refine br_intro ?_ ?_ <;> intro <;> cbv) | (refine side_sh har ?_; decide))
      all_goals first
        | exact absurd (bnot_f har (by assumption : ar.bnot false = false)) (by decide)
        | (have h1 : v1 = false := by first | assumption | exact bnot_t har (by assumption)
           exact hou_f hK (leas_bad hlt5 (by rw [leaRec, hx]; simp [leaHas, hwon, hv1, h1])))
        | skip
      have w1 : v1 = true := by first | assumption | exact bnot_f har (by assumption)
      replace w1 := hv1.trans w1
      refine calld_intro (iD hP he1 he2 hcl16 hnb) ?_
      generalize hdh : encB (dhcidV x.cl (x.ho :: homeN)) = dhs
      rw [hna]
      cbv
      repeat' (first | (intro; cbv) | (with_reducible refine and_side ?_ ?_; rotate_left; try cbv) | (refine ChkP.mk (by decide +kernel) ?_; cbv) | (refine br_intro ?_ ?_ <;> intro <;> cbv) | (refine side_sh har ?_; decide))
      refine calld_intro (iHas hP (r := leaD x) hd2 k1 (leaD_ok hlo1) hna rfl hdh rfl) ?_
      generalize hv2 : hasV h.z.rs (leaD x) = v2
      cbv
      repeat' (first | (intro; cbv) | (with_reducible refine and_side ?_ ?_; rotate_left; try cbv) | (refine ChkP.mk (by decide +kernel) ?_; cbv) | (refine br_intro ?_ ?_ <;> intro <;> cbv) | (refine side_sh har ?_; decide))
      all_goals first
        | exact absurd (bnot_f har (by assumption : ar.bnot false = false)) (by decide)
        | (have h1 : v2 = false := by first | assumption | exact bnot_t har (by assumption)
           exact hou_f hK (leas_bad hlt5 (by rw [leaRec, hx]; simp [leaHas, hwon, hv2, h1])))
        | skip
      have w2 : v2 = true := by first | assumption | exact bnot_f har (by assumption)
      replace w2 := hv2.trans w2
      refine calld_intro (iP hP he1 he2 hnb) ?_
      generalize hrvn : encN (revOf x.ip) = rvns
      rw [hna]
      cbv
      repeat' (first | (intro; cbv) | (with_reducible refine and_side ?_ ?_; rotate_left; try cbv) | (refine ChkP.mk (by decide +kernel) ?_; cbv) | (refine br_intro ?_ ?_ <;> intro <;> cbv) | (refine side_sh har ?_; decide))
      refine calld_intro (iHas hP (r := leaP x) hd4 k2 (leaP_ok hlo1) hrvn hna rfl rfl) ?_
      generalize hv3 : hasV h.rv.rs (leaP x) = v3
      cbv
      repeat' (first | (intro; cbv) | (with_reducible refine and_side ?_ ?_; rotate_left; try cbv) | (refine ChkP.mk (by decide +kernel) ?_; cbv) | (refine br_intro ?_ ?_ <;> intro <;> cbv) | (refine side_sh har ?_; decide))
      all_goals first
        | exact absurd (bnot_f har (by assumption : ar.bnot false = false)) (by decide)
        | (have h1 : v3 = false := by first | assumption | exact bnot_t har (by assumption)
           exact hou_f hK (leas_bad hlt5 (by rw [leaRec, hx]; simp [leaHas, hwon, hv3, h1])))
        | skip
      have w3 : v3 = true := by first | assumption | exact bnot_f har (by assumption)
      replace w3 := hv3.trans w3
      refine ⟨i + 1, by rw [← ea]; kernel_rfl, ⟨by omega, by omega, ?_⟩, by omega⟩
      rw [show (i + 1).toNat = i.toNat + 1 by omega, leas_succ, hlk, leaRec, hx]
      simp [hlo1, hpv, leaHas, w1, w2, w3]
end Go.TL.Tryz

/- TfHouL -/
namespace Go.TL.Tryz
open Go Go.TL Go.Proofs
set_option maxRecDepth 20000
variable {P : Program}
theorem bigN_sm {z : Zon} (h : smZone z) : BigN z.rs := by
  intro i r hr
  have := (h.2.2 i r hr).1.1
  omega
set_option maxRecDepth 20000 in
theorem fn3 : Tryz.prog.funcs[3]? = some Tryz.f3 := rfl
set_option maxHeartbeats 40000000 in
set_option maxRecDepth 3000 in
theorem lHouseOk (hP : Prg P) {h : Hou} {d1 d2 d3 d4 d5 : List (List T)} (hd1 : encN h.z.o = d1) (hd2 : encR h.z.rs = d2) (hd3 : encN h.rv.o = d3) (hd4 : encR h.rv.rs = d4) (hd5 : encL h.ls = d5) :
    ACall P 3 [.agg [.t (.int .i64 h.now), .t (.sl d1), .t (.sl d2), .t (.sl d3), .t (.sl d4), .t (.sl d5)]] [] (fun r ob => r = .one (.t (.bool true)) ∧ ob = []) := by
  generalize hK : (fun (r : A) (ob : Obs) => r = A.one (V.t (.bool true)) ∧ ob = []) = K
  refine acall_fn (md := md) [none] v3 hP.mixed hP.tab (fn_at hP fn3) 1 rfl (by decide +kernel) rfl ?_
  intro ar har
  cbv
  repeat' (first | (intro; cbv) | (with_reducible refine and_side ?_ ?_; rotate_left; try cbv) | (refine ChkP.mk (by decide +kernel) ?_; cbv) | (refine br_intro ?_ ?_ <;> intro <;> cbv) | (refine side_sh har ?_; decide) | (refine call_intro (szHouse hP (by assumption) (by assumption) (by assumption) (by assumption) (by assumption) (by omega) (by omega)) ?_; rintro r ob ⟨v, hv1, hv2, hv, rfl, rfl⟩; cbv))
  case refine_1 => subst hK; exact ⟨⟨rfl, rfl⟩⟩
  have hs := hv (ge_cmp har (by assumption))
  have hb1 := bigN_sm hs.1
  have hb2 := bigN_sm hs.2.1
  repeat' (first | (intro; cbv) | (with_reducible refine and_side ?_ ?_; rotate_left; try cbv) | (refine ChkP.mk (by decide +kernel) ?_; cbv) | (refine br_intro ?_ ?_ <;> intro <;> cbv) | (refine side_sh har ?_; decide) | (refine call_intro (toHouse hP (by assumption) (by assumption) (by assumption) (by assumption) (by assumption) (by first | assumption | exact hs.2 _ _ (by assumption))) ?_; rintro r ob ⟨rfl, rfl⟩; cbv) | (refine calld_intro (toHouse hP (by assumption) (by assumption) (by assumption) (by assumption) (by assumption) (by first | assumption | exact hs.2 _ _ (by assumption))) ?_; cbv) | (refine call_intro (sHouseOk hP (by assumption) (by assumption) (by assumption) (by assumption) (by assumption) (by assumption) (by assumption)) ?_; rintro r ob ⟨rfl, rfl⟩; generalize hho : houseOk _ = hho1; cbv) | (refine calld_intro (sHouseOk hP (by assumption) (by assumption) (by assumption) (by assumption) (by assumption) (by assumption) (by assumption)) ?_; generalize hho : houseOk _ = hho1; cbv) | (refine call_intro (iHouseOk hP (by assumption) (by assumption) (by assumption) (by assumption) (by assumption) (by assumption) (by assumption)) ?_; rintro r ob ⟨rfl, rfl⟩; generalize hho : houseOk _ = hho1; cbv) | (refine calld_intro (iHouseOk hP (by assumption) (by assumption) (by assumption) (by assumption) (by assumption) (by assumption) (by assumption)) ?_; generalize hho : houseOk _ = hho1; cbv) | (refine call_intro (eqHouse hP (by assumption) (by assumption) (by assumption) (by assumption) (by assumption)) ?_; rintro r ob ⟨rfl, rfl⟩; cbv) | (refine calld_intro (eqHouse hP (by assumption) (by assumption) (by assumption) (by assumption) (by assumption)) ?_; cbv))
  all_goals first
    | (subst hK; exact ⟨⟨rfl, rfl⟩⟩)
    | (exfalso; subst har; simp_all [std, icmpS]; done)
end Go.TL.Tryz

/- TfHozE -/
namespace Go.Proofs.YtpnhfpjpmjdgmaaGreatDoor.fnExactHouseOk
open Go Go.TL Go.TL.Tryz Go.Proofs Go.ChangeShapes Go.WideShapes Go.ChangeAt Go.RowKit

theorem own : ownKnob Tryz.prog.godebug = none := by kernel_rfl
theorem laidOut : laidOutB Tryz.prog = true := by kernel_rfl
theorem readable0 : Tryz.prog.readableRec 30 = true := by kernel_rfl
theorem rowLt0 : 30 < Tryz.prog.types.size := by decide +kernel
theorem gTab : Tryz.prog.globalNamed "internal/strconv.uint64pow10" = some 1 := by kernel_rfl
theorem gTabType : (Tryz.prog.globals[1]?).map (·.type) = some 178 := by kernel_rfl
theorem cellsTab : Tryz.prog.cellsOf 178 = 20 := by kernel_rfl
theorem cellsElt : Tryz.prog.cellsOf 151 = 1 := by kernel_rfl
theorem tableData : Rows.laid_internal_strconv_uint64pow10 (H := Unit) = Lib.tabData .u64 pow10L := by kernel_rfl
theorem laidIs : laidMetH Tryz.prog Rows.fnExactHouseOkRow.laid = laidMet Tryz.prog Rows.fnExactHouseOkRow.laid := by kernel_rfl
/-- What the row's list gives: the table that texts of numbers read. -/
theorem table {W : World} (h : laidMetH Tryz.prog Rows.fnExactHouseOkRow.laid W) : Lib.TabIs Tryz.prog W "internal/strconv.uint64pow10" .u64 pow10L := by
  rw [laidIs] at h
  have h3 := laidMet_tail (laidMet_tail h)
  rw [tableData] at h3
  exact Lib.tabIs_of_head gTab gTabType Tryz.underlying178 Tryz.underlying151 cellsElt cellsTab h3
theorem tabOk : TabOk Tryz.prog tf := tabOk_of (by decide +kernel)
theorem prg : Prg Tryz.prog := ⟨rfl, Go.Checked.mixed Tryz.checked, tabOk⟩
theorem params_ok : ∀ t ∈ Tryz.f3.params.toList, Tryz.prog.readableRec t = true ∧ t < Tryz.prog.types.size := by
  intro t ht
  rw [Tryz.params3] at ht
  obtain rfl : t = 30 := by simpa using ht
  exact ⟨readable0, rowLt0⟩
set_option maxRecDepth 100000 in
theorem contract (H : Type) (enc : TypeId × Value → H) (W : World) (base : Nat) (args : Array Value) (ds gs : List (DataW H)) (before : List MemPlace)
    (hval : ∀ (j : Nat) t v, Tryz.f3.params[j]? = some t → args[j]? = some v → Value.okWide Tryz.prog W .any base t v)
    (hW : DataW.Whole enc Tryz.prog Tryz.f3.params.toList Rows.fnExactHouseOkSpec.vars false W args.toList ds gs before) (hL : laidMetH Tryz.prog Rows.fnExactHouseOkRow.laid W) :
    Calls Tryz.prog 3 args W fun e W' => ∃ v, e = .returned v ∧ Rows.fnExactHouseOkSpec.post enc Tryz.prog Tryz.f3 false true false false W args v W' := by
  refine law_args Tryz.func3 rfl (by decide) rfl laidOut params_ok gTab rfl (fun ds h => ?_) (fun p hA => ?_) hW (table hL)
  · have h : ds.length = 1 := h
    match ds, h with
    | [d0], _ => rfl
  replace hA : DataW.TrodAll enc Tryz.prog W 0 (fun _ => true) true [30] args.toList ds p := hA
  obtain ⟨v0, vs0, d0, ds0, p0, q0, hargs0, rfl, rfl, h0, r0⟩ := trodAll_cons hA
  obtain ⟨hnil, _, _⟩ := trodAll_nil r0
  have hall : args.toList = [v0] := by rw [hargs0, hnil]
  have hat : ∀ i v, [v0][i]? = some v → args[i]? = some v := fun i v h => by rw [← hall, Array.getElem?_toList] at h; exact h
  obtain ⟨a0, ha0⟩ := arg_struct Tryz.underlying30 open_House h0 (by obtain ⟨cs, e, _⟩ := okWide_struct Tryz.underlying30 (hval 0 _ v0 rfl (hat 0 v0 rfl)); exact ⟨cs, e⟩)
  refine ⟨[.agg ((cellsHou a0).map .t)], by rw [hall]; rfl, fun i v x hv hx => ?_, lHouseOk prg rfl rfl rfl rfl rfl⟩
  rw [hall] at hv
  match i, hv, hx with
  | 0, hv, hx => obtain rfl := Option.some.inj hv; obtain rfl := Option.some.inj hx; exact ha0
/-- The cells of a datum. -/
def cell1 : DataW Unit → List Value
  | .lit (.int k z) => [.int k z]
  | _ => []
def cell2 : DataW Unit → List Value
  | .lit (.int k z) => [.int k z]
  | .agg ps => ps.flatMap cell1
  | _ => []
def cell3 : DataW Unit → List Value
  | .agg ps => ps.flatMap cell2
  | _ => []
def lay (g : Nat) (d : DataW Unit) (h : Array Obj) : Array Obj := h.modify g fun
  | .cells _ t frozen => .cells (cell3 d).toArray t frozen
  | o => o
noncomputable def laidHeap (h : Array Obj) : Array Obj :=
  lay 2 Rows.laid_math_bits_deBruijn32tab (lay 3 Rows.laid_math_bits_deBruijn64tab (lay 1 Rows.laid_internal_strconv_uint64pow10 h))
/-- A world for the witness: the listed variables hold what the list says. -/
noncomputable def laidWorld (os : Os) : World := { World.holding Tryz.prog os ⟨#[], #[], []⟩ with heap := laidHeap (World.holding Tryz.prog os ⟨#[], #[], []⟩).heap }
set_option maxRecDepth 100000 in
theorem laid_met (os : Os) : laidMet Tryz.prog Rows.fnExactHouseOkRow.laid ((laidWorld os).forCall (fun _ _ => 0) ⟨#[], #[(.agg #[.int .i64 0, .slice none 0 0, .slice none 0 0, .slice none 0 0, .slice none 0 0, .slice none 0 0])], []⟩).memory :=
  laidMet_of_run' 8 (by kernel_rfl) (by kernel_rfl)
set_option maxRecDepth 100000 in
theorem reads (os : Os) {H : Type} (enc : TypeId × Value → H) : ∃ places, DataW.whole enc Tryz.prog ((laidWorld os).forCall (fun _ _ => 0) ⟨#[], #[(.agg #[.int .i64 0, .slice none 0 0, .slice none 0 0, .slice none 0 0, .slice none 0 0, .slice none 0 0])], []⟩).memory Tryz.f3.params.toList Rows.fnExactHouseOkSpec.vars false (#[(.agg #[.int .i64 0, .slice none 0 0, .slice none 0 0, .slice none 0 0, .slice none 0 0, .slice none 0 0])] : Array Value).toList 8 = some ([.agg [.lit (.int .i64 0), .agg [.agg [.nil], .nil], .agg [.agg [.nil], .nil], .nil]], [], places) :=
  ⟨[], by kernel_rfl⟩
set_option maxRecDepth 100000 in
theorem lifted (os : Os) (started : os.Started) (H : Type) (enc : TypeId × Value → H) (F : Stop.Interp) :
    ReturnsInHanded {} Tryz.checked os 3 .any ((OpenSpec.ofChange Rows.fnExactHouseOkSpec).preRow enc Tryz.prog Tryz.f3 Rows.fnExactHouseOkRow.domain false Rows.fnExactHouseOkRow.laid) (((OpenSpec.ofChange Rows.fnExactHouseOkSpec).at F).post enc Tryz.prog Tryz.f3 false true false false) := by
  obtain ⟨places, hx⟩ := reads os enc
  refine returnsInHanded_of_row (C := Tryz.checked) (s := OpenSpec.ofChange Rows.fnExactHouseOkSpec) own started (by kernel_rfl) Tryz.func3
    (witness_row_at (enc := enc) (C := Tryz.checked) false (laidWorld os) #[(.agg #[.int .i64 0, .slice none 0 0, .slice none 0 0, .slice none 0 0, .slice none 0 0, .slice none 0 0])] rfl (by kernel_rfl) (by kernel_rfl) (by kernel_rfl)
      (OpenSpec.preRow_of_cond 8 hx (by kernel_rfl) (fun k hk => by cases hk) (by kernel_rfl) (laid_met os))) ?_
  intro W base args ds gs before hval hW _ _ _ hL _ _
  exact contract H enc W base args ds gs before hval hW hL
end Go.Proofs.YtpnhfpjpmjdgmaaGreatDoor.fnExactHouseOk
