/- Texts of a proof, joined by a program (merge.py): TfRdI TfTxI TfTxR TfNgI TfDgI. -/
import Derived.Test.YthgiojaenbgdgaaGreatDoorT08
set_option linter.all false
/- TfRdI -/
namespace Go.TL.Tryz
open Go Go.TL Go.Proofs Go.RowKit
set_option maxRecDepth 20000
variable {P : Program}
set_option maxRecDepth 20000 in
theorem fn106 : Tryz.prog.funcs[106]? = some Tryz.f106 := rfl
set_option maxHeartbeats 40000000 in
set_option maxRecDepth 3000 in
set_option maxRecDepth 20000 in
theorem fn51 : Tryz.prog.funcs[51]? = some Tryz.f51 := rfl
set_option maxHeartbeats 40000000 in
set_option maxRecDepth 3000 in
set_option maxRecDepth 20000 in
theorem fn18 : Tryz.prog.funcs[18]? = some Tryz.f18 := rfl
set_option maxHeartbeats 40000000 in
set_option maxRecDepth 3000 in
theorem iSplit (hP : Prg P) {s : List UInt8} {ss : List (List T)} {x : UInt8} {xx : Int} (hs : encB s = ss) (hx : iB x = xx) (hb : s.length ≤ 1000000) :
    ACall P 106 [.one (.t (.sl ss)), .one (.t (.sl [[.int .u8 xx]]))] [] (fun r ob => r = .one (.t (.sl (encN (splitC x s)))) ∧ ob = []) := by
  generalize hK : (fun (r : A) (ob : Obs) => r = .one (.t (.sl (encN (splitC x s)))) ∧ ob = []) = K
  refine acall_fn (md := md) [none] v106 hP.mixed hP.tab (fn_at hP fn106) 2 rfl (by decide +kernel) rfl ?_
  intro ar har
  cbv
  repeat' (first | (intro; cbv) | (with_reducible refine and_side ?_ ?_; rotate_left; try cbv) | (refine ChkP.mk (by rfl) ?_; cbv) | (refine br_intro ?_ ?_ <;> intro <;> cbv) | (refine get_at har (by assumption) (by assumption) (by assumption) (by assumption) ?_; cbv) | (refine get_lt har (by assumption) (by assumption) (by assumption) ?_; intro x xx hx hxx; cbv) | (refine get_atN har (by assumption) (by assumption) (by assumption) (by assumption) ?_; cbv) | (refine get_ltN har (by assumption) (by assumption) (by assumption) ?_; intro x xx hx hxx; cbv) | (refine get_atI har (by assumption) (by assumption) (by decide) ?_; cbv) | (refine get_twoA har (by assumption) (by assumption) (by decide) ?_; intro x hx; cbv) | (refine get_twoB har (by assumption) (by assumption) (by decide) ?_; intro x hx; cbv) | (refine bytes_intro (by assumption) ?_; cbv) | (exact side_lt har (by assumption) (by assumption)) | (exact side_inb har (by assumption) (by assumption) (by assumption)) | (exact side_sh har (by decide)) | (exact side_app har (by assumption) (by assumption) (by omega)) | (exact side_app0 har (by assumption) (by omega)) | (exact side_new har (by assumption) (by omega)) | (exact side_one har (by assumption) (by omega)) | (exact side_oneN har (by assumption) (by omega)) | (exact side_flat har (by assumption)) | (exact side_sbig har (by omega)) | (refine side_sbig har ?_; simp; done) | (exact side_oneI har (by assumption) (by omega)) | (refine side_ix har ?_; simp; done) | (refine side_ix har ?_; simp; omega) | (refine call_intro (iGenSplit hP (by assumption) (by assumption) (by omega)) ?_; rintro r ob ⟨rfl, rfl⟩; generalize hsx : splitC _ _ = sx; generalize hsn : encN sx = sn; cbv) | (refine calld_intro (iGenSplit hP (by assumption) (by assumption) (by omega)) ?_; generalize hsx : splitC _ _ = sx; generalize hsn : encN sx = sn; cbv))
  subst hK
  exact ⟨⟨by rw [← hsn, ← hsx], rfl⟩⟩
def mdR (n : Nat) : Md := bif eqB n 107 then ⟨[], false⟩ else md n
/-- What the program reads out of a name's text. -/
def nameReadI (b : List UInt8) : List (List UInt8) × Bool :=
  if b = [46] then ([], true) else if 96 < b.length then ([], false) else
    if nameOk (splitC 46 (trimB (lower b) [46])) then (splitC 46 (trimB (lower b) [46]), true) else ([], false)
theorem trimB_le (b c : List UInt8) : (trimB b c).length ≤ b.length := by
  unfold trimB; split
  · exact Nat.le_trans (List.length_take_le _ _) (by omega)
  · exact Nat.le_refl _
theorem nmB_ok2 {n : List (List UInt8)} {no : Bool} (h : nameOk n = no) (k : no = true) : NmB n := nmB_ok (h.trans k)
def nmR (x : List (List UInt8) × Bool) : A := .tup [.agg [.t (.sl (encN x.1))], .one (.t (.bool x.2))]
theorem iNameRead (hP : Prg P) {b : List UInt8} {bs : List (List T)} (hb : encB b = bs) (hl : b.length ≤ 1000000) :
    ACall P 51 [.one (.t (.sl bs))] [] (fun r ob => r = nmR (nameReadI b) ∧ ob = []) := by
  have hbl := encB_len hb
  have hcut : (trimB (lower b) [46]).length ≤ 1000000 := Nat.le_trans (trimB_le _ _) (by rw [lower_len]; exact hl)
  generalize hK : (fun (r : A) (ob : Obs) => r = nmR (nameReadI b) ∧ ob = []) = K
  have hk : ∀ r, r = nmR (nameReadI b) → RetP K r [] := by
    intro t ht
    subst hK
    exact ⟨⟨ht, rfl⟩⟩
  refine acall_fn (md := mdR) [none, none] v51 hP.mixed hP.tab (fn_at hP fn51) 1 rfl (by decide +kernel) rfl ?_
  intro ar har
  cbv
  repeat' (first | (intro; cbv) | (with_reducible refine and_side ?_ ?_; rotate_left; try cbv) | (refine ChkP.mk (by rfl) ?_; cbv) | (refine br_intro ?_ ?_ <;> intro <;> cbv) | (refine get_at har (by assumption) (by assumption) (by assumption) (by assumption) ?_; cbv) | (refine get_lt har (by assumption) (by assumption) (by assumption) ?_; intro x xx hx hxx; cbv) | (refine get_atN har (by assumption) (by assumption) (by assumption) (by assumption) ?_; cbv) | (refine get_ltN har (by assumption) (by assumption) (by assumption) ?_; intro x xx hx hxx; cbv) | (refine get_atI har (by assumption) (by assumption) (by decide) ?_; cbv) | (refine get_twoA har (by assumption) (by assumption) (by decide) ?_; intro x hx; cbv) | (refine get_twoB har (by assumption) (by assumption) (by decide) ?_; intro x hx; cbv) | (refine bytes_intro (by assumption) ?_; cbv) | (exact side_lt har (by assumption) (by assumption)) | (exact side_inb har (by assumption) (by assumption) (by assumption)) | (exact side_sh har (by decide)) | (exact side_app har (by assumption) (by assumption) (by omega)) | (exact side_app0 har (by assumption) (by omega)) | (exact side_new har (by assumption) (by omega)) | (exact side_one har (by assumption) (by omega)) | (exact side_oneN har (by assumption) (by omega)) | (exact side_flat har (by assumption)) | (exact side_sbig har (by omega)) | (refine side_sbig har ?_; simp; done) | (exact side_oneI har (by assumption) (by omega)) | (refine side_ix har ?_; simp; done) | (refine side_ix har ?_; simp; omega) | (refine call_intro (iLower hP (by assumption) (by omega)) ?_; rintro r ob ⟨rfl, rfl⟩; generalize hms : encB (lower _) = ms; cbv) | (refine calld_intro (iLower hP (by assumption) (by omega)) ?_; generalize hms : encB (lower _) = ms; cbv) | (refine call_intro (iTrimSuffix hP (by assumption) (show encB [46] = [[.int .u8 46]] from rfl) (by rw [lower_len]; omega) (by decide)) ?_; rintro r ob ⟨rfl, rfl⟩; generalize htr : encB (trimB _ _) = tr; cbv) | (refine calld_intro (iTrimSuffix hP (by assumption) (show encB [46] = [[.int .u8 46]] from rfl) (by rw [lower_len]; omega) (by decide)) ?_; generalize htr : encB (trimB _ _) = tr; cbv) | (refine call_intro (iSplit hP (by assumption) (show iB 46 = 46 from rfl) (by assumption)) ?_; rintro r ob ⟨rfl, rfl⟩; generalize hsx : splitC _ _ = sx; generalize hsn : encN sx = sn; cbv) | (refine calld_intro (iSplit hP (by assumption) (show iB 46 = 46 from rfl) (by assumption)) ?_; generalize hsx : splitC _ _ = sx; generalize hsn : encN sx = sn; cbv) | (refine call_intro (iNameOk hP (by assumption)) ?_; rintro r ob ⟨rfl, rfl⟩; generalize hno : nameOk _ = no; cbv) | (refine calld_intro (iNameOk hP (by assumption)) ?_; generalize hno : nameOk _ = no; cbv) | (refine call_intro (iCopied hP (by assumption) (nmB_ok2 (by assumption) (by assumption))) ?_; rintro r ob ⟨rfl, rfl⟩; cbv) | (refine calld_intro (iCopied hP (by assumption) (nmB_ok2 (by assumption) (by assumption))) ?_; cbv))
  case refine_1 =>
    rename_i h1
    have h1 : b = [46] := by subst har; simpa [std] using h1
    exact hk _ (by rw [nameReadI, if_pos h1]; rfl)
  case refine_2.refine_1 =>
    rename_i h1 h2 h3
    have h1 : ¬ b = [46] := by subst har; simpa [std] using h1
    have h3 : 96 < b.length := by subst har; simp [std, icmpS, hbl] at h3; omega
    exact hk _ (by rw [nameReadI, if_neg h1, if_pos h3]; rfl)
  all_goals
    have h1 : ¬ b = [46] := by subst har; have : std.seq b [46] = false := (by assumption); simpa [std] using this
    have h3 : ¬ 96 < b.length := by subst har; have : std.icmp .gtr (std.len bs) 96 = false := (by assumption); simp [std, icmpS, hbl] at this; omega
    have hkk : ∀ r, r = (if no then nmR (sx, true) else nmR ([], false)) → RetP K r [] := by
      intro r hr
      refine hk _ (hr.trans ?_)
      rw [nameReadI, if_neg h1, if_neg h3, hsx, hno]
      cases no <;> rfl
  case refine_2.refine_2.refine_2.refine_2.refine_2.refine_1 =>
    rename_i h4
    have h4 : no = false := by subst har; simpa [std] using h4
    exact hkk _ (by rw [h4]; rfl)
  rename_i h4
  have h4 : no = true := by subst har; simpa [std] using h4
  repeat' (first | (intro; cbv) | (with_reducible refine and_side ?_ ?_; rotate_left; try cbv) | (refine ChkP.mk (by rfl) ?_; cbv) | (refine br_intro ?_ ?_ <;> intro <;> cbv) | (refine get_at har (by assumption) (by assumption) (by assumption) (by assumption) ?_; cbv) | (refine get_lt har (by assumption) (by assumption) (by assumption) ?_; intro x xx hx hxx; cbv) | (refine get_atN har (by assumption) (by assumption) (by assumption) (by assumption) ?_; cbv) | (refine get_ltN har (by assumption) (by assumption) (by assumption) ?_; intro x xx hx hxx; cbv) | (refine get_atI har (by assumption) (by assumption) (by decide) ?_; cbv) | (refine get_twoA har (by assumption) (by assumption) (by decide) ?_; intro x hx; cbv) | (refine get_twoB har (by assumption) (by assumption) (by decide) ?_; intro x hx; cbv) | (refine bytes_intro (by assumption) ?_; cbv) | (exact side_lt har (by assumption) (by assumption)) | (exact side_inb har (by assumption) (by assumption) (by assumption)) | (exact side_sh har (by decide)) | (exact side_app har (by assumption) (by assumption) (by omega)) | (exact side_app0 har (by assumption) (by omega)) | (exact side_new har (by assumption) (by omega)) | (exact side_one har (by assumption) (by omega)) | (exact side_oneN har (by assumption) (by omega)) | (exact side_flat har (by assumption)) | (exact side_sbig har (by omega)) | (refine side_sbig har ?_; simp; done) | (exact side_oneI har (by assumption) (by omega)) | (refine side_ix har ?_; simp; done) | (refine side_ix har ?_; simp; omega) | (refine call_intro (iCopied hP (by assumption) (nmB_ok2 (by assumption) (by assumption))) ?_; rintro r ob ⟨rfl, rfl⟩; cbv) | (refine calld_intro (iCopied hP (by assumption) (nmB_ok2 (by assumption) (by assumption))) ?_; cbv))
  exact hkk _ (by rw [h4, if_pos rfl, nmR, ← hsn])
theorem nameRead_Ab : nameReadI [65, 46, 98] = ([[97], [98]], true) := by rfl
theorem lNames (hP : Prg P) : ACall P 18 [] [] (fun r ob => r = .one (.t (.bool true)) ∧ ob = []) := by
  generalize hK : (fun (r : A) (ob : Obs) => r = .one (.t (.bool true)) ∧ ob = []) = K
  have hn : encN [[97], [98]] = [[.sl [[.int .u8 97]]], [.sl [[.int .u8 98]]]] := by rfl
  have hb : encB [97, 46, 98, 46] = [[.int .u8 97], [.int .u8 46], [.int .u8 98], [.int .u8 46]] := by rfl
  refine acall_fn (md := md) [none] v18 hP.mixed hP.tab (fn_at hP fn18) 0 rfl (by decide +kernel) rfl ?_
  intro ar har
  cbv
  repeat' (first | (intro; cbv) | (with_reducible refine and_side ?_ ?_; rotate_left; try cbv) | (refine ChkP.mk (by rfl) ?_; cbv) | (refine br_intro ?_ ?_ <;> intro <;> cbv) | (refine get_at har (by assumption) (by assumption) (by assumption) (by assumption) ?_; cbv) | (refine get_lt har (by assumption) (by assumption) (by assumption) ?_; intro x xx hx hxx; cbv) | (refine get_atN har (by assumption) (by assumption) (by assumption) (by assumption) ?_; cbv) | (refine get_ltN har (by assumption) (by assumption) (by assumption) ?_; intro x xx hx hxx; cbv) | (refine get_atI har (by assumption) (by assumption) (by decide) ?_; cbv) | (refine get_twoA har (by assumption) (by assumption) (by decide) ?_; intro x hx; cbv) | (refine get_twoB har (by assumption) (by assumption) (by decide) ?_; intro x hx; cbv) | (refine bytes_intro (by assumption) ?_; cbv) | (exact side_lt har (by assumption) (by assumption)) | (exact side_inb har (by assumption) (by assumption) (by assumption)) | (exact side_sh har (by decide)) | (exact side_app har (by assumption) (by assumption) (by omega)) | (exact side_app0 har (by assumption) (by omega)) | (exact side_new har (by assumption) (by omega)) | (exact side_one har (by assumption) (by omega)) | (exact side_oneN har (by assumption) (by omega)) | (exact side_flat har (by assumption)) | (exact side_sbig har (by omega)) | (refine side_sbig har ?_; simp; done) | (exact side_oneI har (by assumption) (by omega)) | (refine side_ix har ?_; simp; done) | (refine side_ix har ?_; simp; omega))
  refine call_intro (iNameRead hP (b := [65, 46, 98]) rfl (by decide)) ?_
  rintro r ob ⟨rfl, rfl⟩
  rw [nameRead_Ab, nmR, hn]
  cbv
  repeat' (first | (intro; cbv) | (with_reducible refine and_side ?_ ?_; rotate_left; try cbv) | (refine ChkP.mk (by rfl) ?_; cbv) | (refine br_intro ?_ ?_ <;> intro <;> cbv) | (refine get_at har (by assumption) (by assumption) (by assumption) (by assumption) ?_; cbv) | (refine get_lt har (by assumption) (by assumption) (by assumption) ?_; intro x xx hx hxx; cbv) | (refine get_atN har (by assumption) (by assumption) (by assumption) (by assumption) ?_; cbv) | (refine get_ltN har (by assumption) (by assumption) (by assumption) ?_; intro x xx hx hxx; cbv) | (refine get_atI har (by assumption) (by assumption) (by decide) ?_; cbv) | (refine get_twoA har (by assumption) (by assumption) (by decide) ?_; intro x hx; cbv) | (refine get_twoB har (by assumption) (by assumption) (by decide) ?_; intro x hx; cbv) | (refine bytes_intro (by assumption) ?_; cbv) | (exact side_lt har (by assumption) (by assumption)) | (exact side_inb har (by assumption) (by assumption) (by assumption)) | (exact side_sh har (by decide)) | (exact side_app har (by assumption) (by assumption) (by omega)) | (exact side_app0 har (by assumption) (by omega)) | (exact side_new har (by assumption) (by omega)) | (exact side_one har (by assumption) (by omega)) | (exact side_oneN har (by assumption) (by omega)) | (exact side_flat har (by assumption)) | (exact side_sbig har (by omega)) | (refine side_sbig har ?_; simp; done) | (exact side_oneI har (by assumption) (by omega)) | (refine side_ix har ?_; simp; done) | (refine side_ix har ?_; simp; omega) | (refine call_intro (iNameText hP (by assumption)) ?_; rintro r ob ⟨rfl, rfl⟩; generalize hnt : encB (nameTextB _) = nt; cbv) | (refine calld_intro (iNameText hP (by assumption)) ?_; generalize hnt : encB (nameTextB _) = nt; cbv) | (refine call_intro (lSame hP (by assumption) (by assumption)) ?_; rintro r ob ⟨rfl, rfl⟩; cbv) | (refine calld_intro (lSame hP (by assumption) (by assumption)) ?_; cbv))
  case refine_2.refine_1.refine_2.refine_2 => subst hK; exact ⟨⟨rfl, rfl⟩⟩
  case refine_2.refine_2 => exact absurd (show std.icmp .eql (std.len [[T.sl [[T.int .u8 97]]], [T.sl [[T.int .u8 98]]]]) 2 = false by subst har; assumption) (by show ¬ (icmpS .eql ((2 : Nat) : Int) 2 = false); decide)
end Go.TL.Tryz

/- TfTxI -/
namespace Go.TL.Tryz
open Go Go.TL Go.Proofs
variable {P : Program}

def decS (l : List UInt8) : List (List UInt8) := l.map fun c => Lib.itoa (iB c)
theorem wid_encS (l : List (List UInt8)) : std.wid 1 (encS l) := by intro x hx; obtain ⟨y, _, rfl⟩ := List.mem_map.1 hx; rfl
theorem side_oneS {ar : Ar} (har : ar = std) {l : List (List UInt8)} {es : List (List T)} {t : T} (h : encS l = es) (hn : l.length ≤ 1000000000) : Side (ar.room 16 (ar.app es [[t]]) ∧ ar.wid 1 [[t]]) := by
  have := encS_len h
  subst har
  exact ⟨by simp [std]; omega, wid_one t⟩
theorem side_flatS {ar : Ar} (har : ar = std) {l : List (List UInt8)} {es : List (List T)} (h : encS l = es) : Side (ar.flat es) := by
  subst har; subst h
  refine ⟨fun x hx t ht => ?_⟩
  obtain ⟨y, _, rfl⟩ := List.mem_map.1 hx
  simp at ht; subst ht; rfl
theorem encS_app {l m : List (List UInt8)} {es fs : List (List T)} (h : encS l = es) (k : encS m = fs) : encS (l ++ m) = es ++ fs := by subst h; subst k; simp [encS]
set_option maxRecDepth 20000 in
theorem fn148 : Tryz.prog.funcs[148]? = some Tryz.f148 := rfl
set_option maxHeartbeats 40000000 in
set_option maxRecDepth 3000 in
theorem iDecimals (hP : Prg P) {n : Int} : ACall P 148 [.one (.t (.int .i64 n))] [] (fun r ob => r = .one (.row 32 0) ∧ ob = [(32, .row 1 (encS (decS (fourB n))) 0 [0] false)]) := by
  refine acall_fn (md := md) [some [(0, 1)]] v148 hP.mixed hP.tab (fn_at hP fn148) 1 rfl (by decide +kernel) rfl ?_
  intro ar har
  cbv
  repeat' (first | (intro; cbv) | (with_reducible refine and_side ?_ ?_; rotate_left; try cbv) | (refine ChkP.mk (by rfl) ?_; cbv) | (refine br_intro ?_ ?_ <;> intro <;> cbv) | (refine get_at har (by assumption) (by assumption) (by assumption) (by assumption) ?_; cbv) | (refine get_lt har (by assumption) (by assumption) (by assumption) ?_; intro x xx hx hxx; cbv) | (refine get_atN har (by assumption) (by assumption) (by assumption) (by assumption) ?_; cbv) | (refine get_ltN har (by assumption) (by assumption) (by assumption) ?_; intro x xx hx hxx; cbv) | (refine get_atI har (by assumption) (by assumption) (by decide) ?_; cbv) | (refine get_twoA har (by assumption) (by assumption) (by decide) ?_; intro x hx; cbv) | (refine get_twoB har (by assumption) (by assumption) (by decide) ?_; intro x hx; cbv) | (refine bytes_intro (by assumption) ?_; cbv) | (exact side_lt har (by assumption) (by assumption)) | (exact side_inb har (by assumption) (by assumption) (by assumption)) | (exact side_sh har (by decide)) | (exact side_app har (by assumption) (by assumption) (by omega)) | (exact side_app0 har (by assumption) (by omega)) | (exact side_new har (by assumption) (by omega)) | (exact side_one har (by assumption) (by omega)) | (exact side_oneN har (by assumption) (by omega)) | (exact side_flat har (by assumption)) | (exact side_sbig har (by omega)) | (refine side_sbig har ?_; simp; done) | (exact side_oneI har (by assumption) (by omega)) | (refine side_ix har ?_; simp; done) | (refine side_ix har ?_; simp; omega) | (refine call_intro (iFour hP) ?_; rintro r ob ⟨rfl, rfl⟩; generalize hfo : encB (fourB _) = fo; cbv) | (refine calld_intro (iFour hP) ?_; generalize hfo : encB (fourB _) = fo; cbv))
  have hfl : (fourB n).length = 4 := rfl
  refine LoopP.mk (List (List UInt8) × List (List T) × Int) [3, 8, 9, 10] []
    (fun x => ⟨[(3, .one (.row 16 0)), (8, .one (.row 17 0)), (9, .one (.t (.int .i64 (ar.len fo)))), (10, .one (.t (.int .i64 x.2.2)))], [(16, .row 1 x.2.1 0 [0] false), (17, .row 1 fo 0 [0] false)]⟩)
    (fun x => encS x.1 = x.2.1 ∧ 0 ≤ x.2.2 ∧ x.2.2.toNat ≤ (fourB n).length ∧ x.1 = decS ((fourB n).take x.2.2.toNat)) (fun x => 4 - x.2.2.toNat) ([], [], 0) ?e ?f ?g
  case e => kernel_rfl
  case f => exact ⟨rfl, Int.le_refl _, by simp, rfl⟩
  case g =>
    intro x hx
    obtain ⟨l, os, j⟩ := x
    have hl : encS l = os := hx.1
    have hj0 : 0 ≤ j := hx.2.1
    have hjb : j.toNat ≤ (fourB n).length := hx.2.2.1
    have hll : l = decS ((fourB n).take j.toNat) := hx.2.2.2
    have hln : l.length ≤ 4 := by rw [hll, decS, List.length_map, List.length_take]; omega
    clear hx
    cbv
    repeat' (first | (intro; cbv) | (with_reducible refine and_side ?_ ?_; rotate_left; try cbv) | (refine ChkP.mk (by rfl) ?_; cbv) | (refine br_intro ?_ ?_ <;> intro <;> cbv) | (refine get_at har (by assumption) (by assumption) (by assumption) (by assumption) ?_; cbv) | (refine get_lt har (by assumption) (by assumption) (by assumption) ?_; intro x xx hx hxx; cbv) | (refine get_atN har (by assumption) (by assumption) (by assumption) (by assumption) ?_; cbv) | (refine get_ltN har (by assumption) (by assumption) (by assumption) ?_; intro x xx hx hxx; cbv) | (refine get_atI har (by assumption) (by assumption) (by decide) ?_; cbv) | (refine get_twoA har (by assumption) (by assumption) (by decide) ?_; intro x hx; cbv) | (refine get_twoB har (by assumption) (by assumption) (by decide) ?_; intro x hx; cbv) | (refine bytes_intro (by assumption) ?_; cbv) | (exact side_lt har (by assumption) (by assumption)) | (exact side_inb har (by assumption) (by assumption) (by assumption)) | (exact side_sh har (by decide)) | (exact side_app har (by assumption) (by assumption) (by omega)) | (exact side_app0 har (by assumption) (by omega)) | (exact side_new har (by assumption) (by omega)) | (exact side_one har (by assumption) (by omega)) | (exact side_oneN har (by assumption) (by omega)) | (exact side_flat har (by assumption)) | (exact side_sbig har (by omega)) | (refine side_sbig har ?_; simp; done) | (exact side_oneI har (by assumption) (by omega)) | (refine side_ix har ?_; simp; done) | (refine side_ix har ?_; simp; omega) | (refine call_intro (iItoa hP) ?_; rintro r ob ⟨rfl, rfl⟩; generalize hit : Lib.itoa _ = it; cbv) | (refine calld_intro (iItoa hP) ?_; generalize hit : Lib.itoa _ = it; cbv))
    · have hlt := (List.getElem?_eq_some_iff.1 hx).1
      have hw : ar.conv .i64 xx = xx := by subst har; rw [← hxx]; exact iB_wrap64 x
      rw [hw] at hit
      have hl1 : l ++ [it] = decS ((fourB n).take (j.toNat + 1)) := by rw [List.take_add_one, hx, hll, ← hit, ← hxx]; simp [decS]
      subst har
      refine ⟨(l ++ [it], encS (l ++ [it]), j + 1), ?_, ⟨rfl, by dsimp only; omega, by dsimp only; omega, by dsimp only; rw [hl1, show (j + 1).toNat = j.toNat + 1 by omega]⟩, by dsimp only; omega⟩
      rw [show encS (l ++ [it]) = std.app os [[.str it]] from encS_app hl rfl, show j + 1 = std.iop .add .i64 j 1 from (addI (by omega) (by omega)).symm]
      kernel_rfl
    · exact side_oneS har hl (by omega)
    · have hg := ge_len har (by assumption) hj0
      rw [encB_len hfo] at hg
      rw [take_all (by omega)] at hll
      exact ⟨⟨rfl, by rw [← hl, hll]⟩⟩
def dotB (n : Int) : List UInt8 := if isWordB n then Lib.join (decS (fourB n)) [46] else []
theorem join4 (a b c d : List UInt8) : Lib.join [a, b, c, d] [46] = a ++ 46 :: (b ++ 46 :: (c ++ 46 :: d)) := by
  rw [Lib.join_cons]; simp [Lib.joinTail]
theorem dec4 (n : Int) : ∃ a b c d : UInt8, decS (fourB n) = [Lib.itoa (iB a), Lib.itoa (iB b), Lib.itoa (iB c), Lib.itoa (iB d)] := ⟨_, _, _, _, rfl⟩
theorem itoaB_len (x : UInt8) : (Lib.itoa (iB x)).length ≤ 21 := itoa_len (has_i64 (by have := iB_lo x; omega) (by have := iB_hi x; omega))
theorem joinD_len (n : Int) : (Lib.join (decS (fourB n)) [46]).length ≤ 90 := by
  obtain ⟨a, b, c, d, h⟩ := dec4 n
  have h1 := itoaB_len a; have h2 := itoaB_len b; have h3 := itoaB_len c; have h4 := itoaB_len d
  rw [h, join4]; simp; omega
theorem dotB_len (n : Int) : (dotB n).length ≤ 90 := by
  unfold dotB
  split
  · exact joinD_len n
  · simp
theorem dotB_chars (n : Int) : ∀ x, x ∈ dotB n → 45 ≤ iB x ∧ iB x ≤ 57 := by
  intro x hx
  unfold dotB at hx
  split at hx
  · obtain ⟨a, b, c, d, h⟩ := dec4 n
    rw [h, join4] at hx
    simp only [List.mem_append, List.mem_cons] at hx
    rcases hx with h | h | h | h | h | h | h
    · exact itoa_chars x h
    · subst h; decide
    · exact itoa_chars x h
    · subst h; decide
    · exact itoa_chars x h
    · subst h; decide
    · exact itoa_chars x h
  · cases hx
set_option maxRecDepth 20000 in
theorem fn87 : Tryz.prog.funcs[87]? = some Tryz.f87 := rfl
set_option maxHeartbeats 40000000 in
set_option maxRecDepth 3000 in
theorem iDotted (hP : Prg P) {n : Int} : ACall P 87 [.one (.t (.int .i64 n))] [] (fun r ob => r = .one (.row 32 0) ∧ ob = [(32, .row 1 (encB (dotB n)) 0 [0] false)]) := by
  have hjl := joinD_len n
  refine acall_fn (md := md) [some [(0, 1)]] v87 hP.mixed hP.tab (fn_at hP fn87) 1 rfl (by decide +kernel) rfl ?_
  intro ar har
  cbv
  repeat' (first | (intro; cbv) | (with_reducible refine and_side ?_ ?_; rotate_left; try cbv) | (refine ChkP.mk (by rfl) ?_; cbv) | (refine br_intro ?_ ?_ <;> intro <;> cbv) | (refine get_at har (by assumption) (by assumption) (by assumption) (by assumption) ?_; cbv) | (refine get_lt har (by assumption) (by assumption) (by assumption) ?_; intro x xx hx hxx; cbv) | (refine get_atN har (by assumption) (by assumption) (by assumption) (by assumption) ?_; cbv) | (refine get_ltN har (by assumption) (by assumption) (by assumption) ?_; intro x xx hx hxx; cbv) | (refine get_atI har (by assumption) (by assumption) (by decide) ?_; cbv) | (refine get_twoA har (by assumption) (by assumption) (by decide) ?_; intro x hx; cbv) | (refine get_twoB har (by assumption) (by assumption) (by decide) ?_; intro x hx; cbv) | (refine bytes_intro (by assumption) ?_; cbv) | (exact side_lt har (by assumption) (by assumption)) | (exact side_inb har (by assumption) (by assumption) (by assumption)) | (exact side_sh har (by decide)) | (exact side_app har (by assumption) (by assumption) (by omega)) | (exact side_app0 har (by assumption) (by omega)) | (exact side_new har (by assumption) (by omega)) | (exact side_one har (by assumption) (by omega)) | (exact side_oneN har (by assumption) (by omega)) | (exact side_flat har (by assumption)) | (exact side_sbig har (by omega)) | (refine side_sbig har ?_; simp; done) | (exact side_oneI har (by assumption) (by omega)) | (refine side_ix har ?_; simp; done) | (refine side_ix har ?_; simp; omega) | (refine call_intro (iIsWord hP) ?_; rintro r ob ⟨rfl, rfl⟩; generalize hiw : isWordB _ = iw; cbv) | (refine calld_intro (iIsWord hP) ?_; generalize hiw : isWordB _ = iw; cbv) | (refine call_intro (iDecimals hP) ?_; rintro r ob ⟨rfl, rfl⟩; generalize hdc : encS (decS _) = dc; cbv) | (refine calld_intro (iDecimals hP) ?_; generalize hdc : encS (decS _) = dc; cbv))
  · subst har; simp only [std, icmpS, decide_eq_true_eq, decide_eq_false_iff_not, Bool.not_eq_true', Bool.not_eq_false', bne_iff_ne, ne_eq, bne_eq_false_iff_eq, beq_iff_eq, beq_eq_false_iff_ne, Int.not_lt, Int.not_le, Bool.not_true, Bool.not_false, reduceCtorEq] at *
    have hiw : isWordB n = false := by rw [hiw]; assumption
    exact ⟨⟨rfl, by rw [dotB, hiw]; rfl⟩⟩
  · refine call_intro (iJoin hP hdc (Nat.le_of_ble_eq_true rfl) (by omega)) ?_
    rintro r ob ⟨rfl, rfl⟩
    generalize hjn : Lib.join (decS (fourB n)) [46] = jn at hjl ⊢
    cbv
    repeat' (first | (intro; cbv) | (with_reducible refine and_side ?_ ?_; rotate_left; try cbv) | (refine ChkP.mk (by rfl) ?_; cbv) | (refine br_intro ?_ ?_ <;> intro <;> cbv) | (refine get_at har (by assumption) (by assumption) (by assumption) (by assumption) ?_; cbv) | (refine get_lt har (by assumption) (by assumption) (by assumption) ?_; intro x xx hx hxx; cbv) | (refine get_atN har (by assumption) (by assumption) (by assumption) (by assumption) ?_; cbv) | (refine get_ltN har (by assumption) (by assumption) (by assumption) ?_; intro x xx hx hxx; cbv) | (refine get_atI har (by assumption) (by assumption) (by decide) ?_; cbv) | (refine get_twoA har (by assumption) (by assumption) (by decide) ?_; intro x hx; cbv) | (refine get_twoB har (by assumption) (by assumption) (by decide) ?_; intro x hx; cbv) | (refine bytes_intro (by assumption) ?_; cbv) | (exact side_lt har (by assumption) (by assumption)) | (exact side_inb har (by assumption) (by assumption) (by assumption)) | (exact side_sh har (by decide)) | (exact side_app har (by assumption) (by assumption) (by omega)) | (exact side_app0 har (by assumption) (by omega)) | (exact side_new har (by assumption) (by omega)) | (exact side_one har (by assumption) (by omega)) | (exact side_oneN har (by assumption) (by omega)) | (exact side_flat har (by assumption)) | (exact side_sbig har (by omega)) | (refine side_sbig har ?_; simp; done) | (exact side_oneI har (by assumption) (by omega)) | (refine side_ix har ?_; simp; done) | (refine side_ix har ?_; simp; omega))
    subst har; simp only [std, icmpS, decide_eq_true_eq, decide_eq_false_iff_not, Bool.not_eq_true', Bool.not_eq_false', bne_iff_ne, ne_eq, bne_eq_false_iff_eq, beq_iff_eq, beq_eq_false_iff_ne, Int.not_lt, Int.not_le, Bool.not_true, Bool.not_false, reduceCtorEq] at *
    have hiw : isWordB n = true := by rw [hiw]; assumption
    exact ⟨⟨rfl, by rw [dotB, hiw, if_pos rfl, hjn]⟩⟩
  · exact side_flatS har hdc
def hexS : List UInt8 := [48, 49, 50, 51, 52, 53, 54, 55, 56, 57, 97, 98, 99, 100, 101, 102]
def hexD (i : Int) : UInt8 := hexS.getD i.toNat 0
def hex2 (x : UInt8) : List UInt8 := [hexD (iopS .shr .u8 (iB x) 4), hexD (iopS .and .u8 (iB x) 15)]
def dataX (t addr : Int) (to : List (List UInt8)) (tx : List UInt8) (nu : List Int) : List UInt8 :=
  if t = 1 then dotB addr else if namedB t then nu.foldl (fun d n => joinW [d, Lib.itoa n]) (nameTextB to) else tx.flatMap hex2
def textX (n : List (List UInt8)) (t ttl addr : Int) (to : List (List UInt8)) (tx : List UInt8) (nu : List Int) : List UInt8 :=
  joinW [nameTextB n, Lib.itoa ttl, tyName t, dataX t addr to tx nu]
end Go.TL.Tryz

/- TfTxR -/
namespace Go.TL.Tryz
open Go Go.TL Go.Proofs
variable {P : Program}

theorem textN_len {n : List (List UInt8)} (h : NmB n) : (textN n).length ≤ 200 := by
  have : ∀ m : List (List UInt8), (∀ l ∈ m, l.length ≤ 16) → (m.flatMap dotL).length ≤ 17 * m.length := by
    intro m
    induction m with
    | nil => simp
    | cons x r ih => intro h; have h1 := h x (.head _); have h2 := ih fun l hl => h l (.tail _ hl); simp [dotL] at *; omega
  have h1 := this n h.2
  have h2 := h.1
  unfold textN
  split
  · simp
  · omega
theorem nameTextB_len (n : List (List UInt8)) : (nameTextB n).length ≤ 200 := by
  unfold nameTextB
  split
  · rename_i h; exact textN_len (nmB_ok h)
  · simp
theorem rrOk_all {n to : List (List UInt8)} {t ttl addr : Int} {tx : List UInt8} {nu : List Int} (h : rrOk n t ttl addr to tx nu = true) :
    nameOk n = true ∧ typeB t = true ∧ (0 ≤ ttl ∧ ttl ≤ 100000) ∧ (if t = 1 then 0 ≤ addr ∧ addr ≤ 4294967295 else addr = 0) ∧ (if namedB t then nameOk to = true else to = []) ∧
      (if textB t then tx.length ≤ 40 else tx = []) ∧ (if t = 6 then ∃ x y, nu = [x, y] ∧ (0 ≤ x ∧ x ≤ 4294967295) ∧ (0 ≤ y ∧ y ≤ 100000) else nu = []) := by
  unfold rrOk dataOk numsOk at h
  simp only [Bool.and_eq_true, withinB, isWordB, decide_eq_true_eq] at h
  obtain ⟨h1, h2, h3, h4, h5, h6, h7⟩ := h
  refine ⟨h1, h2, h3, ?_, ?_, ?_, ?_⟩
  · split at h4
    · rename_i e; rw [if_pos e]; simpa using h4
    · rename_i e; rw [if_neg e]; simpa using h4
  · split at h5
    · rename_i e; rw [if_pos e]; exact h5
    · rename_i e; rw [if_neg e]; simpa using h5
  · split at h6
    · rename_i e; rw [if_pos e]; simpa using h6
    · rename_i e; rw [if_neg e]; simpa using h6
  · split at h7
    · rename_i e
      rw [if_pos e]
      simp only [Bool.and_eq_true, decide_eq_true_eq] at h7
      obtain ⟨g1, g2, g3⟩ := h7
      match nu, g1 with
      | [x, y], _ => exact ⟨x, y, rfl, g2, g3⟩
    · rename_i e; rw [if_neg e]; simpa using h7
theorem nums_of {n to : List (List UInt8)} {t ttl addr : Int} {tx : List UInt8} {nu : List Int} (h : rrOk n t ttl addr to tx nu = true) : nu.length ≤ 2 ∧ ∀ x, x ∈ nu → 0 ≤ x ∧ x ≤ 4294967295 := by
  have := (rrOk_all h).2.2.2.2.2.2
  split at this
  · obtain ⟨x, y, rfl, h1, h2⟩ := this
    refine ⟨by simp, fun z hz => ?_⟩
    simp at hz
    rcases hz with rfl | rfl
    · exact h1
    · omega
  · subst this; simp
theorem tx_of {n to : List (List UInt8)} {t ttl addr : Int} {tx : List UInt8} {nu : List Int} (h : rrOk n t ttl addr to tx nu = true) : tx.length ≤ 40 := by
  have := (rrOk_all h).2.2.2.2.2.1
  split at this
  · exact this
  · subst this; simp
theorem join2 (d e : List UInt8) : joinW [d, e] = d ++ 32 :: e := by simp [joinW]
theorem hex_bytes {ar : Ar} (har : ar = std) (a b : Int) : [[T.int .u8 (ar.sget [48, 49, 50, 51, 52, 53, 54, 55, 56, 57, 97, 98, 99, 100, 101, 102] a)], [T.int .u8 (ar.sget [48, 49, 50, 51, 52, 53, 54, 55, 56, 57, 97, 98, 99, 100, 101, 102] b)]] = encB [hexD a, hexD b] := by
  subst har; rfl
theorem hex_shr {x : Int} (h : 0 ≤ x ∧ x ≤ 255) : 0 ≤ iopS .shr .u8 x 4 ∧ iopS .shr .u8 x 4 < 16 := by
  have e : iopS .shr .u8 x 4 = x / 16 := by
    show x.fdiv (2 ^ (min (4 : Int).toNat 8)) = _
    rw [show (2 : Int) ^ (min (4 : Int).toNat 8) = 16 from rfl, Int.fdiv_eq_ediv_of_nonneg _ (by decide)]
  rw [e]; omega
theorem hex_and (x : Int) : 0 ≤ iopS .and .u8 x 15 ∧ iopS .and .u8 x 15 < 16 := by
  have h : (BitVec.ofInt 8 x &&& BitVec.ofInt 8 15).toNat ≤ 15 := by rw [BitVec.toNat_and]; exact Nat.and_le_right
  generalize hk : (BitVec.ofInt 8 x &&& BitVec.ofInt 8 15).toNat = k at h
  have e : iopS .and .u8 x 15 = (k : Int) := by
    show IntKind.u8.wrap (((BitVec.ofInt 8 x &&& BitVec.ofInt 8 15).toNat : Nat) : Int) = k
    rw [hk]; exact wrap_id (by simp [IntKind.has, IntKind.min, IntKind.max, IntKind.signed, IntKind.bits]; omega)
  rw [e]; omega
theorem side_hex {ar : Ar} (har : ar = std) {i : Int} (h : 0 ≤ i ∧ i < 16) : Side (ar.sinb i [48, 49, 50, 51, 52, 53, 54, 55, 56, 57, 97, 98, 99, 100, 101, 102]) := by subst har; exact ⟨h⟩
set_option maxRecDepth 20000 in
theorem fn37 : Tryz.prog.funcs[37]? = some Tryz.f37 := rfl
set_option maxHeartbeats 40000000 in
set_option maxRecDepth 20000 in
theorem iText (hP : Prg P) {n to : List (List UInt8)} {ns tos txs nus : List (List T)} {t ttl addr : Int} {tx : List UInt8} {nu : List Int} (hn : encN n = ns) (hto : encN to = tos) (htx : encB tx = txs) (hnu : encI nu = nus)
    (hok : rrOk n t ttl addr to tx nu = true) :
    ACall P 37 [.agg [.t (.sl ns), .t (.int .i64 t), .t (.int .i64 ttl), .t (.int .i64 addr), .t (.sl tos), .t (.sl txs), .t (.sl nus)]] []
      (fun r ob => r = .one (.t (.str (textX n t ttl addr to tx nu))) ∧ ob = []) := by
  have hnl := nameTextB_len n
  have htl := nameTextB_len to
  have hdl := dotB_len addr
  have htt := (rrOk_all hok).2.2.1
  have hil : (Lib.itoa ttl).length ≤ 21 := itoa_len (has_i64 (by omega) (by omega))
  have htn5 := tyName_len t
  have hnus := nums_of hok
  have htx40 := tx_of hok
  refine acall_fn (md := md) [none] v37 hP.mixed hP.tab (fn_at hP fn37) 1 rfl (by decide +kernel) rfl ?_
  intro ar har
  cbv
  repeat' (first | (intro; cbv) | (with_reducible refine and_side ?_ ?_; rotate_left; try cbv) | (refine ChkP.mk (by rfl) ?_; cbv) | (refine br_intro ?_ ?_ <;> intro <;> cbv) | (refine get_at har (by assumption) (by assumption) (by assumption) (by assumption) ?_; cbv) | (refine get_lt har (by assumption) (by assumption) (by assumption) ?_; intro x xx hx hxx; cbv) | (refine get_atN har (by assumption) (by assumption) (by assumption) (by assumption) ?_; cbv) | (refine get_ltN har (by assumption) (by assumption) (by assumption) ?_; intro x xx hx hxx; cbv) | (refine get_atI har (by assumption) (by assumption) (by decide) ?_; cbv) | (refine get_twoA har (by assumption) (by assumption) (by decide) ?_; intro x hx; cbv) | (refine get_twoB har (by assumption) (by assumption) (by decide) ?_; intro x hx; cbv) | (refine bytes_intro (by assumption) ?_; cbv) | (exact side_lt har (by assumption) (by assumption)) | (exact side_inb har (by assumption) (by assumption) (by assumption)) | (exact side_sh har (by decide)) | (exact side_app har (by assumption) (by assumption) (by omega)) | (exact side_app0 har (by assumption) (by omega)) | (exact side_new har (by assumption) (by omega)) | (exact side_one har (by assumption) (by omega)) | (exact side_oneN har (by assumption) (by omega)) | (exact side_flat har (by assumption)) | (exact side_sbig har (by omega)) | (refine side_sbig har ?_; simp; done) | (exact side_oneI har (by assumption) (by omega)) | (refine side_ix har ?_; simp; done) | (refine side_ix har ?_; simp; omega) | (refine call_intro (iHasTo hP) ?_; rintro r ob ⟨rfl, rfl⟩; generalize hht : namedB _ = ht; cbv) | (refine calld_intro (iHasTo hP) ?_; generalize hht : namedB _ = ht; cbv) | (refine call_intro (iDotted hP) ?_; rintro r ob ⟨rfl, rfl⟩; generalize hdb : dotB _ = db; generalize hdt : encB db = dt; cbv) | (refine calld_intro (iDotted hP) ?_; generalize hdb : dotB _ = db; generalize hdt : encB db = dt; cbv) | (refine call_intro (iNameText hP (by assumption)) ?_; rintro r ob ⟨rfl, rfl⟩; generalize hnb : nameTextB _ = nb; generalize hnt : encB nb = nt; cbv) | (refine calld_intro (iNameText hP (by assumption)) ?_; generalize hnb : nameTextB _ = nb; generalize hnt : encB nb = nt; cbv) | (refine call_intro (iItoa hP) ?_; rintro r ob ⟨rfl, rfl⟩; generalize hit : Lib.itoa _ = it; cbv) | (refine calld_intro (iItoa hP) ?_; generalize hit : Lib.itoa _ = it; cbv) | (refine call_intro (iTypeName hP _) ?_; rintro r ob ⟨rfl, rfl⟩; generalize htn : tyName _ = tn; cbv) | (refine calld_intro (iTypeName hP _) ?_; generalize htn : tyName _ = tn; cbv))
  · have ht1 : t = 1 := by subst har; simpa [std, icmpS] using (by assumption : std.icmp .eql t 1 = true)
    rw [hnb] at hnl; rw [hdb] at hdl; rw [hit] at hil; rw [htn] at htn5
    refine calld_intro (iWords hP (l := [nb, it, tn, db]) rfl ?_ (by simp)) ?_
    · intro s hs; simp only [List.mem_cons, List.not_mem_nil, or_false] at hs; rcases hs with rfl | rfl | rfl | rfl <;> omega
    generalize hjw : joinW _ = jw
    cbv
    repeat' (first | (intro; cbv) | (with_reducible refine and_side ?_ ?_; rotate_left; try cbv) | (refine ChkP.mk (by rfl) ?_; cbv) | (refine br_intro ?_ ?_ <;> intro <;> cbv) | (refine get_at har (by assumption) (by assumption) (by assumption) (by assumption) ?_; cbv) | (refine get_lt har (by assumption) (by assumption) (by assumption) ?_; intro x xx hx hxx; cbv) | (refine get_atN har (by assumption) (by assumption) (by assumption) (by assumption) ?_; cbv) | (refine get_ltN har (by assumption) (by assumption) (by assumption) ?_; intro x xx hx hxx; cbv) | (refine get_atI har (by assumption) (by assumption) (by decide) ?_; cbv) | (refine get_twoA har (by assumption) (by assumption) (by decide) ?_; intro x hx; cbv) | (refine get_twoB har (by assumption) (by assumption) (by decide) ?_; intro x hx; cbv) | (refine bytes_intro (by assumption) ?_; cbv) | (exact side_lt har (by assumption) (by assumption)) | (exact side_inb har (by assumption) (by assumption) (by assumption)) | (exact side_sh har (by decide)) | (exact side_app har (by assumption) (by assumption) (by omega)) | (exact side_app0 har (by assumption) (by omega)) | (exact side_new har (by assumption) (by omega)) | (exact side_one har (by assumption) (by omega)) | (exact side_oneN har (by assumption) (by omega)) | (exact side_flat har (by assumption)) | (exact side_sbig har (by omega)) | (refine side_sbig har ?_; simp; done) | (exact side_oneI har (by assumption) (by omega)) | (refine side_ix har ?_; simp; done) | (refine side_ix har ?_; simp; omega))
    exact ⟨⟨by rw [textX, dataX, if_pos ht1, hnb, hit, htn, hdb, hjw], rfl⟩⟩
  · have ht1 : ¬ t = 1 := by subst har; simpa [std, icmpS] using (by assumption : std.icmp .eql t 1 = false)
    have hnm : namedB t = true := by rw [hht]; assumption
    rw [hnb] at htl
    have hnbT := hnb
    refine LoopP.mk (List UInt8 × Int) [1, 3, 43, 44, 45] []
      (fun x => ⟨[(1, .one (.ptr 16 0)), (3, .one (.t (.str x.1))), (43, .one (.t (.sl nus))), (44, .one (.t (.int .i64 (ar.len nus)))), (45, .one (.t (.int .i64 x.2)))], [(16, .box [.t (.sl ns), .t (.int .i64 t), .t (.int .i64 ttl), .t (.int .i64 addr), .t (.sl tos), .t (.sl txs), .t (.sl nus)] false)]⟩)
      (fun x => 0 ≤ x.2 ∧ x.2.toNat ≤ nu.length ∧ x.1 = (nu.take x.2.toNat).foldl (fun d n => joinW [d, Lib.itoa n]) nb ∧ x.1.length ≤ 200 + 30 * x.2.toNat) (fun x => nu.length - x.2.toNat) (nb, 0) ?e ?f ?g
    case e => kernel_rfl
    case f => exact ⟨Int.le_refl _, by simp, rfl, by simpa using htl⟩
    case g =>
      intro x hx
      obtain ⟨d, j⟩ := x
      have hj0 : 0 ≤ j := hx.1
      have hjb : j.toNat ≤ nu.length := hx.2.1
      have hdd : d = (nu.take j.toNat).foldl (fun d n => joinW [d, Lib.itoa n]) nb := hx.2.2.1
      have hdl2 : d.length ≤ 200 + 30 * j.toNat := hx.2.2.2
      clear hx
      cbv
      repeat' (first | (intro; cbv) | (with_reducible refine and_side ?_ ?_; rotate_left; try cbv) | (refine ChkP.mk (by rfl) ?_; cbv) | (refine br_intro ?_ ?_ <;> intro <;> cbv) | (refine get_at har (by assumption) (by assumption) (by assumption) (by assumption) ?_; cbv) | (refine get_lt har (by assumption) (by assumption) (by assumption) ?_; intro x xx hx hxx; cbv) | (refine get_atN har (by assumption) (by assumption) (by assumption) (by assumption) ?_; cbv) | (refine get_ltN har (by assumption) (by assumption) (by assumption) ?_; intro x xx hx hxx; cbv) | (refine get_atI har (by assumption) (by assumption) (by decide) ?_; cbv) | (refine get_twoA har (by assumption) (by assumption) (by decide) ?_; intro x hx; cbv) | (refine get_twoB har (by assumption) (by assumption) (by decide) ?_; intro x hx; cbv) | (refine bytes_intro (by assumption) ?_; cbv) | (exact side_lt har (by assumption) (by assumption)) | (exact side_inb har (by assumption) (by assumption) (by assumption)) | (exact side_sh har (by decide)) | (exact side_app har (by assumption) (by assumption) (by omega)) | (exact side_app0 har (by assumption) (by omega)) | (exact side_new har (by assumption) (by omega)) | (exact side_one har (by assumption) (by omega)) | (exact side_oneN har (by assumption) (by omega)) | (exact side_flat har (by assumption)) | (exact side_sbig har (by omega)) | (refine side_sbig har ?_; simp; done) | (exact side_oneI har (by assumption) (by omega)) | (refine side_ix har ?_; simp; done) | (refine side_ix har ?_; simp; omega))
      · refine get_ltI har hnu (by assumption) hj0 ?_
        intro x hx
        have hlt := (List.getElem?_eq_some_iff.1 hx).1
        have hxr := hnus.2 x (List.mem_of_getElem? hx)
        have hxl : (Lib.itoa x).length ≤ 21 := itoa_len (has_i64 (by omega) (by omega))
        cbv
        repeat' (first | (intro; cbv) | (with_reducible refine and_side ?_ ?_; rotate_left; try cbv) | (refine ChkP.mk (by rfl) ?_; cbv) | (refine br_intro ?_ ?_ <;> intro <;> cbv) | (refine get_at har (by assumption) (by assumption) (by assumption) (by assumption) ?_; cbv) | (refine get_lt har (by assumption) (by assumption) (by assumption) ?_; intro x xx hx hxx; cbv) | (refine get_atN har (by assumption) (by assumption) (by assumption) (by assumption) ?_; cbv) | (refine get_ltN har (by assumption) (by assumption) (by assumption) ?_; intro x xx hx hxx; cbv) | (refine get_atI har (by assumption) (by assumption) (by decide) ?_; cbv) | (refine get_twoA har (by assumption) (by assumption) (by decide) ?_; intro x hx; cbv) | (refine get_twoB har (by assumption) (by assumption) (by decide) ?_; intro x hx; cbv) | (refine bytes_intro (by assumption) ?_; cbv) | (exact side_lt har (by assumption) (by assumption)) | (exact side_inb har (by assumption) (by assumption) (by assumption)) | (exact side_sh har (by decide)) | (exact side_app har (by assumption) (by assumption) (by omega)) | (exact side_app0 har (by assumption) (by omega)) | (exact side_new har (by assumption) (by omega)) | (exact side_one har (by assumption) (by omega)) | (exact side_oneN har (by assumption) (by omega)) | (exact side_flat har (by assumption)) | (exact side_sbig har (by omega)) | (refine side_sbig har ?_; simp; done) | (exact side_oneI har (by assumption) (by omega)) | (refine side_ix har ?_; simp; done) | (refine side_ix har ?_; simp; omega) | (refine call_intro (iItoa hP) ?_; rintro r ob ⟨rfl, rfl⟩; generalize hit : Lib.itoa _ = it; cbv) | (refine calld_intro (iItoa hP) ?_; generalize hit : Lib.itoa _ = it; cbv))
        rw [hit] at hxl
        have hst : (nu.take (j.toNat + 1)).foldl (fun d n => joinW [d, Lib.itoa n]) nb = joinW [d, it] := by
          rw [List.take_add_one, hx, List.foldl_append, ← hdd, ← hit]; rfl
        have hjl : (joinW [d, it]).length = d.length + 1 + it.length := by rw [join2]; simp; omega
        refine call_intro (iWords hP (l := [d, it]) rfl ?_ (by simp)) ?_
        · intro s hs; simp only [List.mem_cons, List.not_mem_nil, or_false] at hs; rcases hs with rfl | rfl <;> omega
        rintro r ob ⟨rfl, rfl⟩
        generalize joinW [d, it] = jw at hst hjl ⊢
        cbv
        repeat' (first | (intro; cbv) | (with_reducible refine and_side ?_ ?_; rotate_left; try cbv) | (refine ChkP.mk (by rfl) ?_; cbv) | (refine br_intro ?_ ?_ <;> intro <;> cbv) | (refine get_at har (by assumption) (by assumption) (by assumption) (by assumption) ?_; cbv) | (refine get_lt har (by assumption) (by assumption) (by assumption) ?_; intro x xx hx hxx; cbv) | (refine get_atN har (by assumption) (by assumption) (by assumption) (by assumption) ?_; cbv) | (refine get_ltN har (by assumption) (by assumption) (by assumption) ?_; intro x xx hx hxx; cbv) | (refine get_atI har (by assumption) (by assumption) (by decide) ?_; cbv) | (refine get_twoA har (by assumption) (by assumption) (by decide) ?_; intro x hx; cbv) | (refine get_twoB har (by assumption) (by assumption) (by decide) ?_; intro x hx; cbv) | (refine bytes_intro (by assumption) ?_; cbv) | (exact side_lt har (by assumption) (by assumption)) | (exact side_inb har (by assumption) (by assumption) (by assumption)) | (exact side_sh har (by decide)) | (exact side_app har (by assumption) (by assumption) (by omega)) | (exact side_app0 har (by assumption) (by omega)) | (exact side_new har (by assumption) (by omega)) | (exact side_one har (by assumption) (by omega)) | (exact side_oneN har (by assumption) (by omega)) | (exact side_flat har (by assumption)) | (exact side_sbig har (by omega)) | (refine side_sbig har ?_; simp; done) | (exact side_oneI har (by assumption) (by omega)) | (refine side_ix har ?_; simp; done) | (refine side_ix har ?_; simp; omega))
        refine ⟨(jw, j + 1), ?_, ⟨by dsimp only; omega, by dsimp only; omega, by dsimp only; rw [show (j + 1).toNat = j.toNat + 1 by omega, hst], by dsimp only; omega⟩, by dsimp only; omega⟩
        rw [show j + 1 = ar.iop .add .i64 j 1 from (add_std har (by omega) (by omega)).symm]
        kernel_rfl
      · have hg := ge_len har (by assumption) hj0
        rw [encI_len hnu] at hg
        rw [take_all (by omega)] at hdd
        repeat' (first | (intro; cbv) | (with_reducible refine and_side ?_ ?_; rotate_left; try cbv) | (refine ChkP.mk (by rfl) ?_; cbv) | (refine br_intro ?_ ?_ <;> intro <;> cbv) | (refine get_at har (by assumption) (by assumption) (by assumption) (by assumption) ?_; cbv) | (refine get_lt har (by assumption) (by assumption) (by assumption) ?_; intro x xx hx hxx; cbv) | (refine get_atN har (by assumption) (by assumption) (by assumption) (by assumption) ?_; cbv) | (refine get_ltN har (by assumption) (by assumption) (by assumption) ?_; intro x xx hx hxx; cbv) | (refine get_atI har (by assumption) (by assumption) (by decide) ?_; cbv) | (refine get_twoA har (by assumption) (by assumption) (by decide) ?_; intro x hx; cbv) | (refine get_twoB har (by assumption) (by assumption) (by decide) ?_; intro x hx; cbv) | (refine bytes_intro (by assumption) ?_; cbv) | (exact side_lt har (by assumption) (by assumption)) | (exact side_inb har (by assumption) (by assumption) (by assumption)) | (exact side_sh har (by decide)) | (exact side_app har (by assumption) (by assumption) (by omega)) | (exact side_app0 har (by assumption) (by omega)) | (exact side_new har (by assumption) (by omega)) | (exact side_one har (by assumption) (by omega)) | (exact side_oneN har (by assumption) (by omega)) | (exact side_flat har (by assumption)) | (exact side_sbig har (by omega)) | (refine side_sbig har ?_; simp; done) | (exact side_oneI har (by assumption) (by omega)) | (refine side_ix har ?_; simp; done) | (refine side_ix har ?_; simp; omega) | (refine call_intro (iNameText hP (by assumption)) ?_; rintro r ob ⟨rfl, rfl⟩; generalize hnb : nameTextB _ = nb; generalize hnt : encB nb = nt; cbv) | (refine calld_intro (iNameText hP (by assumption)) ?_; generalize hnb : nameTextB _ = nb; generalize hnt : encB nb = nt; cbv) | (refine call_intro (iItoa hP) ?_; rintro r ob ⟨rfl, rfl⟩; generalize hit : Lib.itoa _ = it; cbv) | (refine calld_intro (iItoa hP) ?_; generalize hit : Lib.itoa _ = it; cbv) | (refine call_intro (iTypeName hP _) ?_; rintro r ob ⟨rfl, rfl⟩; generalize htn : tyName _ = tn; cbv) | (refine calld_intro (iTypeName hP _) ?_; generalize htn : tyName _ = tn; cbv))
        rw [hnb] at hnl; rw [hit] at hil; rw [htn] at htn5
        refine calld_intro (iWords hP (l := [nb, it, tn, d]) rfl ?_ (by simp)) ?_
        · intro s hs; simp only [List.mem_cons, List.not_mem_nil, or_false] at hs; rcases hs with rfl | rfl | rfl | rfl <;> omega
        generalize hjw : joinW _ = jw
        cbv
        repeat' (first | (intro; cbv) | (with_reducible refine and_side ?_ ?_; rotate_left; try cbv) | (refine ChkP.mk (by rfl) ?_; cbv) | (refine br_intro ?_ ?_ <;> intro <;> cbv) | (refine get_at har (by assumption) (by assumption) (by assumption) (by assumption) ?_; cbv) | (refine get_lt har (by assumption) (by assumption) (by assumption) ?_; intro x xx hx hxx; cbv) | (refine get_atN har (by assumption) (by assumption) (by assumption) (by assumption) ?_; cbv) | (refine get_ltN har (by assumption) (by assumption) (by assumption) ?_; intro x xx hx hxx; cbv) | (refine get_atI har (by assumption) (by assumption) (by decide) ?_; cbv) | (refine get_twoA har (by assumption) (by assumption) (by decide) ?_; intro x hx; cbv) | (refine get_twoB har (by assumption) (by assumption) (by decide) ?_; intro x hx; cbv) | (refine bytes_intro (by assumption) ?_; cbv) | (exact side_lt har (by assumption) (by assumption)) | (exact side_inb har (by assumption) (by assumption) (by assumption)) | (exact side_sh har (by decide)) | (exact side_app har (by assumption) (by assumption) (by omega)) | (exact side_app0 har (by assumption) (by omega)) | (exact side_new har (by assumption) (by omega)) | (exact side_one har (by assumption) (by omega)) | (exact side_oneN har (by assumption) (by omega)) | (exact side_flat har (by assumption)) | (exact side_sbig har (by omega)) | (refine side_sbig har ?_; simp; done) | (exact side_oneI har (by assumption) (by omega)) | (refine side_ix har ?_; simp; done) | (refine side_ix har ?_; simp; omega))
        exact ⟨⟨by rw [textX, dataX, if_neg ht1, if_pos hnm, hnb, hit, htn, hnbT, ← hdd, hjw], rfl⟩⟩
  · have ht1 : ¬ t = 1 := by subst har; simpa [std, icmpS] using (by assumption : std.icmp .eql t 1 = false)
    have hnm : namedB t = false := by rw [hht]; assumption
    refine LoopP.mk (List UInt8 × Int) [1, 3, 9, 10, 11] []
      (fun x => ⟨[(1, .one (.ptr 16 0)), (3, .one (.t (.str x.1))), (9, .one (.t (.sl txs))), (10, .one (.t (.int .i64 (ar.len txs)))), (11, .one (.t (.int .i64 x.2)))], [(16, .box [.t (.sl ns), .t (.int .i64 t), .t (.int .i64 ttl), .t (.int .i64 addr), .t (.sl tos), .t (.sl txs), .t (.sl nus)] false)]⟩)
      (fun x => 0 ≤ x.2 ∧ x.2.toNat ≤ tx.length ∧ x.1 = (tx.take x.2.toNat).flatMap hex2 ∧ x.1.length = 2 * x.2.toNat) (fun x => tx.length - x.2.toNat) ([], 0) ?e2 ?f2 ?g2
    case e2 => kernel_rfl
    case f2 => exact ⟨Int.le_refl _, by simp, rfl, by simp⟩
    case g2 =>
      intro x hx
      obtain ⟨d, j⟩ := x
      have hj0 : 0 ≤ j := hx.1
      have hjb : j.toNat ≤ tx.length := hx.2.1
      have hdd : d = (tx.take j.toNat).flatMap hex2 := hx.2.2.1
      have hdl2 : d.length = 2 * j.toNat := hx.2.2.2
      clear hx
      cbv
      repeat' (first | (intro; cbv) | (with_reducible refine and_side ?_ ?_; rotate_left; try cbv) | (refine ChkP.mk (by rfl) ?_; cbv) | (refine br_intro ?_ ?_ <;> intro <;> cbv) | (refine get_at har (by assumption) (by assumption) (by assumption) (by assumption) ?_; cbv) | (refine get_lt har (by assumption) (by assumption) (by assumption) ?_; intro x xx hx hxx; cbv) | (refine get_atN har (by assumption) (by assumption) (by assumption) (by assumption) ?_; cbv) | (refine get_ltN har (by assumption) (by assumption) (by assumption) ?_; intro x xx hx hxx; cbv) | (refine get_atI har (by assumption) (by assumption) (by decide) ?_; cbv) | (refine get_twoA har (by assumption) (by assumption) (by decide) ?_; intro x hx; cbv) | (refine get_twoB har (by assumption) (by assumption) (by decide) ?_; intro x hx; cbv) | (refine bytes_intro (by assumption) ?_; cbv) | (exact side_lt har (by assumption) (by assumption)) | (exact side_inb har (by assumption) (by assumption) (by assumption)) | (exact side_sh har (by decide)) | (exact side_app har (by assumption) (by assumption) (by omega)) | (exact side_app0 har (by assumption) (by omega)) | (exact side_new har (by assumption) (by omega)) | (exact side_one har (by assumption) (by omega)) | (exact side_oneN har (by assumption) (by omega)) | (exact side_flat har (by assumption)) | (exact side_sbig har (by omega)) | (refine side_sbig har ?_; simp; done) | (exact side_oneI har (by assumption) (by omega)) | (refine side_ix har ?_; simp; done) | (refine side_ix har ?_; simp; omega))
      case refine_1.refine_2.refine_2.refine_2 =>
        have hlt := (List.getElem?_eq_some_iff.1 hx).1
        obtain ⟨h2, hh2⟩ : ∃ h2, h2 = [hexD (ar.iop .shr .u8 xx 4), hexD (ar.iop .and .u8 xx 15)] := ⟨_, rfl⟩
        have h2l : h2.length = 2 := by rw [hh2]; rfl
        refine ⟨h2, by rw [hh2]; exact hex_bytes har _ _, ?_⟩
        cbv
        repeat' (first | (intro; cbv) | (with_reducible refine and_side ?_ ?_; rotate_left; try cbv) | (refine ChkP.mk (by rfl) ?_; cbv) | (refine br_intro ?_ ?_ <;> intro <;> cbv) | (refine get_at har (by assumption) (by assumption) (by assumption) (by assumption) ?_; cbv) | (refine get_lt har (by assumption) (by assumption) (by assumption) ?_; intro x xx hx hxx; cbv) | (refine get_atN har (by assumption) (by assumption) (by assumption) (by assumption) ?_; cbv) | (refine get_ltN har (by assumption) (by assumption) (by assumption) ?_; intro x xx hx hxx; cbv) | (refine get_atI har (by assumption) (by assumption) (by decide) ?_; cbv) | (refine get_twoA har (by assumption) (by assumption) (by decide) ?_; intro x hx; cbv) | (refine get_twoB har (by assumption) (by assumption) (by decide) ?_; intro x hx; cbv) | (refine bytes_intro (by assumption) ?_; cbv) | (exact side_lt har (by assumption) (by assumption)) | (exact side_inb har (by assumption) (by assumption) (by assumption)) | (exact side_sh har (by decide)) | (exact side_app har (by assumption) (by assumption) (by omega)) | (exact side_app0 har (by assumption) (by omega)) | (exact side_new har (by assumption) (by omega)) | (exact side_one har (by assumption) (by omega)) | (exact side_oneN har (by assumption) (by omega)) | (exact side_flat har (by assumption)) | (exact side_sbig har (by omega)) | (refine side_sbig har ?_; simp; done) | (exact side_oneI har (by assumption) (by omega)) | (refine side_ix har ?_; simp; done) | (refine side_ix har ?_; simp; omega))
        · have hst : d ++ h2 = (tx.take (j.toNat + 1)).flatMap hex2 := by
            rw [List.take_add_one, hx, List.flatMap_append, ← hdd, hh2]
            subst har
            simp only [Option.toList, List.flatMap_cons, List.flatMap_nil, List.append_nil, hex2, hxx]; rfl
          subst har
          refine ⟨(d ++ h2, j + 1), ?_, ⟨by dsimp only; omega, by dsimp only; omega, by dsimp only; rw [show (j + 1).toNat = j.toNat + 1 by omega, hst], by simp; omega⟩, by dsimp only; omega⟩
          rw [show d ++ h2 = std.sapp d h2 from rfl, show j + 1 = std.iop .add .i64 j 1 from (addI (by omega) (by omega)).symm]
          kernel_rfl
        · exact side_cat har (by omega) (by omega)
      case refine_1.refine_2.refine_2.refine_1 => exact side_hex har (by subst har; exact hex_and xx)
      case refine_1.refine_2.refine_1 =>
        have h0 := iB_lo x
        have h1 := iB_hi x
        exact side_hex har (by subst har; exact hex_shr (by omega))
      have hg := ge_len har (by assumption) hj0
      rw [encB_len htx] at hg
      rw [take_all (by omega)] at hdd
      repeat' (first | (intro; cbv) | (with_reducible refine and_side ?_ ?_; rotate_left; try cbv) | (refine ChkP.mk (by rfl) ?_; cbv) | (refine br_intro ?_ ?_ <;> intro <;> cbv) | (refine get_at har (by assumption) (by assumption) (by assumption) (by assumption) ?_; cbv) | (refine get_lt har (by assumption) (by assumption) (by assumption) ?_; intro x xx hx hxx; cbv) | (refine get_atN har (by assumption) (by assumption) (by assumption) (by assumption) ?_; cbv) | (refine get_ltN har (by assumption) (by assumption) (by assumption) ?_; intro x xx hx hxx; cbv) | (refine get_atI har (by assumption) (by assumption) (by decide) ?_; cbv) | (refine get_twoA har (by assumption) (by assumption) (by decide) ?_; intro x hx; cbv) | (refine get_twoB har (by assumption) (by assumption) (by decide) ?_; intro x hx; cbv) | (refine bytes_intro (by assumption) ?_; cbv) | (exact side_lt har (by assumption) (by assumption)) | (exact side_inb har (by assumption) (by assumption) (by assumption)) | (exact side_sh har (by decide)) | (exact side_app har (by assumption) (by assumption) (by omega)) | (exact side_app0 har (by assumption) (by omega)) | (exact side_new har (by assumption) (by omega)) | (exact side_one har (by assumption) (by omega)) | (exact side_oneN har (by assumption) (by omega)) | (exact side_flat har (by assumption)) | (exact side_sbig har (by omega)) | (refine side_sbig har ?_; simp; done) | (exact side_oneI har (by assumption) (by omega)) | (refine side_ix har ?_; simp; done) | (refine side_ix har ?_; simp; omega) | (refine call_intro (iNameText hP (by assumption)) ?_; rintro r ob ⟨rfl, rfl⟩; generalize hnb : nameTextB _ = nb; generalize hnt : encB nb = nt; cbv) | (refine calld_intro (iNameText hP (by assumption)) ?_; generalize hnb : nameTextB _ = nb; generalize hnt : encB nb = nt; cbv) | (refine call_intro (iItoa hP) ?_; rintro r ob ⟨rfl, rfl⟩; generalize hit : Lib.itoa _ = it; cbv) | (refine calld_intro (iItoa hP) ?_; generalize hit : Lib.itoa _ = it; cbv) | (refine call_intro (iTypeName hP _) ?_; rintro r ob ⟨rfl, rfl⟩; generalize htn : tyName _ = tn; cbv) | (refine calld_intro (iTypeName hP _) ?_; generalize htn : tyName _ = tn; cbv))
      rw [hnb] at hnl; rw [hit] at hil; rw [htn] at htn5
      refine calld_intro (iWords hP (l := [nb, it, tn, d]) rfl ?_ (by simp)) ?_
      · intro s hs; simp only [List.mem_cons, List.not_mem_nil, or_false] at hs; rcases hs with rfl | rfl | rfl | rfl <;> omega
      generalize hjw : joinW _ = jw
      cbv
      repeat' (first | (intro; cbv) | (with_reducible refine and_side ?_ ?_; rotate_left; try cbv) | (refine ChkP.mk (by rfl) ?_; cbv) | (refine br_intro ?_ ?_ <;> intro <;> cbv) | (refine get_at har (by assumption) (by assumption) (by assumption) (by assumption) ?_; cbv) | (refine get_lt har (by assumption) (by assumption) (by assumption) ?_; intro x xx hx hxx; cbv) | (refine get_atN har (by assumption) (by assumption) (by assumption) (by assumption) ?_; cbv) | (refine get_ltN har (by assumption) (by assumption) (by assumption) ?_; intro x xx hx hxx; cbv) | (refine get_atI har (by assumption) (by assumption) (by decide) ?_; cbv) | (refine get_twoA har (by assumption) (by assumption) (by decide) ?_; intro x hx; cbv) | (refine get_twoB har (by assumption) (by assumption) (by decide) ?_; intro x hx; cbv) | (refine bytes_intro (by assumption) ?_; cbv) | (exact side_lt har (by assumption) (by assumption)) | (exact side_inb har (by assumption) (by assumption) (by assumption)) | (exact side_sh har (by decide)) | (exact side_app har (by assumption) (by assumption) (by omega)) | (exact side_app0 har (by assumption) (by omega)) | (exact side_new har (by assumption) (by omega)) | (exact side_one har (by assumption) (by omega)) | (exact side_oneN har (by assumption) (by omega)) | (exact side_flat har (by assumption)) | (exact side_sbig har (by omega)) | (refine side_sbig har ?_; simp; done) | (exact side_oneI har (by assumption) (by omega)) | (refine side_ix har ?_; simp; done) | (refine side_ix har ?_; simp; omega))
      exact ⟨⟨by rw [textX, dataX, if_neg ht1, hnm, if_neg (by simp), hnb, hit, htn, ← hdd, hjw], rfl⟩⟩
theorem fold_len : ∀ (nu : List Int) (d : List UInt8), (∀ x, x ∈ nu → 0 ≤ x ∧ x ≤ 4294967295) → (nu.foldl (fun d n => joinW [d, Lib.itoa n]) d).length ≤ d.length + 22 * nu.length
  | [], d, _ => by simp
  | x :: r, d, h => by
    have h1 := fold_len r (joinW [d, Lib.itoa x]) fun y hy => h y (.tail _ hy)
    have hx := h x (.head _)
    have h2 : (Lib.itoa x).length ≤ 21 := itoa_len (has_i64 (by omega) (by omega))
    rw [join2] at h1
    simp only [List.foldl_cons, List.length_append, List.length_cons, join2] at h1 ⊢
    omega
theorem dataX_len {n to : List (List UInt8)} {t ttl addr : Int} {tx : List UInt8} {nu : List Int} (h : rrOk n t ttl addr to tx nu = true) : (dataX t addr to tx nu).length ≤ 300 := by
  have h1 := dotB_len addr
  have h2 := nameTextB_len to
  obtain ⟨h3, h4⟩ := nums_of h
  have h5 := tx_of h
  unfold dataX
  split
  · omega
  · split
    · have := fold_len nu (nameTextB to) h4; omega
    · have : ∀ l : List UInt8, (l.flatMap hex2).length = 2 * l.length := by
        intro l
        induction l with
        | nil => rfl
        | cons x r ih => simp only [List.flatMap_cons, List.length_append, ih, List.length_cons, hex2, List.length_nil]; omega
      rw [this]; omega
theorem textX_len {n to : List (List UInt8)} {t ttl addr : Int} {tx : List UInt8} {nu : List Int} (h : rrOk n t ttl addr to tx nu = true) : 3 ≤ (textX n t ttl addr to tx nu).length ∧ (textX n t ttl addr to tx nu).length ≤ 1000 := by
  have h1 := dataX_len h
  have h2 := nameTextB_len n
  have h3 := tyName_len t
  have htt := (rrOk_all h).2.2.1
  have h4 : (Lib.itoa ttl).length ≤ 21 := itoa_len (has_i64 (by omega) (by omega))
  simp only [textX, joinW, List.flatMap_cons, List.flatMap_nil, List.length_append, List.length_cons, List.length_nil]; omega
def rrTextB (n : List (List UInt8)) (t ttl addr : Int) (to : List (List UInt8)) (tx : List UInt8) (nu : List Int) : List UInt8 := if rrOk n t ttl addr to tx nu then textX n t ttl addr to tx nu else []
theorem rrTextB_pos {n to : List (List UInt8)} {t ttl addr : Int} {tx : List UInt8} {nu : List Int} : decide (0 < (rrTextB n t ttl addr to tx nu).length) = rrOk n t ttl addr to tx nu := by
  unfold rrTextB
  split
  · rename_i h; have := textX_len h; rw [h]; simp; omega
  · rename_i h; simp at h; rw [h]; rfl
set_option maxRecDepth 20000 in
theorem fn9 : Tryz.prog.funcs[9]? = some Tryz.f9 := rfl
set_option maxHeartbeats 40000000 in
set_option maxRecDepth 3000 in
theorem iRrText (hP : Prg P) {n to : List (List UInt8)} {ns tos txs nus : List (List T)} {t ttl addr : Int} {tx : List UInt8} {nu : List Int} (hn : encN n = ns) (hto : encN to = tos) (htx : encB tx = txs) (hnu : encI nu = nus) :
    ACall P 9 [.agg [.t (.sl ns), .t (.int .i64 t), .t (.int .i64 ttl), .t (.int .i64 addr), .t (.sl tos), .t (.sl txs), .t (.sl nus)]] []
      (fun r ob => r = .one (.row 32 0) ∧ ob = [(32, .row 1 (encB (rrTextB n t ttl addr to tx nu)) 0 [0] false)]) := by
  refine acall_fn (md := md) [some [(0, 1)]] v9 hP.mixed hP.tab (fn_at hP fn9) 1 rfl (by decide +kernel) rfl ?_
  intro ar har
  cbv
  repeat' (first | (intro; cbv) | (with_reducible refine and_side ?_ ?_; rotate_left; try cbv) | (refine ChkP.mk (by rfl) ?_; cbv) | (refine br_intro ?_ ?_ <;> intro <;> cbv) | (refine get_at har (by assumption) (by assumption) (by assumption) (by assumption) ?_; cbv) | (refine get_lt har (by assumption) (by assumption) (by assumption) ?_; intro x xx hx hxx; cbv) | (refine get_atN har (by assumption) (by assumption) (by assumption) (by assumption) ?_; cbv) | (refine get_ltN har (by assumption) (by assumption) (by assumption) ?_; intro x xx hx hxx; cbv) | (refine get_atI har (by assumption) (by assumption) (by decide) ?_; cbv) | (refine get_twoA har (by assumption) (by assumption) (by decide) ?_; intro x hx; cbv) | (refine get_twoB har (by assumption) (by assumption) (by decide) ?_; intro x hx; cbv) | (refine bytes_intro (by assumption) ?_; cbv) | (exact side_lt har (by assumption) (by assumption)) | (exact side_inb har (by assumption) (by assumption) (by assumption)) | (exact side_sh har (by decide)) | (exact side_app har (by assumption) (by assumption) (by omega)) | (exact side_app0 har (by assumption) (by omega)) | (exact side_new har (by assumption) (by omega)) | (exact side_one har (by assumption) (by omega)) | (exact side_oneN har (by assumption) (by omega)) | (exact side_flat har (by assumption)) | (exact side_sbig har (by omega)) | (refine side_sbig har ?_; simp; done) | (exact side_oneI har (by assumption) (by omega)) | (refine side_ix har ?_; simp; done) | (refine side_ix har ?_; simp; omega) | (refine call_intro (iRrOk hP (by assumption) (by assumption) (by assumption) (by assumption)) ?_; rintro r ob ⟨rfl, rfl⟩; generalize hro : rrOk _ _ _ _ _ _ _ = ro; cbv) | (refine calld_intro (iRrOk hP (by assumption) (by assumption) (by assumption) (by assumption)) ?_; generalize hro : rrOk _ _ _ _ _ _ _ = ro; cbv))
  · subst har; simp only [std, icmpS, decide_eq_true_eq, decide_eq_false_iff_not, Bool.not_eq_true', Bool.not_eq_false', bne_iff_ne, ne_eq, bne_eq_false_iff_eq, beq_iff_eq, beq_eq_false_iff_ne, Int.not_lt, Int.not_le, Bool.not_true, Bool.not_false, reduceCtorEq] at *
    have h1 : ro = false := by assumption
    subst h1
    exact ⟨⟨rfl, by rw [rrTextB, hro]; rfl⟩⟩
  · have h1 : ro = true := by subst har; simpa [std] using (by assumption : std.bnot ro = false)
    subst h1
    have hl := textX_len hro
    refine call_intro (iText hP hn hto htx hnu hro) ?_
    rintro r ob ⟨rfl, rfl⟩
    generalize htx2 : textX n t ttl addr to tx nu = tx2 at hl ⊢
    cbv
    repeat' (first | (intro; cbv) | (with_reducible refine and_side ?_ ?_; rotate_left; try cbv) | (refine ChkP.mk (by rfl) ?_; cbv) | (refine br_intro ?_ ?_ <;> intro <;> cbv) | (refine get_at har (by assumption) (by assumption) (by assumption) (by assumption) ?_; cbv) | (refine get_lt har (by assumption) (by assumption) (by assumption) ?_; intro x xx hx hxx; cbv) | (refine get_atN har (by assumption) (by assumption) (by assumption) (by assumption) ?_; cbv) | (refine get_ltN har (by assumption) (by assumption) (by assumption) ?_; intro x xx hx hxx; cbv) | (refine get_atI har (by assumption) (by assumption) (by decide) ?_; cbv) | (refine get_twoA har (by assumption) (by assumption) (by decide) ?_; intro x hx; cbv) | (refine get_twoB har (by assumption) (by assumption) (by decide) ?_; intro x hx; cbv) | (refine bytes_intro (by assumption) ?_; cbv) | (exact side_lt har (by assumption) (by assumption)) | (exact side_inb har (by assumption) (by assumption) (by assumption)) | (exact side_sh har (by decide)) | (exact side_app har (by assumption) (by assumption) (by omega)) | (exact side_app0 har (by assumption) (by omega)) | (exact side_new har (by assumption) (by omega)) | (exact side_one har (by assumption) (by omega)) | (exact side_oneN har (by assumption) (by omega)) | (exact side_flat har (by assumption)) | (exact side_sbig har (by omega)) | (refine side_sbig har ?_; simp; done) | (exact side_oneI har (by assumption) (by omega)) | (refine side_ix har ?_; simp; done) | (refine side_ix har ?_; simp; omega))
    subst har
    exact ⟨⟨rfl, by rw [rrTextB, hro, if_pos rfl, htx2]; rfl⟩⟩
end Go.TL.Tryz

/- TfNgI -/
namespace Go.TL.Tryz
open Go Go.TL Go.Proofs
variable {P : Program}

theorem ge_in {ar : Ar} (har : ar = std) {es : List (List T)} {i : Int} (h : ar.icmp .geq i (ar.len es) = false) (h0 : 0 ≤ i) : i.toNat < es.length := by
  subst har; simp [std, icmpS] at h; omega
theorem get_ge {ar : Ar} (har : ar = std) {b : List UInt8} {es : List (List T)} {i : Int} {K : List T → Prop} (hes : encB b = es) (h : ar.icmp .geq i (ar.len es) = false) (h0 : 0 ≤ i)
    (k : ∀ (x : UInt8) (xx : Int), b[i.toNat]? = some x → iB x = xx → K [.int .u8 xx]) : GetP ar es i K :=
  get_byte har hes ⟨h0, by rw [← encB_len hes]; exact ge_in har h h0⟩ k
theorem getD_of {b : List UInt8} {i : Nat} {x : UInt8} (h : b[i]? = some x) : b.getD i 0 = x := by rw [List.getD, h]; rfl
theorem takeS_len (m : List UInt8) (i k : Int) : (takeS m i k).1.length ≤ m.length := by
  unfold takeS
  split
  · exact Nat.zero_le _
  · simp [subB]; omega
theorem takeS_len3 {m tv : List UInt8} {i k ta : Int} (h : takeS m i k = (tv, ta)) : tv.length ≤ m.length := by have := takeS_len m i k; rw [h] at this; exact this
theorem ng_done {b : List UInt8} {i : Int} {n : List (List UInt8)} {e : Int} {ns : List (List T)} (h : (n, e) = nameGet b i) (hn : encN n = ns) :
    A.tup [.agg [.t (.sl ns)], .one (.t (.int .i64 e))] = A.tup [.agg [.t (.sl (encN (nameGet b i).1))], .one (.t (.int .i64 (nameGet b i).2))] := by
  rw [← h, ← hn]
set_option maxRecDepth 20000 in
theorem fn41 : Tryz.prog.funcs[41]? = some Tryz.f41 := rfl
set_option maxHeartbeats 40000000 in
set_option maxRecDepth 3000 in
theorem iNameGet (hP : Prg P) {b : List UInt8} {es : List (List T)} {i : Int} (hl : encB b = es) (hb : b.length ≤ 1000000) : ACall P 41 [.one (.t (.sl es)), .one (.t (.int .i64 i))] []
    (fun r ob => r = .tup [.agg [.t (.sl (encN (nameGet b i).1))], .one (.t (.int .i64 (nameGet b i).2))] ∧ ob = []) := by
  refine acall_fn (md := md) [none, none] v41 hP.mixed hP.tab (fn_at hP fn41) 2 rfl (by decide +kernel) rfl ?_
  intro ar har
  cbv
  repeat' (first | (intro; cbv) | (with_reducible refine and_side ?_ ?_; rotate_left; try cbv) | (refine ChkP.mk (by rfl) ?_; cbv) | (refine br_intro ?_ ?_ <;> intro <;> cbv) | (refine get_at har (by assumption) (by assumption) (by assumption) (by assumption) ?_; cbv) | (refine get_lt har (by assumption) (by assumption) (by assumption) ?_; intro x xx hx hxx; cbv) | (refine get_atN har (by assumption) (by assumption) (by assumption) (by assumption) ?_; cbv) | (refine get_ltN har (by assumption) (by assumption) (by assumption) ?_; intro x xx hx hxx; cbv) | (refine get_atI har (by assumption) (by assumption) (by decide) ?_; cbv) | (refine get_twoA har (by assumption) (by assumption) (by decide) ?_; intro x hx; cbv) | (refine get_twoB har (by assumption) (by assumption) (by decide) ?_; intro x hx; cbv) | (refine bytes_intro (by assumption) ?_; cbv) | (exact side_lt har (by assumption) (by assumption)) | (exact side_inb har (by assumption) (by assumption) (by assumption)) | (exact side_sh har (by decide)) | (exact side_app har (by assumption) (by assumption) (by omega)) | (exact side_app0 har (by assumption) (by omega)) | (exact side_new har (by assumption) (by omega)) | (exact side_one har (by assumption) (by omega)) | (exact side_oneN har (by assumption) (by omega)) | (exact side_flat har (by assumption)) | (exact side_sbig har (by omega)) | (refine side_sbig har ?_; simp; done) | (exact side_oneI har (by assumption) (by omega)) | (refine side_ix har ?_; simp; done) | (refine side_ix har ?_; simp; omega))
  · have hlen := encB_len hl
    subst har; simp only [std, icmpS, decide_eq_true_eq, decide_eq_false_iff_not, Bool.not_eq_true', Bool.not_eq_false', bne_iff_ne, ne_eq, bne_eq_false_iff_eq, beq_iff_eq, beq_eq_false_iff_ne, Int.not_lt, Int.not_le, Bool.not_true, Bool.not_false, reduceCtorEq] at *
    exact ⟨⟨ng_done (n := []) (by rw [nameGet, if_pos (by omega)]) rfl, rfl⟩⟩
  · have hlen := encB_len hl
    subst har; simp only [std, icmpS, decide_eq_true_eq, decide_eq_false_iff_not, Bool.not_eq_true', Bool.not_eq_false', bne_iff_ne, ne_eq, bne_eq_false_iff_eq, beq_iff_eq, beq_eq_false_iff_ne, Int.not_lt, Int.not_le, Bool.not_true, Bool.not_false, reduceCtorEq] at *
    exact ⟨⟨ng_done (n := []) (by rw [nameGet, if_pos (by omega)]) rfl, rfl⟩⟩
  rename_i g1 g2
  have h512 : b.length ≤ 512 := by have hlen := encB_len hl; subst har; simp only [std, icmpS, decide_eq_false_iff_not] at g1; omega
  have hi0 : 0 ≤ i := by subst har; simp only [std, icmpS, decide_eq_false_iff_not] at g2; omega
  refine LoopP.mk (Int × List (List UInt8) × List (List T) × Int × Int) [0, 1, 4, 5, 6, 7, 8] [.cell 6 0 1 12]
    (fun x => ⟨[(0, .one (.t (.sl es))), (1, .one (.t (.int .i64 x.1))), (4, .one (.ptr 16 0)), (5, .one (.t (.int .i64 0))), (6, .one (.ptr 17 0)), (7, .one (.t (.int .i64 x.2.2.2.1))), (8, .one (.t (.int .i64 x.2.2.2.2)))],
      [(16, .box [.nil] false), (17, .box [.row 18 0] false), (18, .row 1 x.2.2.1 0 [0] false)]⟩)
    (fun x => encN x.2.1 = x.2.2.1 ∧ 0 ≤ x.1 ∧ x.2.1.length ≤ 6 ∧ 0 ≤ x.2.2.2.2 ∧ x.2.2.2.2 ≤ 8 ∧ x.2.2.2.1.toNat ≤ b.length ∧ ngGo b (15 - x.2.1.length - x.2.2.2.2.toNat) x.1 x.2.1 x.2.2.2.1 x.2.2.2.2 = nameGet b i) (fun x => (6 - x.2.1.length) + (8 - x.2.2.2.2.toNat)) (i, [], [], -1, 0) ?e ?f ?g
  case e => kernel_rfl
  case f => exact ⟨rfl, hi0, by simp, Int.le_refl _, by simp, by simp, by rw [nameGet, if_neg (by omega)]; rfl⟩
  case g =>
    clear hi0
    intro x hx
    obtain ⟨p, n, ns, e, h⟩ := x
    have hn : encN n = ns := hx.1
    have hi0 : 0 ≤ p := hx.2.1
    have hn6 : n.length ≤ 6 := hx.2.2.1
    have hh0 : 0 ≤ h := hx.2.2.2.1
    have hh8 : h ≤ 8 := hx.2.2.2.2.1
    have he : e.toNat ≤ b.length := hx.2.2.2.2.2.1
    have hgo : ngGo b (15 - n.length - h.toNat) p n e h = nameGet b i := hx.2.2.2.2.2.2
    clear hx
    obtain ⟨k, hk⟩ : ∃ k, 15 - n.length - h.toNat = k + 1 := ⟨14 - n.length - h.toNat, by omega⟩
    rw [hk, ngGo] at hgo
    cbv
    repeat' (first | (intro; cbv) | (with_reducible refine and_side ?_ ?_; rotate_left; try cbv) | (refine ChkP.mk (by rfl) ?_; cbv) | (refine br_intro ?_ ?_ <;> intro <;> cbv) | (refine get_at har (by assumption) (by assumption) (by assumption) (by assumption) ?_; cbv) | (refine get_lt har (by assumption) (by assumption) (by assumption) ?_; intro x xx hx hxx; cbv) | (refine get_atN har (by assumption) (by assumption) (by assumption) (by assumption) ?_; cbv) | (refine get_ltN har (by assumption) (by assumption) (by assumption) ?_; intro x xx hx hxx; cbv) | (refine get_atI har (by assumption) (by assumption) (by decide) ?_; cbv) | (refine get_twoA har (by assumption) (by assumption) (by decide) ?_; intro x hx; cbv) | (refine get_twoB har (by assumption) (by assumption) (by decide) ?_; intro x hx; cbv) | (refine bytes_intro (by assumption) ?_; cbv) | (exact side_lt har (by assumption) (by assumption)) | (exact side_inb har (by assumption) (by assumption) (by assumption)) | (exact side_sh har (by decide)) | (exact side_app har (by assumption) (by assumption) (by omega)) | (exact side_app0 har (by assumption) (by omega)) | (exact side_new har (by assumption) (by omega)) | (exact side_one har (by assumption) (by omega)) | (exact side_oneN har (by assumption) (by omega)) | (exact side_flat har (by assumption)) | (exact side_sbig har (by omega)) | (refine side_sbig har ?_; simp; done) | (exact side_oneI har (by assumption) (by omega)) | (refine side_ix har ?_; simp; done) | (refine side_ix har ?_; simp; omega))
    · have hlen := encB_len hl
      subst har; simp only [std, icmpS, decide_eq_true_eq, decide_eq_false_iff_not, Bool.not_eq_true', Bool.not_eq_false', bne_iff_ne, ne_eq, bne_eq_false_iff_eq, beq_iff_eq, beq_eq_false_iff_ne, Int.not_lt, Int.not_le, Bool.not_true, Bool.not_false, reduceCtorEq] at *
      rw [if_pos (by omega)] at hgo
      exact ⟨⟨ng_done hgo rfl, rfl⟩⟩
    refine get_ge har hl (by assumption) hi0 ?_
    intro x xx hx hxx
    have hlt := (List.getElem?_eq_some_iff.1 hx).1
    rw [if_neg (by omega), getD_of hx, hxx] at hgo
    have hw : ar.conv .i64 xx = xx := by subst har; rw [← hxx]; exact iB_wrap64 x
    have hp1 : ar.iop .add .i64 p 1 = p + 1 := add_std har (by omega) (by omega)
    cbv
    repeat' (first | (intro; cbv) | (with_reducible refine and_side ?_ ?_; rotate_left; try cbv) | (refine ChkP.mk (by rfl) ?_; cbv) | (refine br_intro ?_ ?_ <;> intro <;> cbv) | (refine get_at har (by assumption) (by assumption) (by assumption) (by assumption) ?_; cbv) | (refine get_lt har (by assumption) (by assumption) (by assumption) ?_; intro x xx hx hxx; cbv) | (refine get_atN har (by assumption) (by assumption) (by assumption) (by assumption) ?_; cbv) | (refine get_ltN har (by assumption) (by assumption) (by assumption) ?_; intro x xx hx hxx; cbv) | (refine get_atI har (by assumption) (by assumption) (by decide) ?_; cbv) | (refine get_twoA har (by assumption) (by assumption) (by decide) ?_; intro x hx; cbv) | (refine get_twoB har (by assumption) (by assumption) (by decide) ?_; intro x hx; cbv) | (refine bytes_intro (by assumption) ?_; cbv) | (exact side_lt har (by assumption) (by assumption)) | (exact side_inb har (by assumption) (by assumption) (by assumption)) | (exact side_sh har (by decide)) | (exact side_app har (by assumption) (by assumption) (by omega)) | (exact side_app0 har (by assumption) (by omega)) | (exact side_new har (by assumption) (by omega)) | (exact side_one har (by assumption) (by omega)) | (exact side_oneN har (by assumption) (by omega)) | (exact side_flat har (by assumption)) | (exact side_sbig har (by omega)) | (refine side_sbig har ?_; simp; done) | (exact side_oneI har (by assumption) (by omega)) | (refine side_ix har ?_; simp; done) | (refine side_ix har ?_; simp; omega) | (refine call_intro (iNameOk hP (by assumption)) ?_; rintro r ob ⟨rfl, rfl⟩; generalize hno : nameOk _ = no; cbv) | (refine calld_intro (iNameOk hP (by assumption)) ?_; generalize hno : nameOk _ = no; cbv) | (refine call_intro (iGet hP (by assumption) (by omega) (by omega)) ?_; rintro r ob ⟨rfl, rfl⟩; generalize hgs : getS _ _ _ = gs; obtain ⟨gv, ga⟩ := gs; dsimp only; cbv) | (refine calld_intro (iGet hP (by assumption) (by omega) (by omega)) ?_; generalize hgs : getS _ _ _ = gs; obtain ⟨gv, ga⟩ := gs; dsimp only; cbv) | (refine call_intro (iTake hP (by assumption) (by omega)) ?_; rintro r ob ⟨rfl, rfl⟩; generalize hts : takeS _ _ _ = ts; obtain ⟨tv, ta⟩ := ts; have htl := takeS_len3 hts; dsimp only; generalize htv : encB tv = tvs; cbv) | (refine calld_intro (iTake hP (by assumption) (by omega)) ?_; generalize hts : takeS _ _ _ = ts; obtain ⟨tv, ta⟩ := ts; have htl := takeS_len3 hts; dsimp only; generalize htv : encB tv = tvs; cbv) | (refine call_intro (iLower hP (by assumption) (by omega)) ?_; rintro r ob ⟨rfl, rfl⟩; generalize hms : encB (lower _) = ms; cbv) | (refine calld_intro (iLower hP (by assumption) (by omega)) ?_; generalize hms : encB (lower _) = ms; cbv))
    all_goals have hlen := encB_len hl
    all_goals have hlenn := encN_len hn
    all_goals try rw [hp1] at hts
    all_goals try rw [hw] at hts
    all_goals clear hw hp1
    all_goals have hw : IntKind.i64.wrap xx = xx := by rw [← hxx]; exact iB_wrap64 x
    all_goals subst har; simp only [std, icmpS, decide_eq_true_eq, decide_eq_false_iff_not, Bool.not_eq_true', Bool.not_eq_false', bne_iff_ne, ne_eq, bne_eq_false_iff_eq, beq_iff_eq, beq_eq_false_iff_ne, Int.not_lt, Int.not_le, Bool.not_true, Bool.not_false, reduceCtorEq] at *
    all_goals simp only [hw] at *
    all_goals clear hw
    all_goals try simp only [show iopS .add .i64 p 1 = p + 1 from addI (by omega) (by omega), show iopS .add .i64 h 1 = h + 1 from addI (by omega) (by omega)] at *
    all_goals try rw [hts] at hgo
    all_goals try
      have hgr := getS_rng (m := b) (i := p) (k := 2) (by decide)
      have h49 := getS_192 (m := b) (i := p)
      rw [hgs] at hgo h49 hgr
      rw [getD_of hx, hxx] at h49
      dsimp only at h49 hgr
    all_goals try dsimp only at hgo
    all_goals try
      have hgv := (i64_rng (And.left ‹IntKind.i64.has gv ∧ IntKind.i64.has 49152›)).2
      have h49' := h49 (by omega) (by omega)
      have hgr' := hgr (by omega)
      clear h49 hgr
      simp only [show iopS .sub .i64 gv 49152 = gv - 49152 from subI (by omega) (by omega)] at *
    all_goals repeat (first | rw [if_pos (by omega)] at hgo | rw [if_neg (by omega)] at hgo)
    all_goals try (rw [if_pos (by rw [hno]; assumption)] at hgo)
    all_goals try (rw [if_neg (by rw [hno]; simp_all)] at hgo)
    all_goals repeat (first | rw [if_pos (by omega)] at hgo | rw [if_neg (by omega)] at hgo)
    all_goals first
      | exact ⟨⟨ng_done hgo rfl, rfl⟩⟩
      | exact ⟨⟨ng_done hgo hn, rfl⟩⟩
      | exact ⟨(gv - 49152, n, ns, ga, h + 1), by kernel_rfl, ⟨hn, h49', hn6, by dsimp only; omega, by dsimp only; omega, by dsimp only; omega, by dsimp only; rw [show 15 - n.length - (h + 1).toNat = k by omega]; exact hgo⟩, by dsimp only; omega⟩
      | exact ⟨(gv - 49152, n, ns, e, h + 1), by kernel_rfl, ⟨hn, h49', hn6, by dsimp only; omega, by dsimp only; omega, he, by dsimp only; rw [show 15 - n.length - (h + 1).toNat = k by omega]; exact hgo⟩, by dsimp only; omega⟩
      | exact ⟨(ta, n ++ [lower tv], ns ++ [[.sl ms]], e, h), by kernel_rfl, ⟨encN_app hn (encN_one hms), by dsimp only; omega, by simp; omega, hh0, hh8, he, by dsimp only; rw [show 15 - (n ++ [lower tv]).length - h.toNat = k by simp; omega]; exact hgo⟩, by simp; omega⟩
end Go.TL.Tryz

/- TfDgI -/
namespace Go.TL.Tryz
open Go Go.TL Go.Proofs
variable {P : Program}

def dgStep (m : List UInt8) (t : Int) (s : List Int × Int) : List Int × Int := if t = 6 ∧ ¬ s.2 < 0 then (s.1 ++ [(getS m s.2 4).1], (getS m s.2 4).2) else s
def dgTo (m : List UInt8) (q : List (List UInt8) × Int) (t : Int) : List Int × Int := dgStep m t (dgStep m t ([], q.2))
structure Dat where
  addr : Int
  to : List (List UInt8)
  tx : List UInt8
  nu : List Int
def Dat.none : Dat := ⟨0, [], [], []⟩
def dgRaw (t : Int) (m : List UInt8) (i n : Int) : Dat × Int :=
  if t = 1 then (⟨(getS m i 4).1, [], [], []⟩, (getS m i 4).2)
  else if namedB t then (⟨0, (nameGet m i).1, [], (dgTo m (nameGet m i) t).1⟩, (dgTo m (nameGet m i) t).2)
  else if 0 < n then (⟨0, [], (takeS m (i + 1) (iB (m.getD i.toNat 0))).1, []⟩, (takeS m (i + 1) (iB (m.getD i.toNat 0))).2)
  else (Dat.none, -1)
def dgOk (t : Int) (m : List UInt8) (i n : Int) : Bool :=
  typeB t && (decide (m.length ≤ 512) && (decide (0 ≤ i) && (withinB n 0 512 && (decide (n ≤ (m.length : Int) - i) && (decide ((dgRaw t m i n).2 = i + n) && rrOk [] t 0 (dgRaw t m i n).1.addr (dgRaw t m i n).1.to (dgRaw t m i n).1.tx (dgRaw t m i n).1.nu)))))
def dataGet (t : Int) (m : List UInt8) (i n : Int) : Dat := if dgOk t m i n then (dgRaw t m i n).1 else Dat.none
def datR (ty : Int) (d : Dat) (b : Bool) : A := .tup [.agg [.t (.sl []), .t (.int .i64 ty), .t (.int .i64 0), .t (.int .i64 d.addr), .t (.sl (encN d.to)), .t (.sl (encB d.tx)), .t (.sl (encI d.nu))], .one (.t (.bool b))]
theorem dg_out {t i n e : Int} {b : List UInt8} {d : Dat} {ok : Bool} (h1 : typeB t = true) (h2 : b.length ≤ 512) (h3 : 0 ≤ i) (h4 : withinB n 0 512 = true) (h5 : n ≤ (b.length : Int) - i) (hr : dgRaw t b i n = (d, e))
    (ho : (decide (e = i + n) && rrOk [] t 0 d.addr d.to d.tx d.nu) = ok) : datR (if ok then t else 0) (if ok then d else Dat.none) ok = datR (if dgOk t b i n then t else 0) (dataGet t b i n) (dgOk t b i n) := by
  have e1 : dgOk t b i n = ok := by rw [dgOk, h1, decide_eq_true h2, decide_eq_true h3, h4, decide_eq_true h5, hr]; simpa using ho
  rw [dataGet, e1, hr]
theorem dg_no {t i n : Int} {b : List UInt8} (h : dgOk t b i n = false) : A.tup [.agg [.t (.sl []), .t (.int .i64 0), .t (.int .i64 0), .t (.int .i64 0), .t (.sl []), .t (.sl []), .t (.sl [])], .one (.t (.bool false))] = datR (if dgOk t b i n then t else 0) (dataGet t b i n) (dgOk t b i n) := by
  rw [dataGet, h]; rfl
def DJ (b : List UInt8) (t nge j : Int) (nu : List Int) (e : Int) : Prop :=
  j = 0 ∧ (nu, e) = ([], nge) ∨ j = 1 ∧ (nu, e) = dgStep b t ([], nge) ∧ nu.length ≤ 1 ∨ j = 2 ∧ (nu, e) = dgStep b t (dgStep b t ([], nge)) ∧ nu.length ≤ 2
theorem dgStep_len {b : List UInt8} {t e e' : Int} {nu nu' : List Int} (h : dgStep b t (nu, e) = (nu', e')) : nu'.length ≤ nu.length + 1 := by
  unfold dgStep at h
  split at h <;> (injection h with h _; subst h; simp)
theorem dg_next {b : List UInt8} {t nge j e e' : Int} {nu nu' : List Int} (hj : DJ b t nge j nu e) (hlt : j < 2) (hs : dgStep b t (nu, e) = (nu', e')) : DJ b t nge (j + 1) nu' e' := by
  have hl := dgStep_len hs
  rcases hj with ⟨h0, h1⟩ | ⟨h0, h1, h2⟩ | ⟨h0, h1, h2⟩
  · have : nu = [] := (Prod.mk.inj h1).1
    subst this
    exact .inr (.inl ⟨by omega, by rw [← h1]; exact hs.symm, by simpa using hl⟩)
  · exact .inr (.inr ⟨by omega, by rw [← h1]; exact hs.symm, by omega⟩)
  · omega
theorem dg_last {b : List UInt8} {t nge j e : Int} {nu : List Int} (hj : DJ b t nge j nu e) (hlt : ¬ j < 2) : (nu, e) = dgStep b t (dgStep b t ([], nge)) := by
  rcases hj with ⟨h0, _⟩ | ⟨h0, _, _⟩ | ⟨_, h1, _⟩
  · omega
  · omega
  · exact h1
theorem DJ.rng {b : List UInt8} {t nge j e : Int} {nu : List Int} (hj : DJ b t nge j nu e) : 0 ≤ j ∧ j ≤ 2 ∧ nu.length ≤ 2 := by
  rcases hj with ⟨h0, h1⟩ | ⟨h0, _, _⟩ | ⟨_, h1, _⟩
  · have : nu = [] := (Prod.mk.inj h1).1
    subst this; simp; omega
  · omega
  · omega
theorem text_in {ar : Ar} (har : ar = std) {b : List UInt8} {es : List (List T)} {i n : Int} (hl : encB b = es) (hb : b.length ≤ 1000000) (hh : ar.has .i64 (ar.len es) ∧ ar.has .i64 i) (h : ar.icmp .gtr n (ar.iop .sub .i64 (ar.len es) i) = false) (h0 : ar.icmp .lss i 0 = false) (hn : ar.icmp .gtr n 0 = true) : 0 ≤ i ∧ i.toNat < b.length := by
  have hlen := encB_len hl
  subst har
  have r1 := i64_rng hh.2
  simp only [std, icmpS, decide_eq_false_iff_not, decide_eq_true_eq] at h h0 hn r1
  rw [subI (by omega) (by omega)] at h
  omega
set_option maxRecDepth 20000 in
theorem fn12 : Tryz.prog.funcs[12]? = some Tryz.f12 := rfl
set_option maxHeartbeats 40000000 in
set_option maxRecDepth 3000 in
theorem iDataGet (hP : Prg P) {b : List UInt8} {es : List (List T)} {t i n : Int} (hl : encB b = es) (hb : b.length ≤ 1000000) : ACall P 12 [.one (.t (.int .i64 t)), .one (.t (.sl es)), .one (.t (.int .i64 i)), .one (.t (.int .i64 n))] []
    (fun r ob => r = datR (if dgOk t b i n then t else 0) (dataGet t b i n) (dgOk t b i n) ∧ ob = []) := by
  have hN : encN [] = [] := rfl
  have hB : encB [] = [] := rfl
  have hI : encI [] = [] := rfl
  refine acall_fn (md := md) [none, none] v12 hP.mixed hP.tab (fn_at hP fn12) 4 rfl (by decide +kernel) rfl ?_
  intro ar har
  cbv
  repeat' (first | (intro; cbv) | (with_reducible refine and_side ?_ ?_; rotate_left; try cbv) | (refine ChkP.mk (by rfl) ?_; cbv) | (refine br_intro ?_ ?_ <;> intro <;> cbv) | (refine get_at har (by assumption) (by assumption) (by assumption) (by assumption) ?_; cbv) | (refine get_lt har (by assumption) (by assumption) (by assumption) ?_; intro x xx hx hxx; cbv) | (refine get_atN har (by assumption) (by assumption) (by assumption) (by assumption) ?_; cbv) | (refine get_ltN har (by assumption) (by assumption) (by assumption) ?_; intro x xx hx hxx; cbv) | (refine get_atI har (by assumption) (by assumption) (by decide) ?_; cbv) | (refine get_twoA har (by assumption) (by assumption) (by decide) ?_; intro x hx; cbv) | (refine get_twoB har (by assumption) (by assumption) (by decide) ?_; intro x hx; cbv) | (refine bytes_intro (by assumption) ?_; cbv) | (exact side_lt har (by assumption) (by assumption)) | (exact side_inb har (by assumption) (by assumption) (by assumption)) | (exact side_sh har (by decide)) | (exact side_app har (by assumption) (by assumption) (by omega)) | (exact side_app0 har (by assumption) (by omega)) | (exact side_new har (by assumption) (by omega)) | (exact side_one har (by assumption) (by omega)) | (exact side_oneN har (by assumption) (by omega)) | (exact side_flat har (by assumption)) | (exact side_sbig har (by omega)) | (refine side_sbig har ?_; simp; done) | (exact side_oneI har (by assumption) (by omega)) | (refine side_ix har ?_; simp; done) | (refine side_ix har ?_; simp; omega) | (refine call_intro (iTypeOk hP) ?_; rintro r ob ⟨rfl, rfl⟩; generalize hty : typeB _ = ty; cbv) | (refine calld_intro (iTypeOk hP) ?_; generalize hty : typeB _ = ty; cbv) | (refine call_intro (iWithin hP) ?_; rintro r ob ⟨rfl, rfl⟩; generalize hwi : withinB _ _ _ = wi; cbv) | (refine calld_intro (iWithin hP) ?_; generalize hwi : withinB _ _ _ = wi; cbv) | (refine call_intro (iHasTo hP) ?_; rintro r ob ⟨rfl, rfl⟩; generalize hht : namedB _ = ht; cbv) | (refine calld_intro (iHasTo hP) ?_; generalize hht : namedB _ = ht; cbv) | (refine call_intro (iGet hP (by assumption) (by omega) (by omega)) ?_; rintro r ob ⟨rfl, rfl⟩; generalize hgs : getS _ _ _ = gs; obtain ⟨gv, ga⟩ := gs; dsimp only; cbv) | (refine calld_intro (iGet hP (by assumption) (by omega) (by omega)) ?_; generalize hgs : getS _ _ _ = gs; obtain ⟨gv, ga⟩ := gs; dsimp only; cbv) | (refine call_intro (iNameGet hP (by assumption) (by omega)) ?_; rintro r ob ⟨rfl, rfl⟩; generalize hng : nameGet _ _ = ng; obtain ⟨ngn, nge⟩ := ng; dsimp only; generalize hngn : encN ngn = ngs; cbv) | (refine calld_intro (iNameGet hP (by assumption) (by omega)) ?_; generalize hng : nameGet _ _ = ng; obtain ⟨ngn, nge⟩ := ng; dsimp only; generalize hngn : encN ngn = ngs; cbv) | (refine call_intro (iRrOk hP (by assumption) (by assumption) (by assumption) (by assumption)) ?_; rintro r ob ⟨rfl, rfl⟩; generalize hro : rrOk _ _ _ _ _ _ _ = ro; cbv) | (refine calld_intro (iRrOk hP (by assumption) (by assumption) (by assumption) (by assumption)) ?_; generalize hro : rrOk _ _ _ _ _ _ _ = ro; cbv))
  · refine ⟨⟨dg_no ?_, rfl⟩⟩
    subst har; simp only [std, icmpS, decide_eq_true_eq, decide_eq_false_iff_not, Bool.not_eq_true', Bool.not_eq_false', bne_iff_ne, ne_eq, bne_eq_false_iff_eq, beq_iff_eq, beq_eq_false_iff_ne, Int.not_lt, Int.not_le, Bool.not_true, Bool.not_false, reduceCtorEq] at *
    rw [dgOk, hty]; simp_all
  · refine ⟨⟨dg_no ?_, rfl⟩⟩
    have hlen := encB_len hl
    subst har; simp only [std, icmpS, decide_eq_true_eq, decide_eq_false_iff_not, Bool.not_eq_true', Bool.not_eq_false', bne_iff_ne, ne_eq, bne_eq_false_iff_eq, beq_iff_eq, beq_eq_false_iff_ne, Int.not_lt, Int.not_le, Bool.not_true, Bool.not_false, reduceCtorEq] at *
    rw [dgOk, decide_eq_false (p := b.length ≤ 512) (by omega)]; simp
  · refine ⟨⟨dg_no ?_, rfl⟩⟩
    subst har; simp only [std, icmpS, decide_eq_true_eq, decide_eq_false_iff_not, Bool.not_eq_true', Bool.not_eq_false', bne_iff_ne, ne_eq, bne_eq_false_iff_eq, beq_iff_eq, beq_eq_false_iff_ne, Int.not_lt, Int.not_le, Bool.not_true, Bool.not_false, reduceCtorEq] at *
    rw [dgOk, decide_eq_false (p := 0 ≤ i) (by omega)]; simp
  · refine ⟨⟨dg_no ?_, rfl⟩⟩
    subst har; simp only [std, icmpS, decide_eq_true_eq, decide_eq_false_iff_not, Bool.not_eq_true', Bool.not_eq_false', bne_iff_ne, ne_eq, bne_eq_false_iff_eq, beq_iff_eq, beq_eq_false_iff_ne, Int.not_lt, Int.not_le, Bool.not_true, Bool.not_false, reduceCtorEq] at *
    rw [dgOk, hwi]; simp_all
  · refine ⟨⟨dg_no ?_, rfl⟩⟩
    have hlen := encB_len hl
    subst har; simp only [std, icmpS, decide_eq_true_eq, decide_eq_false_iff_not, Bool.not_eq_true', Bool.not_eq_false', bne_iff_ne, ne_eq, bne_eq_false_iff_eq, beq_iff_eq, beq_eq_false_iff_ne, Int.not_lt, Int.not_le, Bool.not_true, Bool.not_false, reduceCtorEq] at *
    have hir := i64_rng (And.right ‹IntKind.i64.has (es.length : Int) ∧ IntKind.i64.has i›)
    simp only [show iopS .sub .i64 (es.length : Int) i = es.length - i from subI (by omega) (by omega)] at *
    rw [dgOk, decide_eq_false (p := n ≤ (b.length : Int) - i) (by omega)]; simp
  · have hlen := encB_len hl
    subst har; simp only [std, icmpS, decide_eq_true_eq, decide_eq_false_iff_not, Bool.not_eq_true', Bool.not_eq_false', bne_iff_ne, ne_eq, bne_eq_false_iff_eq, beq_iff_eq, beq_eq_false_iff_ne, Int.not_lt, Int.not_le, Bool.not_true, Bool.not_false, reduceCtorEq] at *
    have hir := i64_rng (And.right ‹IntKind.i64.has (es.length : Int) ∧ IntKind.i64.has i›)
    have hwt : wi = true := by assumption
    have hnb : 0 ≤ n ∧ n ≤ 512 := by have := hwi.trans hwt; simpa [withinB] using this
    simp only [show iopS .sub .i64 (es.length : Int) i = es.length - i from subI (by omega) (by omega)] at *
    simp only [show iopS .add .i64 i n = i + n from addI (by omega) (by omega)] at *
    refine ⟨⟨dg_out (d := ⟨gv, [], [], []⟩) (e := ga) (ok := false) (hty.trans (by assumption)) (by omega) (by omega) (hwi.trans hwt) (by omega) (by rw [dgRaw, if_pos (by assumption), hgs]) ?_, rfl⟩⟩
    rw [decide_eq_false (by omega)]; rfl
  · have hlen := encB_len hl
    subst har; simp only [std, icmpS, decide_eq_true_eq, decide_eq_false_iff_not, Bool.not_eq_true', Bool.not_eq_false', bne_iff_ne, ne_eq, bne_eq_false_iff_eq, beq_iff_eq, beq_eq_false_iff_ne, Int.not_lt, Int.not_le, Bool.not_true, Bool.not_false, reduceCtorEq] at *
    have hir := i64_rng (And.right ‹IntKind.i64.has (es.length : Int) ∧ IntKind.i64.has i›)
    have hwt : wi = true := by assumption
    have hnb : 0 ≤ n ∧ n ≤ 512 := by have := hwi.trans hwt; simpa [withinB] using this
    simp only [show iopS .sub .i64 (es.length : Int) i = es.length - i from subI (by omega) (by omega)] at *
    simp only [show iopS .add .i64 i n = i + n from addI (by omega) (by omega)] at *
    refine ⟨⟨dg_out (d := ⟨gv, [], [], []⟩) (e := ga) (ok := false) (hty.trans (by assumption)) (by omega) (by omega) (hwi.trans hwt) (by omega) (by rw [dgRaw, if_pos (by assumption), hgs]) ?_, rfl⟩⟩
    rw [hro]; simp_all
  · have hlen := encB_len hl
    subst har; simp only [std, icmpS, decide_eq_true_eq, decide_eq_false_iff_not, Bool.not_eq_true', Bool.not_eq_false', bne_iff_ne, ne_eq, bne_eq_false_iff_eq, beq_iff_eq, beq_eq_false_iff_ne, Int.not_lt, Int.not_le, Bool.not_true, Bool.not_false, reduceCtorEq] at *
    have hir := i64_rng (And.right ‹IntKind.i64.has (es.length : Int) ∧ IntKind.i64.has i›)
    have hwt : wi = true := by assumption
    have hnb : 0 ≤ n ∧ n ≤ 512 := by have := hwi.trans hwt; simpa [withinB] using this
    simp only [show iopS .sub .i64 (es.length : Int) i = es.length - i from subI (by omega) (by omega)] at *
    simp only [show iopS .add .i64 i n = i + n from addI (by omega) (by omega)] at *
    refine ⟨⟨dg_out (d := ⟨gv, [], [], []⟩) (e := ga) (ok := true) (hty.trans (by assumption)) (by omega) (by omega) (hwi.trans hwt) (by omega) (by rw [dgRaw, if_pos (by assumption), hgs]) ?_, rfl⟩⟩
    rw [hro]; simp_all
  · have hts : namedB t = true := by rw [hht]; assumption
    refine LoopP.mk (List Int × List (List T) × Int × Int) [0, 1, 2, 3, 8, 9, 10, 11, 61] [.cell 10 6 1 12]
      (fun x => ⟨[(0, .one (.t (.int .i64 t))), (1, .one (.t (.sl es))), (2, .one (.t (.int .i64 i))), (3, .one (.t (.int .i64 n))), (8, .one (.ptr 16 0)), (9, .one (.t (.bool false))), (10, .one (.ptr 17 0)), (11, .one (.t (.int .i64 x.2.2.1))), (61, .one (.t (.int .i64 x.2.2.2)))],
        [(16, .box [.nil, .t (.int .i64 0), .t (.int .i64 0), .t (.int .i64 0), .nil, .nil, .nil] false), (17, .box [.nil, .t (.int .i64 t), .t (.int .i64 0), .t (.int .i64 0), .t (.sl ngs), .nil, .row 18 0] false), (18, .row 1 x.2.1 0 [0] false)]⟩)
      (fun x => encI x.1 = x.2.1 ∧ DJ b t nge x.2.2.2 x.1 x.2.2.1) (fun x => 2 - x.2.2.2.toNat) ([], [], nge, 0) ?e ?f ?g
    case e => kernel_rfl
    case f => exact ⟨rfl, .inl ⟨rfl, rfl⟩⟩
    case g =>
      intro x hx
      obtain ⟨nu, nus, e, j⟩ := x
      have hnu : encI nu = nus := hx.1
      have hj : DJ b t nge j nu e := hx.2
      have hjr := hj.rng
      clear hx
      cbv
      repeat' (first | (intro; cbv) | (with_reducible refine and_side ?_ ?_; rotate_left; try cbv) | (refine ChkP.mk (by rfl) ?_; cbv) | (refine br_intro ?_ ?_ <;> intro <;> cbv) | (refine get_at har (by assumption) (by assumption) (by assumption) (by assumption) ?_; cbv) | (refine get_lt har (by assumption) (by assumption) (by assumption) ?_; intro x xx hx hxx; cbv) | (refine get_atN har (by assumption) (by assumption) (by assumption) (by assumption) ?_; cbv) | (refine get_ltN har (by assumption) (by assumption) (by assumption) ?_; intro x xx hx hxx; cbv) | (refine get_atI har (by assumption) (by assumption) (by decide) ?_; cbv) | (refine get_twoA har (by assumption) (by assumption) (by decide) ?_; intro x hx; cbv) | (refine get_twoB har (by assumption) (by assumption) (by decide) ?_; intro x hx; cbv) | (refine bytes_intro (by assumption) ?_; cbv) | (exact side_lt har (by assumption) (by assumption)) | (exact side_inb har (by assumption) (by assumption) (by assumption)) | (exact side_sh har (by decide)) | (exact side_app har (by assumption) (by assumption) (by omega)) | (exact side_app0 har (by assumption) (by omega)) | (exact side_new har (by assumption) (by omega)) | (exact side_one har (by assumption) (by omega)) | (exact side_oneN har (by assumption) (by omega)) | (exact side_flat har (by assumption)) | (exact side_sbig har (by omega)) | (refine side_sbig har ?_; simp; done) | (exact side_oneI har (by assumption) (by omega)) | (refine side_ix har ?_; simp; done) | (refine side_ix har ?_; simp; omega) | (refine call_intro (iGet hP (by assumption) (by omega) (by omega)) ?_; rintro r ob ⟨rfl, rfl⟩; generalize hgs : getS _ _ _ = gs; obtain ⟨gv, ga⟩ := gs; dsimp only; cbv) | (refine calld_intro (iGet hP (by assumption) (by omega) (by omega)) ?_; generalize hgs : getS _ _ _ = gs; obtain ⟨gv, ga⟩ := gs; dsimp only; cbv) | (refine call_intro (iRrOk hP (by assumption) (by assumption) (by assumption) (by assumption)) ?_; rintro r ob ⟨rfl, rfl⟩; generalize hro : rrOk _ _ _ _ _ _ _ = ro; cbv) | (refine calld_intro (iRrOk hP (by assumption) (by assumption) (by assumption) (by assumption)) ?_; generalize hro : rrOk _ _ _ _ _ _ _ = ro; cbv))
      iterate 3
        · subst har; simp only [std, icmpS, decide_eq_true_eq, decide_eq_false_iff_not, Bool.not_eq_true', Bool.not_eq_false', bne_iff_ne, ne_eq, bne_eq_false_iff_eq, beq_iff_eq, beq_eq_false_iff_ne, Int.not_lt, Int.not_le, Bool.not_true, Bool.not_false, reduceCtorEq] at *
          simp only [show iopS .add .i64 j 1 = j + 1 from addI (by omega) (by omega)] at *
          first
            | exact ⟨(nu ++ [gv], nus ++ [[.int .i64 gv]], ga, j + 1), by kernel_rfl, ⟨encI_app hnu rfl, dg_next hj (by assumption) (by rw [dgStep, if_pos ⟨by assumption, by dsimp only; omega⟩, hgs])⟩, by dsimp only; omega⟩
            | exact ⟨(nu, nus, e, j + 1), by kernel_rfl, ⟨hnu, dg_next hj (by assumption) (by rw [dgStep, if_neg (by dsimp only; omega)])⟩, by dsimp only; omega⟩
      all_goals subst hnu
      all_goals subst hngn
      · have hlen := encB_len hl
        subst har; simp only [std, icmpS, decide_eq_true_eq, decide_eq_false_iff_not, Bool.not_eq_true', Bool.not_eq_false', bne_iff_ne, ne_eq, bne_eq_false_iff_eq, beq_iff_eq, beq_eq_false_iff_ne, Int.not_lt, Int.not_le, Bool.not_true, Bool.not_false, reduceCtorEq] at *
        have hir := i64_rng (And.right ‹IntKind.i64.has (es.length : Int) ∧ IntKind.i64.has i›)
        have hwt : wi = true := by assumption
        have hnb : 0 ≤ n ∧ n ≤ 512 := by have := hwi.trans hwt; simpa [withinB] using this
        simp only [show iopS .sub .i64 (es.length : Int) i = es.length - i from subI (by omega) (by omega)] at *
        simp only [show iopS .add .i64 i n = i + n from addI (by omega) (by omega)] at *
        refine ⟨⟨dg_out (d := ⟨0, ngn, [], nu⟩) (e := e) (ok := false) (hty.trans (by assumption)) (by omega) (by omega) (hwi.trans hwt) (by omega) (by rw [dgRaw, if_neg (by assumption), if_pos hts, hng, dgTo, ← dg_last hj (by omega)]) ?_, rfl⟩⟩
        rw [decide_eq_false (by omega)]; rfl
      · have hlen := encB_len hl
        subst har; simp only [std, icmpS, decide_eq_true_eq, decide_eq_false_iff_not, Bool.not_eq_true', Bool.not_eq_false', bne_iff_ne, ne_eq, bne_eq_false_iff_eq, beq_iff_eq, beq_eq_false_iff_ne, Int.not_lt, Int.not_le, Bool.not_true, Bool.not_false, reduceCtorEq] at *
        have hir := i64_rng (And.right ‹IntKind.i64.has (es.length : Int) ∧ IntKind.i64.has i›)
        have hwt : wi = true := by assumption
        have hnb : 0 ≤ n ∧ n ≤ 512 := by have := hwi.trans hwt; simpa [withinB] using this
        simp only [show iopS .sub .i64 (es.length : Int) i = es.length - i from subI (by omega) (by omega)] at *
        simp only [show iopS .add .i64 i n = i + n from addI (by omega) (by omega)] at *
        refine ⟨⟨dg_out (d := ⟨0, ngn, [], nu⟩) (e := e) (ok := false) (hty.trans (by assumption)) (by omega) (by omega) (hwi.trans hwt) (by omega) (by rw [dgRaw, if_neg (by assumption), if_pos hts, hng, dgTo, ← dg_last hj (by omega)]) ?_, rfl⟩⟩
        rw [hro]; simp_all
      · have hlen := encB_len hl
        subst har; simp only [std, icmpS, decide_eq_true_eq, decide_eq_false_iff_not, Bool.not_eq_true', Bool.not_eq_false', bne_iff_ne, ne_eq, bne_eq_false_iff_eq, beq_iff_eq, beq_eq_false_iff_ne, Int.not_lt, Int.not_le, Bool.not_true, Bool.not_false, reduceCtorEq] at *
        have hir := i64_rng (And.right ‹IntKind.i64.has (es.length : Int) ∧ IntKind.i64.has i›)
        have hwt : wi = true := by assumption
        have hnb : 0 ≤ n ∧ n ≤ 512 := by have := hwi.trans hwt; simpa [withinB] using this
        simp only [show iopS .sub .i64 (es.length : Int) i = es.length - i from subI (by omega) (by omega)] at *
        simp only [show iopS .add .i64 i n = i + n from addI (by omega) (by omega)] at *
        refine ⟨⟨dg_out (d := ⟨0, ngn, [], nu⟩) (e := e) (ok := true) (hty.trans (by assumption)) (by omega) (by omega) (hwi.trans hwt) (by omega) (by rw [dgRaw, if_neg (by assumption), if_pos hts, hng, dgTo, ← dg_last hj (by omega)]) ?_, rfl⟩⟩
        rw [hro]; simp_all
  · have hti := text_in har hl hb (by assumption) (by assumption) (by assumption) (by assumption)
    refine get_byte har hl hti ?_
    intro x xx hx hxx
    have hp1 : ar.iop .add .i64 i 1 = i + 1 := add_std har (by omega) (by omega)
    have hw : ar.conv .i64 xx = xx := by subst har; rw [← hxx]; exact iB_wrap64 x
    cbv
    repeat' (first | (intro; cbv) | (with_reducible refine and_side ?_ ?_; rotate_left; try cbv) | (refine ChkP.mk (by rfl) ?_; cbv) | (refine br_intro ?_ ?_ <;> intro <;> cbv) | (refine get_at har (by assumption) (by assumption) (by assumption) (by assumption) ?_; cbv) | (refine get_lt har (by assumption) (by assumption) (by assumption) ?_; intro x xx hx hxx; cbv) | (refine get_atN har (by assumption) (by assumption) (by assumption) (by assumption) ?_; cbv) | (refine get_ltN har (by assumption) (by assumption) (by assumption) ?_; intro x xx hx hxx; cbv) | (refine get_atI har (by assumption) (by assumption) (by decide) ?_; cbv) | (refine get_twoA har (by assumption) (by assumption) (by decide) ?_; intro x hx; cbv) | (refine get_twoB har (by assumption) (by assumption) (by decide) ?_; intro x hx; cbv) | (refine bytes_intro (by assumption) ?_; cbv) | (exact side_lt har (by assumption) (by assumption)) | (exact side_inb har (by assumption) (by assumption) (by assumption)) | (exact side_sh har (by decide)) | (exact side_app har (by assumption) (by assumption) (by omega)) | (exact side_app0 har (by assumption) (by omega)) | (exact side_new har (by assumption) (by omega)) | (exact side_one har (by assumption) (by omega)) | (exact side_oneN har (by assumption) (by omega)) | (exact side_flat har (by assumption)) | (exact side_sbig har (by omega)) | (refine side_sbig har ?_; simp; done) | (exact side_oneI har (by assumption) (by omega)) | (refine side_ix har ?_; simp; done) | (refine side_ix har ?_; simp; omega) | (refine call_intro (iTake hP (by assumption) (by omega)) ?_; rintro r ob ⟨rfl, rfl⟩; generalize hts : takeS _ _ _ = ts; obtain ⟨tv, ta⟩ := ts; have htl := takeS_len3 hts; dsimp only; generalize htv : encB tv = tvs; cbv) | (refine calld_intro (iTake hP (by assumption) (by omega)) ?_; generalize hts : takeS _ _ _ = ts; obtain ⟨tv, ta⟩ := ts; have htl := takeS_len3 hts; dsimp only; generalize htv : encB tv = tvs; cbv) | (refine call_intro (iRrOk hP (by assumption) (by assumption) (by assumption) (by assumption)) ?_; rintro r ob ⟨rfl, rfl⟩; generalize hro : rrOk _ _ _ _ _ _ _ = ro; cbv) | (refine calld_intro (iRrOk hP (by assumption) (by assumption) (by assumption) (by assumption)) ?_; generalize hro : rrOk _ _ _ _ _ _ _ = ro; cbv))
    all_goals rw [hp1, hw] at hts
    all_goals clear hp1 hw
    all_goals subst htv
    · have hlen := encB_len hl
      subst har; simp only [std, icmpS, decide_eq_true_eq, decide_eq_false_iff_not, Bool.not_eq_true', Bool.not_eq_false', bne_iff_ne, ne_eq, bne_eq_false_iff_eq, beq_iff_eq, beq_eq_false_iff_ne, Int.not_lt, Int.not_le, Bool.not_true, Bool.not_false, reduceCtorEq] at *
      have hir := i64_rng (And.right ‹IntKind.i64.has (es.length : Int) ∧ IntKind.i64.has i›)
      have hwt : wi = true := by assumption
      have hnb : 0 ≤ n ∧ n ≤ 512 := by have := hwi.trans hwt; simpa [withinB] using this
      simp only [show iopS .sub .i64 (es.length : Int) i = es.length - i from subI (by omega) (by omega)] at *
      simp only [show iopS .add .i64 i n = i + n from addI (by omega) (by omega)] at *
      refine ⟨⟨dg_out (d := ⟨0, [], tv, []⟩) (e := ta) (ok := false) (hty.trans (by assumption)) (by omega) (by omega) (hwi.trans hwt) (by omega) (by rw [dgRaw, if_neg (by assumption), hht, if_neg (by simp_all), if_pos (by omega), getD_of hx, hxx, hts]) ?_, rfl⟩⟩
      rw [decide_eq_false (by omega)]; rfl
    · have hlen := encB_len hl
      subst har; simp only [std, icmpS, decide_eq_true_eq, decide_eq_false_iff_not, Bool.not_eq_true', Bool.not_eq_false', bne_iff_ne, ne_eq, bne_eq_false_iff_eq, beq_iff_eq, beq_eq_false_iff_ne, Int.not_lt, Int.not_le, Bool.not_true, Bool.not_false, reduceCtorEq] at *
      have hir := i64_rng (And.right ‹IntKind.i64.has (es.length : Int) ∧ IntKind.i64.has i›)
      have hwt : wi = true := by assumption
      have hnb : 0 ≤ n ∧ n ≤ 512 := by have := hwi.trans hwt; simpa [withinB] using this
      simp only [show iopS .sub .i64 (es.length : Int) i = es.length - i from subI (by omega) (by omega)] at *
      simp only [show iopS .add .i64 i n = i + n from addI (by omega) (by omega)] at *
      refine ⟨⟨dg_out (d := ⟨0, [], tv, []⟩) (e := ta) (ok := false) (hty.trans (by assumption)) (by omega) (by omega) (hwi.trans hwt) (by omega) (by rw [dgRaw, if_neg (by assumption), hht, if_neg (by simp_all), if_pos (by omega), getD_of hx, hxx, hts]) ?_, rfl⟩⟩
      rw [hro]; simp_all
    · have hlen := encB_len hl
      subst har; simp only [std, icmpS, decide_eq_true_eq, decide_eq_false_iff_not, Bool.not_eq_true', Bool.not_eq_false', bne_iff_ne, ne_eq, bne_eq_false_iff_eq, beq_iff_eq, beq_eq_false_iff_ne, Int.not_lt, Int.not_le, Bool.not_true, Bool.not_false, reduceCtorEq] at *
      have hir := i64_rng (And.right ‹IntKind.i64.has (es.length : Int) ∧ IntKind.i64.has i›)
      have hwt : wi = true := by assumption
      have hnb : 0 ≤ n ∧ n ≤ 512 := by have := hwi.trans hwt; simpa [withinB] using this
      simp only [show iopS .sub .i64 (es.length : Int) i = es.length - i from subI (by omega) (by omega)] at *
      simp only [show iopS .add .i64 i n = i + n from addI (by omega) (by omega)] at *
      refine ⟨⟨dg_out (d := ⟨0, [], tv, []⟩) (e := ta) (ok := true) (hty.trans (by assumption)) (by omega) (by omega) (hwi.trans hwt) (by omega) (by rw [dgRaw, if_neg (by assumption), hht, if_neg (by simp_all), if_pos (by omega), getD_of hx, hxx, hts]) ?_, rfl⟩⟩
      rw [hro]; simp_all
  · have hlen := encB_len hl
    subst har; simp only [std, icmpS, decide_eq_true_eq, decide_eq_false_iff_not, Bool.not_eq_true', Bool.not_eq_false', bne_iff_ne, ne_eq, bne_eq_false_iff_eq, beq_iff_eq, beq_eq_false_iff_ne, Int.not_lt, Int.not_le, Bool.not_true, Bool.not_false, reduceCtorEq] at *
    have hir := i64_rng (And.right ‹IntKind.i64.has (es.length : Int) ∧ IntKind.i64.has i›)
    have hwt : wi = true := by assumption
    have hnb : 0 ≤ n ∧ n ≤ 512 := by have := hwi.trans hwt; simpa [withinB] using this
    simp only [show iopS .sub .i64 (es.length : Int) i = es.length - i from subI (by omega) (by omega)] at *
    simp only [show iopS .add .i64 i n = i + n from addI (by omega) (by omega)] at *
    refine ⟨⟨dg_out (d := ⟨0, [], [], []⟩) (e := -1) (ok := false) (hty.trans (by assumption)) (by omega) (by omega) (hwi.trans hwt) (by omega) (by rw [dgRaw, if_neg (by assumption), hht, if_neg (by simp_all), if_neg (by omega)]; rfl) ?_, rfl⟩⟩
    rw [decide_eq_false (by omega)]; rfl
  · have hlen := encB_len hl
    subst har; simp only [std, icmpS, decide_eq_true_eq, decide_eq_false_iff_not, Bool.not_eq_true', Bool.not_eq_false', bne_iff_ne, ne_eq, bne_eq_false_iff_eq, beq_iff_eq, beq_eq_false_iff_ne, Int.not_lt, Int.not_le, Bool.not_true, Bool.not_false, reduceCtorEq] at *
    have hir := i64_rng (And.right ‹IntKind.i64.has (es.length : Int) ∧ IntKind.i64.has i›)
    have hwt : wi = true := by assumption
    have hnb : 0 ≤ n ∧ n ≤ 512 := by have := hwi.trans hwt; simpa [withinB] using this
    simp only [show iopS .sub .i64 (es.length : Int) i = es.length - i from subI (by omega) (by omega)] at *
    simp only [show iopS .add .i64 i n = i + n from addI (by omega) (by omega)] at *
    refine ⟨⟨dg_out (d := ⟨0, [], [], []⟩) (e := -1) (ok := false) (hty.trans (by assumption)) (by omega) (by omega) (hwi.trans hwt) (by omega) (by rw [dgRaw, if_neg (by assumption), hht, if_neg (by simp_all), if_neg (by omega)]; rfl) ?_, rfl⟩⟩
    rw [hro]; simp_all
  · have hlen := encB_len hl
    subst har; simp only [std, icmpS, decide_eq_true_eq, decide_eq_false_iff_not, Bool.not_eq_true', Bool.not_eq_false', bne_iff_ne, ne_eq, bne_eq_false_iff_eq, beq_iff_eq, beq_eq_false_iff_ne, Int.not_lt, Int.not_le, Bool.not_true, Bool.not_false, reduceCtorEq] at *
    have hir := i64_rng (And.right ‹IntKind.i64.has (es.length : Int) ∧ IntKind.i64.has i›)
    have hwt : wi = true := by assumption
    have hnb : 0 ≤ n ∧ n ≤ 512 := by have := hwi.trans hwt; simpa [withinB] using this
    simp only [show iopS .sub .i64 (es.length : Int) i = es.length - i from subI (by omega) (by omega)] at *
    simp only [show iopS .add .i64 i n = i + n from addI (by omega) (by omega)] at *
    refine ⟨⟨dg_out (d := ⟨0, [], [], []⟩) (e := -1) (ok := true) (hty.trans (by assumption)) (by omega) (by omega) (hwi.trans hwt) (by omega) (by rw [dgRaw, if_neg (by assumption), hht, if_neg (by simp_all), if_neg (by omega)]; rfl) ?_, rfl⟩⟩
    rw [hro]; simp_all
end Go.TL.Tryz
