/- Texts of a proof, joined by a program (merge.py): TfMoF TfMoG TfMoT TfMoW TfMoV TfTrm. -/
import Derived.Test.YtgdckdmamepaeaaGreatDoorT09
set_option linter.all false
/- TfMoF -/
namespace Go.TL.Tryz
open Go Go.TL Go.Proofs
set_option maxRecDepth 20000
variable {P : Program}
theorem cat4_e {a b c d : List UInt8} {az bs cs ds : List (List T)} (h1 : encB a = az) (h2 : encB b = bs) (h3 : encB c = cs) (h4 : encB d = ds) : encN [a, b, c, d] = [[.sl az], [.sl bs], [.sl cs], [.sl ds]] := by
  subst h1; subst h2; subst h3; subst h4; rfl
theorem cat4_b {a b c d : List UInt8} (h1 : a.length ≤ 1000) (h2 : b.length ≤ 1000) (h3 : c.length ≤ 1000) (h4 : d.length ≤ 1000) : ∀ l ∈ [a, b, c, d], l.length ≤ 1000 := by
  intro l hl; simp at hl; rcases hl with rfl | rfl | rfl | rfl <;> assumption
theorem cat4_l {a b c d : List UInt8} {x : List (List T)} (h : encB (catB [a, b, c, d]) = x) : ∃ y, encB y = x ∧ y.length = a.length + b.length + c.length + d.length := ⟨_, h, by simp [catB]; omega⟩
def encWW (ll : List (List Wnt)) : List (List T) := ll.map fun l => [.sl (encW l)]
theorem get_ltWW {ar : Ar} (har : ar = std) {b : List (List Wnt)} {es : List (List T)} {i : Int} {K : List T → Prop} (hes : encWW b = es) (h : ar.icmp .lss i (ar.len es) = true) (h0 : 0 ≤ i)
    (k : ∀ (l : List Wnt) (ls : List (List T)), b[i.toNat]? = some l → encW l = ls → K [.sl ls]) : GetP ar es i K := by
  have hlt := lt_len har h h0
  subst har; subst hes
  have hl : i.toNat < b.length := by simpa [encWW] using hlt
  refine ⟨by simp [std, encWW]; omega, ?_⟩
  have := k b[i.toNat] _ (List.getElem?_eq_getElem hl) rfl
  simpa [std, encWW, hl] using this
theorem two_i {α : Type} {a b x : α} {i : Int} (h2 : i.toNat ≤ 2) (h : [a, b][i.toNat]? = some x) : (i.toNat = 0 ∧ x = a) ∨ (i.toNat = 1 ∧ x = b) := by
  match hi : i.toNat, h with
  | 0, h => exact .inl ⟨rfl, by simpa using h.symm⟩
  | 1, h => exact .inr ⟨rfl, by simpa using h.symm⟩
theorem three_i {α : Type} {a b c x : α} {i : Int} (h2 : i.toNat ≤ 3) (h : [a, b, c][i.toNat]? = some x) : (i.toNat = 0 ∧ x = a) ∨ (i.toNat = 1 ∧ x = b) ∨ (i.toNat = 2 ∧ x = c) := by
  match hi : i.toNat, h with
  | 0, h => exact .inl ⟨rfl, by simpa using h.symm⟩
  | 1, h => exact .inr (.inl ⟨rfl, by simpa using h.symm⟩)
  | 2, h => exact .inr (.inr ⟨rfl, by simpa using h.symm⟩)
/-! The lists of records, one behind another. -/
def encRR (ll : List (List Rrv)) : List (List T) := ll.map fun l => [.sl (encR l)]
theorem get_ltRR {ar : Ar} (har : ar = std) {b : List (List Rrv)} {es : List (List T)} {i : Int} {K : List T → Prop} (hes : encRR b = es) (h : ar.icmp .lss i (ar.len es) = true) (h0 : 0 ≤ i)
    (k : ∀ (l : List Rrv) (ls : List (List T)), b[i.toNat]? = some l → encR l = ls → K [.sl ls]) : GetP ar es i K := by
  have hlt := lt_len har h h0
  subst har; subst hes
  have hl : i.toNat < b.length := by simpa [encRR] using hlt
  refine ⟨by simp [std, encRR]; omega, ?_⟩
  have := k b[i.toNat] _ (List.getElem?_eq_getElem hl) rfl
  simpa [std, encRR, hl] using this
def bigL {ar : Ar} {es : List (List T)} (_ : ar.big es) : List (List T) := es
def sixI {ar : Ar} {a b c d e f : Int} (_ : ar.big [[.int .i64 a], [.int .i64 b], [.int .i64 c], [.int .i64 d], [.int .i64 e], [.int .i64 f]]) : List Int := [a, b, c, d, e, f]
theorem rr_len {x : Rrv} (h : rrOkR x = true) : recLen x ≤ 420 := by
  have := dataI_len2 h
  have := wireN_len (rrOk_facts h).1
  unfold recLen; omega
theorem rrI_lenE {x : Rrv} (h : rrOkR x = true) : (rrI x.n x.t x.ttl x.addr x.to x.tx x.nu).length = recLen x := by
  simp only [rrI, recLen, catB, List.flatMap_cons, List.flatMap_nil, List.length_append, id, List.length_nil, fourB_len, twoB_len1]; omega
theorem iRrWire3 (hP : Prg P) {x : Rrv} {ns tos txs nus : List (List T)} (hn : encN x.n = ns) (hto : encN x.to = tos) (htx : encB x.tx = txs) (hnu : encI x.nu = nus) (hok : rrOkR x = true) :
    ACall P 121 [.agg [.t (.sl ns), .t (.int .i64 x.t), .t (.int .i64 x.ttl), .t (.int .i64 x.addr), .t (.sl tos), .t (.sl txs), .t (.sl nus)]] [] (fun r ob => ∃ (lr : List UInt8) (ls' : List (List T)), encB lr = ls' ∧ lr.length = recLen x ∧ r = .one (.row 32 0) ∧ ob = [(32, .row 1 ls' 0 [0] false)]) := by
  obtain ⟨hnb, htob, htxl, hnu6, hnul⟩ := rrOk_facts hok
  refine (iRrWire hP hn hnb hto htob htx (by omega) hnu (by omega)).mono ?_
  rintro r ob ⟨rfl, rfl⟩
  exact ⟨_, _, rfl, rrI_lenE hok, rfl, rfl⟩
set_option maxRecDepth 20000 in
theorem fn43 : Tryz.prog.funcs[43]? = some Tryz.f43 := rfl
set_option maxHeartbeats 40000000 in
set_option maxRecDepth 3000 in
theorem iMsgWire (hP : Prg P) {m : Mes} {qss ans aus mos prs ups : List (List T)} (hm : MesA m qss ans aus mos prs ups) (hmay : mayB m = true) :
    ACall P 43 [.agg [.t (.int .i64 m.id), .t (.bool m.reply), .t (.int .i64 m.op), .t (.bool m.auth), .t (.int .i64 m.code), .t (.sl qss), .t (.sl ans), .t (.sl aus), .t (.sl mos), .t (.sl prs), .t (.sl ups)]] []
      (fun r ob => ∃ (lr : List UInt8) (ls' : List (List T)), encB lr = ls' ∧ lr.length = mesLen m ∧ r = .one (.row 32 0) ∧ ob = [(32, .row 1 ls' 0 [0] false)]) := by
  generalize hK : (fun (r : A) (ob : Obs) => ∃ (lr : List UInt8) (ls' : List (List T)), encB lr = ls' ∧ lr.length = mesLen m ∧ r = .one (.row 32 0) ∧ ob = [(32, .row 1 ls' 0 [0] false)]) = K
  have hk : ∀ (b : List UInt8) (bs : List (List T)), encB b = bs → b.length = mesLen m → RetP K (.one (.row 32 0)) [(32, .row 1 bs 0 [0] false)] := by
    intro b bs h1 h2
    subst hK
    exact ⟨⟨b, bs, h1, h2, rfl, rfl⟩⟩
  obtain ⟨hq, ha, hu, ho, hp, hup⟩ := hm
  obtain ⟨fid, fop, fcode, ⟨q, fq, fnok, fnb, fqt⟩, fan, fau, fmo, fpr, fup⟩ := mayF hmay
  have hnil : encB [] = [] := rfl
  refine acall_fn (md := md) [some [(0, 1)]] v43 hP.mixed hP.tab (fn_at hP fn43) 1 rfl (by decide +kernel) rfl ?_
  intro ar har
  have hone : ar.icmp .neq (ar.len qss) 1 = false := by
    have := encQ_len hq
    rw [fq] at this
    subst har
    simp [std, icmpS, this]
  have hqr : ∀ q', m.qs[(0 : Int).toNat]? = some q' → NmB q'.n ∧ (wireN q'.n).length ≤ 200 ∧ (m.qs.map fun q => (wireN q.n).length).sum = (wireN q'.n).length := by
    intro q' hq'
    rw [fq] at hq' ⊢
    obtain rfl : q = q' := by simpa using hq'
    exact ⟨fnb, wireN_len fnb, by simp⟩
  have hpk : ∀ (i : Nat) w, m.pr[i]? = some w → wantOk w = true := fun i w h => by have := fpr; simp only [listOk, Bool.and_eq_true, List.all_eq_true] at this; exact this.2 w (List.mem_of_getElem? h)
  have huk : ∀ (i : Nat) w, m.up[i]? = some w → wantOk w = true := fun i w h => by have := fup; simp only [listOk, Bool.and_eq_true, List.all_eq_true] at this; exact this.2 w (List.mem_of_getElem? h)
  have hrka : ∀ (i : Nat) x, m.an[i]? = some x → rrOkR x = true := fun i w h => by have := fan; simp only [listOk, Bool.and_eq_true, List.all_eq_true] at this; exact this.2 w (List.mem_of_getElem? h)
  have hrku : ∀ (i : Nat) x, m.au[i]? = some x → rrOkR x = true := fun i w h => by have := fau; simp only [listOk, Bool.and_eq_true, List.all_eq_true] at this; exact this.2 w (List.mem_of_getElem? h)
  have hrkm : ∀ (i : Nat) x, m.mo[i]? = some x → rrOkR x = true := fun i w h => by have := fmo; simp only [listOk, Bool.and_eq_true, List.all_eq_true] at this; exact this.2 w (List.mem_of_getElem? h)
  refine (fun (tail : True ∧ (?T : Prop)) => ?main) ?tl
  case main =>
    cbv
    repeat' (first | (intro; cbv) | (with_reducible refine and_side ?_ ?_; rotate_left; try cbv) | (refine ChkP.mk (by decide +kernel) ?_; cbv) | (refine br_intro ?_ ?_ <;> intro <;> cbv) | (refine get_at har (by assumption) (by assumption) (by assumption) (by assumption) ?_; cbv) | (refine get_lt har (by assumption) (by assumption) (by assumption) ?_; intro x xx hx hxx; cbv) | (refine get_atN har (by assumption) (by assumption) (by assumption) (by assumption) ?_; cbv) | (refine get_ltN har (by assumption) (by assumption) (by assumption) ?_; intro x xx hx hxx; cbv) | (refine get_atI har (by assumption) (by assumption) (by decide) ?_; cbv) | (refine get_twoA har (by assumption) (by assumption) (by decide) ?_; intro x hx; cbv) | (refine get_twoB har (by assumption) (by assumption) (by decide) ?_; intro x hx; cbv) | (refine bytes_intro (by assumption) ?_; cbv) | (exact side_lt har (by assumption) (by assumption)) | (exact side_inb har (by assumption) (by assumption) (by assumption)) | (exact side_sh har (by decide)) | (exact side_app har (by assumption) (by assumption) (by omega)) | (exact side_app0 har (by assumption) (by omega)) | (exact side_new har (by assumption) (by omega)) | (exact side_one har (by assumption) (by omega)) | (exact side_oneN har (by assumption) (by omega)) | (exact side_flat har (by assumption)) | (exact side_sbig har (by omega)) | (refine side_sbig har ?_; simp; done) | (exact side_oneI har (by assumption) (by omega)) | (refine side_ix har ?_; simp; done) | (refine side_ix har ?_; simp; omega))
    all_goals
      rename_i hbig
      refine LoopP.mk (List UInt8 × List (List T) × List Int × List (List T) × Int) [1, 2, 4, 50, 51, 52] [] (fun x => ⟨[(1, .one (.ptr 16 0)), (2, .one .nil), (4, .one (.row 17 0)), (50, .one (.row 18 0)), (51, .one (.t (.int .i64 (ar.len x.2.2.2.1)))), (52, .one (.t (.int .i64 x.2.2.2.2)))], [(16, .box [.t (.int .i64 m.id), .t (.bool m.reply), .t (.int .i64 m.op), .t (.bool m.auth), .t (.int .i64 m.code), .t (.sl qss), .t (.sl ans), .t (.sl aus), .t (.sl mos), .t (.sl prs), .t (.sl ups)] false), (17, .row 1 x.2.1 0 [0] false), (18, .row 1 x.2.2.2.1 0 [0] false)]⟩)
        (fun x => encB x.1 = x.2.1 ∧ encI x.2.2.1 = x.2.2.2.1 ∧ x.2.2.1.length = 6 ∧ 0 ≤ x.2.2.2.2 ∧ x.2.2.2.2.toNat ≤ 6 ∧ x.1.length = 2 * x.2.2.2.2.toNat) (fun x => 6 - x.2.2.2.2.toNat) ([], [], sixI hbig, bigL hbig, 0) ?_ ?_ ?_
      · kernel_rfl
      · exact ⟨rfl, rfl, rfl, Int.le_refl _, Nat.zero_le _, rfl⟩
      · with_reducible exact tail.2
  case tl =>
    refine ⟨trivial, ?_⟩
    intro x hx
    obtain ⟨b, bs, nu, es, i⟩ := x
    have hb : encB b = bs := hx.1
    have hnu : encI nu = es := hx.2.1
    have hn6 : nu.length = 6 := hx.2.2.1
    have hi0 : 0 ≤ i := hx.2.2.2.1
    have hi6 : i.toNat ≤ 6 := hx.2.2.2.2.1
    have hbl : b.length = 2 * i.toNat := hx.2.2.2.2.2
    clear hx
    cbv
    repeat' (first | (intro; cbv) | (with_reducible refine and_side ?_ ?_; rotate_left; try cbv) | (refine ChkP.mk (by decide +kernel) ?_; cbv) | (refine br_intro ?_ ?_ <;> intro <;> cbv) | (refine get_at har (by assumption) (by assumption) (by assumption) (by assumption) ?_; cbv) | (refine get_lt har (by assumption) (by assumption) (by assumption) ?_; intro x xx hx hxx; cbv) | (refine get_atN har (by assumption) (by assumption) (by assumption) (by assumption) ?_; cbv) | (refine get_ltN har (by assumption) (by assumption) (by assumption) ?_; intro x xx hx hxx; cbv) | (refine get_atI har (by assumption) (by assumption) (by decide) ?_; cbv) | (refine get_twoA har (by assumption) (by assumption) (by decide) ?_; intro x hx; cbv) | (refine get_twoB har (by assumption) (by assumption) (by decide) ?_; intro x hx; cbv) | (refine bytes_intro (by assumption) ?_; cbv) | (exact side_lt har (by assumption) (by assumption)) | (exact side_inb har (by assumption) (by assumption) (by assumption)) | (exact side_sh har (by decide)) | (exact side_app har (by assumption) (by assumption) (by omega)) | (exact side_app0 har (by assumption) (by omega)) | (exact side_new har (by assumption) (by omega)) | (exact side_one har (by assumption) (by omega)) | (exact side_oneN har (by assumption) (by omega)) | (exact side_flat har (by assumption)) | (exact side_sbig har (by omega)) | (refine side_sbig har ?_; simp; done) | (exact side_oneI har (by assumption) (by omega)) | (refine side_ix har ?_; simp; done) | (refine side_ix har ?_; simp; omega) | (refine get_ltI har (by assumption) (by assumption) (by assumption) ?_; intro v hv; cbv) | (refine call_intro (iTwo hP) ?_; rintro r ob ⟨rfl, rfl⟩; generalize htw : encB (twoB _) = tw; cbv) | (refine calld_intro (iTwo hP) ?_; generalize htw : encB (twoB _) = tw; cbv))
    case refine_1.refine_2.refine_2.refine_1 => exact side_app har hb htw (by have := twoB_len1 v; have := (List.getElem?_eq_some_iff.1 hv).1; omega)
    case refine_1.refine_2.refine_2.refine_2 =>
      have hlt := (List.getElem?_eq_some_iff.1 hv).1
      have hi : ar.iop .add .i64 i 1 = i + 1 := add_std har (by omega) (by omega)
      refine ⟨(b ++ twoB v, ar.app bs tw, nu, es, i + 1), by rw [← hi]; kernel_rfl, ⟨by subst har; rw [← hb, ← htw]; simp [encB, std], hnu, hn6, by dsimp only; omega, by dsimp only; omega, by dsimp only; rw [List.length_append, twoB_len1]; omega⟩, by dsimp only; omega⟩
    have hend := ge_len har (by assumption) hi0
    rw [encI_len hnu, hn6] at hend
    repeat' (first | (intro; cbv) | (with_reducible refine and_side ?_ ?_; rotate_left; try cbv) | (refine ChkP.mk (by decide +kernel) ?_; cbv) | (refine br_intro ?_ ?_ <;> intro <;> cbv) | (refine get_at har (by assumption) (by assumption) (by assumption) (by assumption) ?_; cbv) | (refine get_lt har (by assumption) (by assumption) (by assumption) ?_; intro x xx hx hxx; cbv) | (refine get_atN har (by assumption) (by assumption) (by assumption) (by assumption) ?_; cbv) | (refine get_ltN har (by assumption) (by assumption) (by assumption) ?_; intro x xx hx hxx; cbv) | (refine get_atI har (by assumption) (by assumption) (by decide) ?_; cbv) | (refine get_twoA har (by assumption) (by assumption) (by decide) ?_; intro x hx; cbv) | (refine get_twoB har (by assumption) (by assumption) (by decide) ?_; intro x hx; cbv) | (refine bytes_intro (by assumption) ?_; cbv) | (exact side_lt har (by assumption) (by assumption)) | (exact side_inb har (by assumption) (by assumption) (by assumption)) | (exact side_sh har (by decide)) | (exact side_app har (by assumption) (by assumption) (by omega)) | (exact side_app0 har (by assumption) (by omega)) | (exact side_new har (by assumption) (by omega)) | (exact side_one har (by assumption) (by omega)) | (exact side_oneN har (by assumption) (by omega)) | (exact side_flat har (by assumption)) | (exact side_sbig har (by omega)) | (refine side_sbig har ?_; simp; done) | (exact side_oneI har (by assumption) (by omega)) | (refine side_ix har ?_; simp; done) | (refine side_ix har ?_; simp; omega) | (refine get_qst har (by assumption) (one_q har (by assumption) (by assumption)) ?_; intro q qns hqq hqn; cbv) | (refine call_intro (iWire hP (by assumption) (hqr _ (by assumption)).1) ?_; rintro r ob ⟨rfl, rfl⟩; generalize hwr : encB (wireN _) = wr; cbv) | (refine calld_intro (iWire hP (by assumption) (hqr _ (by assumption)).1) ?_; generalize hwr : encB (wireN _) = wr; cbv) | (refine call_intro (iTwo hP) ?_; rintro r ob ⟨rfl, rfl⟩; generalize htw : encB (twoB _) = tw; cbv) | (refine calld_intro (iTwo hP) ?_; generalize htw : encB (twoB _) = tw; cbv))
    rename_i q1 qns1 hqq1 hqn1 tw1 htw1
    obtain ⟨hq1, hq2, hq3⟩ := hqr _ hqq1
    refine calld_intro (iConcat hP (cat4_e hb hwr htw1 htw) (by simp) (cat4_b (by omega) (by omega) (by rw [twoB_len1]; omega) (by rw [twoB_len1]; omega))) ?_
    generalize hcat : encB (catB _) = cat1
    obtain ⟨cb, hcb, hcl⟩ := cat4_l hcat
    clear hcat
    cbv
    repeat' (first | (intro; cbv) | (with_reducible refine and_side ?_ ?_; rotate_left; try cbv) | (refine ChkP.mk (by decide +kernel) ?_; cbv) | (refine br_intro ?_ ?_ <;> intro <;> cbv) | (refine get_at har (by assumption) (by assumption) (by assumption) (by assumption) ?_; cbv) | (refine get_lt har (by assumption) (by assumption) (by assumption) ?_; intro x xx hx hxx; cbv) | (refine get_atN har (by assumption) (by assumption) (by assumption) (by assumption) ?_; cbv) | (refine get_ltN har (by assumption) (by assumption) (by assumption) ?_; intro x xx hx hxx; cbv) | (refine get_atI har (by assumption) (by assumption) (by decide) ?_; cbv) | (refine get_twoA har (by assumption) (by assumption) (by decide) ?_; intro x hx; cbv) | (refine get_twoB har (by assumption) (by assumption) (by decide) ?_; intro x hx; cbv) | (refine bytes_intro (by assumption) ?_; cbv) | (exact side_lt har (by assumption) (by assumption)) | (exact side_inb har (by assumption) (by assumption) (by assumption)) | (exact side_sh har (by decide)) | (exact side_app har (by assumption) (by assumption) (by omega)) | (exact side_app0 har (by assumption) (by omega)) | (exact side_new har (by assumption) (by omega)) | (exact side_one har (by assumption) (by omega)) | (exact side_oneN har (by assumption) (by omega)) | (exact side_flat har (by assumption)) | (exact side_sbig har (by omega)) | (refine side_sbig har ?_; simp; done) | (exact side_oneI har (by assumption) (by omega)) | (refine side_ix har ?_; simp; done) | (refine side_ix har ?_; simp; omega))
    have hcl2 : cb.length = 16 + (m.qs.map fun q => (wireN q.n).length).sum := by rw [hcl, twoB_len1, twoB_len1]; omega
    have hN2 : 16 + (m.qs.map fun q => (wireN q.n).length).sum ≤ 300 := by omega
    clear hcl hq1 hq2 hq3 hwr htw htw1 hqq hqn hqq1 hqn1 hb hnu hbl
    generalize hN : 16 + (m.qs.map fun q => (wireN q.n).length).sum = N at hcl2 hN2
    have hsp := sumW_le hpk (listOk_len fpr) 12
    have hsu := sumW_le huk (listOk_len fup) 12
    rw [take_allW (listOk_len fpr)] at hsp
    rw [take_allW (listOk_len fup)] at hsu
    refine LoopP.mk (List UInt8 × List (List T) × Int) [1, 2, 4, 81, 82, 83] [] (fun x => ⟨[(1, .one (.ptr 16 0)), (2, .one .nil), (4, .one (.row 17 0)), (81, .one (.row 18 0)), (82, .one (.t (.int .i64 (ar.len [[.sl prs], [.sl ups]])))), (83, .one (.t (.int .i64 x.2.2)))], [(16, .box [.t (.int .i64 m.id), .t (.bool m.reply), .t (.int .i64 m.op), .t (.bool m.auth), .t (.int .i64 m.code), .t (.sl qss), .t (.sl ans), .t (.sl aus), .t (.sl mos), .t (.sl prs), .t (.sl ups)] false), (17, .row 1 x.2.1 0 [0] false), (18, .row 1 [[.sl prs], [.sl ups]] 0 [0] false)]⟩)
      (fun x => encB x.1 = x.2.1 ∧ 0 ≤ x.2.2 ∧ x.2.2.toNat ≤ 2 ∧ x.1.length = N + (([m.pr, m.up].take x.2.2.toNat).map sumW).sum) (fun x => 2 - x.2.2.toNat) (cb, cat1, 0) ?e2 ?f2 ?g2
    case e2 => kernel_rfl
    case f2 => exact ⟨hcb, Int.le_refl _, Nat.zero_le _, by simpa using hcl2⟩
    case g2 =>
      intro x hx
      obtain ⟨b, bs, i⟩ := x
      have hb : encB b = bs := hx.1
      have hi0 : 0 ≤ i := hx.2.1
      have hi2 : i.toNat ≤ 2 := hx.2.2.1
      have hbl : b.length = N + (([m.pr, m.up].take i.toNat).map sumW).sum := hx.2.2.2
      clear hx
      have hs2 : (([m.pr, m.up].take i.toNat).map sumW).sum ≤ 10080 := by
        match hj : i.toNat, hi2 with
        | 0, _ => simp
        | 1, _ => simp; omega
        | 2, _ => simp; omega
      have hww : encWW [m.pr, m.up] = [[.sl prs], [.sl ups]] := by rw [← hp, ← hup]; rfl
      generalize hwe : [[T.sl prs], [T.sl ups]] = we at hww
      cbv
      repeat' (first | (intro; cbv) | (with_reducible refine and_side ?_ ?_; rotate_left; try cbv) | (refine ChkP.mk (by decide +kernel) ?_; cbv) | (refine br_intro ?_ ?_ <;> intro <;> cbv) | (refine get_at har (by assumption) (by assumption) (by assumption) (by assumption) ?_; cbv) | (refine get_lt har (by assumption) (by assumption) (by assumption) ?_; intro x xx hx hxx; cbv) | (refine get_atN har (by assumption) (by assumption) (by assumption) (by assumption) ?_; cbv) | (refine get_ltN har (by assumption) (by assumption) (by assumption) ?_; intro x xx hx hxx; cbv) | (refine get_atI har (by assumption) (by assumption) (by decide) ?_; cbv) | (refine get_twoA har (by assumption) (by assumption) (by decide) ?_; intro x hx; cbv) | (refine get_twoB har (by assumption) (by assumption) (by decide) ?_; intro x hx; cbv) | (refine bytes_intro (by assumption) ?_; cbv) | (exact side_lt har (by assumption) (by assumption)) | (exact side_inb har (by assumption) (by assumption) (by assumption)) | (exact side_sh har (by decide)) | (exact side_app har (by assumption) (by assumption) (by omega)) | (exact side_app0 har (by assumption) (by omega)) | (exact side_new har (by assumption) (by omega)) | (exact side_one har (by assumption) (by omega)) | (exact side_oneN har (by assumption) (by omega)) | (exact side_flat har (by assumption)) | (exact side_sbig har (by omega)) | (refine side_sbig har ?_; simp; done) | (exact side_oneI har (by assumption) (by omega)) | (refine side_ix har ?_; simp; done) | (refine side_ix har ?_; simp; omega) | (refine get_ltWW har (by assumption) (by assumption) (by assumption) ?_; intro wl wls hwl hwls; cbv))
      case refine_1.refine_2 =>
        have hwok : ∀ (j : Nat) w, wl[j]? = some w → wantOk w = true := by
          rcases two_i hi2 hwl with ⟨_, rfl⟩ | ⟨_, rfl⟩
          · exact hpk
          · exact huk
        have hwl12 : wl.length ≤ 12 := by
          rcases two_i hi2 hwl with ⟨_, rfl⟩ | ⟨_, rfl⟩
          · exact listOk_len fpr
          · exact listOk_len fup
        refine LoopP.mk (List UInt8 × List (List T) × Int) [1, 2, 4, 81, 82, 83, 87, 88, 89] [] (fun x => ⟨[(1, .one (.ptr 16 0)), (2, .one .nil), (4, .one (.row 17 0)), (81, .one (.row 18 0)), (82, .one (.t (.int .i64 (ar.len we)))), (83, .one (.t (.int .i64 i))), (87, .one (.t (.sl wls))), (88, .one (.t (.int .i64 (ar.len wls)))), (89, .one (.t (.int .i64 x.2.2)))], [(16, .box [.t (.int .i64 m.id), .t (.bool m.reply), .t (.int .i64 m.op), .t (.bool m.auth), .t (.int .i64 m.code), .t (.sl qss), .t (.sl ans), .t (.sl aus), .t (.sl mos), .t (.sl prs), .t (.sl ups)] false), (17, .row 1 x.2.1 0 [0] false), (18, .row 1 we 0 [0] false)]⟩)
          (fun x => encB x.1 = x.2.1 ∧ 0 ≤ x.2.2 ∧ x.1.length = b.length + sumW (wl.take x.2.2.toNat)) (fun x => wl.length - x.2.2.toNat) (b, bs, 0) ?e3 ?f3 ?g3
        case e3 => kernel_rfl
        case f3 => exact ⟨hb, Int.le_refl _, rfl⟩
        case g3 =>
          intro x hx
          obtain ⟨b1, bs1, j⟩ := x
          have hb1 : encB b1 = bs1 := hx.1
          have hj0 : 0 ≤ j := hx.2.1
          have hbl1 : b1.length = b.length + sumW (wl.take j.toNat) := hx.2.2
          clear hx
          cbv
          repeat' (first | (intro; cbv) | (with_reducible refine and_side ?_ ?_; rotate_left; try cbv) | (refine ChkP.mk (by decide +kernel) ?_; cbv) | (refine br_intro ?_ ?_ <;> intro <;> cbv) | (refine get_at har (by assumption) (by assumption) (by assumption) (by assumption) ?_; cbv) | (refine get_lt har (by assumption) (by assumption) (by assumption) ?_; intro x xx hx hxx; cbv) | (refine get_atN har (by assumption) (by assumption) (by assumption) (by assumption) ?_; cbv) | (refine get_ltN har (by assumption) (by assumption) (by assumption) ?_; intro x xx hx hxx; cbv) | (refine get_atI har (by assumption) (by assumption) (by decide) ?_; cbv) | (refine get_twoA har (by assumption) (by assumption) (by decide) ?_; intro x hx; cbv) | (refine get_twoB har (by assumption) (by assumption) (by decide) ?_; intro x hx; cbv) | (refine bytes_intro (by assumption) ?_; cbv) | (exact side_lt har (by assumption) (by assumption)) | (exact side_inb har (by assumption) (by assumption) (by assumption)) | (exact side_sh har (by decide)) | (exact side_app har (by assumption) (by assumption) (by omega)) | (exact side_app0 har (by assumption) (by omega)) | (exact side_new har (by assumption) (by omega)) | (exact side_one har (by assumption) (by omega)) | (exact side_oneN har (by assumption) (by omega)) | (exact side_flat har (by assumption)) | (exact side_sbig har (by omega)) | (refine side_sbig har ?_; simp; done) | (exact side_oneI har (by assumption) (by omega)) | (refine side_ix har ?_; simp; done) | (refine side_ix har ?_; simp; omega) | (refine get_ltW har (by assumption) (by assumption) (by assumption) ?_; intro w wns wtos wtxs wnus hw hwn hwto hwtx hwnu; cbv) | (refine call_intro (iWantWire hP (by assumption) (by assumption) (by assumption) (by assumption) (hwok _ _ (by assumption))) ?_; rintro r ob ⟨lw, lws, hlw, hlwl, rfl, rfl⟩; cbv))
          case refine_1.refine_2.refine_1 => exact side_app har hb1 hlw (by have := want_len (hwok _ _ hw); have := sumW_le hwok hwl12 j.toNat; omega)
          case refine_1.refine_2.refine_2 =>
            have hlt := (List.getElem?_eq_some_iff.1 hw).1
            have hi : ar.iop .add .i64 j 1 = j + 1 := add_std har (by omega) (by omega)
            have hs : sumW (wl.take (j + 1).toNat) = sumW (wl.take j.toNat) + wantLen w := by rw [show (j + 1).toNat = j.toNat + 1 by omega]; exact sumW_succ hw
            refine ⟨(b1 ++ lw, ar.app bs1 lws, j + 1), by rw [← hi]; kernel_rfl, ⟨by subst har; rw [← hb1, ← hlw]; simp [encB, std], by dsimp only; omega, by dsimp only; rw [List.length_append]; omega⟩, by dsimp only; omega⟩
          have hend := ge_len har (by assumption) hj0
          rw [encW_len hwls] at hend
          rw [take_allW hend] at hbl1
          have hlt := (List.getElem?_eq_some_iff.1 hwl).1
          have hi : ar.iop .add .i64 i 1 = i + 1 := add_std har (by omega) (by omega)
          have hs : (([m.pr, m.up].take (i + 1).toNat).map sumW).sum = (([m.pr, m.up].take i.toNat).map sumW).sum + sumW wl := by
            rw [show (i + 1).toNat = i.toNat + 1 by omega, List.take_add_one, hwl]; simp
          refine ⟨(b1, bs1, i + 1), by rw [← hi]; kernel_rfl, ⟨hb1, by dsimp only; omega, by dsimp only; simp only [List.length_cons, List.length_nil] at hlt; omega, by dsimp only; omega⟩, by dsimp only; simp only [List.length_cons, List.length_nil] at hlt; omega⟩
      have hend := ge_len har (by assumption) hi0
      have hwl2 : we.length = 2 := by rw [← hww]; rfl
      have hi2e : i.toNat = 2 := by omega
      have hbl2 : b.length = N + sumW m.pr + sumW m.up := by rw [hbl, hi2e]; simp; omega
      clear hbl hend
      repeat' (first | (intro; cbv) | (with_reducible refine and_side ?_ ?_; rotate_left; try cbv) | (refine ChkP.mk (by decide +kernel) ?_; cbv) | (refine br_intro ?_ ?_ <;> intro <;> cbv) | (refine get_at har (by assumption) (by assumption) (by assumption) (by assumption) ?_; cbv) | (refine get_lt har (by assumption) (by assumption) (by assumption) ?_; intro x xx hx hxx; cbv) | (refine get_atN har (by assumption) (by assumption) (by assumption) (by assumption) ?_; cbv) | (refine get_ltN har (by assumption) (by assumption) (by assumption) ?_; intro x xx hx hxx; cbv) | (refine get_atI har (by assumption) (by assumption) (by decide) ?_; cbv) | (refine get_twoA har (by assumption) (by assumption) (by decide) ?_; intro x hx; cbv) | (refine get_twoB har (by assumption) (by assumption) (by decide) ?_; intro x hx; cbv) | (refine bytes_intro (by assumption) ?_; cbv) | (exact side_lt har (by assumption) (by assumption)) | (exact side_inb har (by assumption) (by assumption) (by assumption)) | (exact side_sh har (by decide)) | (exact side_app har (by assumption) (by assumption) (by omega)) | (exact side_app0 har (by assumption) (by omega)) | (exact side_new har (by assumption) (by omega)) | (exact side_one har (by assumption) (by omega)) | (exact side_oneN har (by assumption) (by omega)) | (exact side_flat har (by assumption)) | (exact side_sbig har (by omega)) | (refine side_sbig har ?_; simp; done) | (exact side_oneI har (by assumption) (by omega)) | (refine side_ix har ?_; simp; done) | (refine side_ix har ?_; simp; omega))
      refine loop_start [81, 82, 83, 84] [] ?_
      cbv
      refine LoopR.mk (List UInt8 × List (List T) × Int) (fun x => ([(107, .one (.t (.int .i64 x.2.2)))], [(17, .row 1 x.2.1 0 [0] false)]))
        (fun x => encB x.1 = x.2.1 ∧ 0 ≤ x.2.2 ∧ x.2.2.toNat ≤ 3 ∧ x.1.length = N + sumW m.pr + sumW m.up + (([m.an, m.au, m.mo].take x.2.2.toNat).map sumR).sum) (fun x => 3 - x.2.2.toNat) (b, bs, 0) ?e4 ?f4 ?g4
      case e4 => kernel_rfl
      case f4 => exact ⟨hb, Int.le_refl _, Nat.zero_le _, by simpa using hbl2⟩
      case g4 =>
        clear hb hi0 hi2 hs2 hwl2 hi2e hbl2
        intro x hx
        obtain ⟨b, bs, i⟩ := x
        have hb : encB b = bs := hx.1
        have hi0 : 0 ≤ i := hx.2.1
        have hi3 : i.toNat ≤ 3 := hx.2.2.1
        have hbl : b.length = N + sumW m.pr + sumW m.up + (([m.an, m.au, m.mo].take i.toNat).map sumR).sum := hx.2.2.2
        clear hx
        have hs3 : (([m.an, m.au, m.mo].take i.toNat).map sumR).sum ≤ 50000 := by
          have h1 := sumR_le hrka (by have := listOk_len fan; omega) 12
          have h2 := sumR_le hrku (by have := listOk_len fau; omega) 12
          have h3 := sumR_le hrkm (by have := listOk_len fmo; omega) 12
          rw [take_allW (listOk_len fan)] at h1
          rw [take_allW (listOk_len fau)] at h2
          rw [take_allW (listOk_len fmo)] at h3
          match hj : i.toNat, hi3 with
          | 0, _ => simp
          | 1, _ => simp; omega
          | 2, _ => simp; omega
          | 3, _ => simp; omega
        have hrr : encRR [m.an, m.au, m.mo] = [[.sl ans], [.sl aus], [.sl mos]] := by rw [← ha, ← hu, ← ho]; rfl
        generalize hre : [[T.sl ans], [T.sl aus], [T.sl mos]] = re at hrr
        cbv
        repeat' (first | (intro; cbv) | (with_reducible refine and_side ?_ ?_; rotate_left; try cbv) | (refine ChkP.mk (by decide +kernel) ?_; cbv) | (refine br_intro ?_ ?_ <;> intro <;> cbv) | (refine get_at har (by assumption) (by assumption) (by assumption) (by assumption) ?_; cbv) | (refine get_lt har (by assumption) (by assumption) (by assumption) ?_; intro x xx hx hxx; cbv) | (refine get_atN har (by assumption) (by assumption) (by assumption) (by assumption) ?_; cbv) | (refine get_ltN har (by assumption) (by assumption) (by assumption) ?_; intro x xx hx hxx; cbv) | (refine get_atI har (by assumption) (by assumption) (by decide) ?_; cbv) | (refine get_twoA har (by assumption) (by assumption) (by decide) ?_; intro x hx; cbv) | (refine get_twoB har (by assumption) (by assumption) (by decide) ?_; intro x hx; cbv) | (refine bytes_intro (by assumption) ?_; cbv) | (exact side_lt har (by assumption) (by assumption)) | (exact side_inb har (by assumption) (by assumption) (by assumption)) | (exact side_sh har (by decide)) | (exact side_app har (by assumption) (by assumption) (by omega)) | (exact side_app0 har (by assumption) (by omega)) | (exact side_new har (by assumption) (by omega)) | (exact side_one har (by assumption) (by omega)) | (exact side_oneN har (by assumption) (by omega)) | (exact side_flat har (by assumption)) | (exact side_sbig har (by omega)) | (refine side_sbig har ?_; simp; done) | (exact side_oneI har (by assumption) (by omega)) | (refine side_ix har ?_; simp; done) | (refine side_ix har ?_; simp; omega) | (refine get_ltRR har (by assumption) (by assumption) (by assumption) ?_; intro rl rls hrl hrls; cbv))
        case refine_1.refine_2 =>
          have hrok : ∀ (j : Nat) r, rl[j]? = some r → rrOkR r = true := by
            rcases three_i hi3 hrl with ⟨_, rfl⟩ | ⟨_, rfl⟩ | ⟨_, rfl⟩
            · exact hrka
            · exact hrku
            · exact hrkm
          have hrl12 : rl.length ≤ 12 := by
            rcases three_i hi3 hrl with ⟨_, rfl⟩ | ⟨_, rfl⟩ | ⟨_, rfl⟩
            · exact listOk_len fan
            · exact listOk_len fau
            · exact listOk_len fmo
          refine loop_start [] [] ?_
          cbv
          refine LoopR.mk (List UInt8 × List (List T) × Int) (fun x => ([(113, .one (.t (.int .i64 x.2.2)))], [(17, .row 1 x.2.1 0 [0] false)]))
            (fun x => encB x.1 = x.2.1 ∧ 0 ≤ x.2.2 ∧ x.1.length = b.length + sumR (rl.take x.2.2.toNat)) (fun x => rl.length - x.2.2.toNat) (b, bs, 0) ?e5 ?f5 ?g5
          case e5 => kernel_rfl
          case f5 => exact ⟨hb, Int.le_refl _, rfl⟩
          case g5 =>
            intro x hx
            obtain ⟨b1, bs1, j⟩ := x
            have hb1 : encB b1 = bs1 := hx.1
            have hj0 : 0 ≤ j := hx.2.1
            have hbl1 : b1.length = b.length + sumR (rl.take j.toNat) := hx.2.2
            clear hx
            cbv
            repeat' (first | (intro; cbv) | (with_reducible refine and_side ?_ ?_; rotate_left; try cbv) | (refine ChkP.mk (by decide +kernel) ?_; cbv) | (refine br_intro ?_ ?_ <;> intro <;> cbv) | (refine get_at har (by assumption) (by assumption) (by assumption) (by assumption) ?_; cbv) | (refine get_lt har (by assumption) (by assumption) (by assumption) ?_; intro x xx hx hxx; cbv) | (refine get_atN har (by assumption) (by assumption) (by assumption) (by assumption) ?_; cbv) | (refine get_ltN har (by assumption) (by assumption) (by assumption) ?_; intro x xx hx hxx; cbv) | (refine get_atI har (by assumption) (by assumption) (by decide) ?_; cbv) | (refine get_twoA har (by assumption) (by assumption) (by decide) ?_; intro x hx; cbv) | (refine get_twoB har (by assumption) (by assumption) (by decide) ?_; intro x hx; cbv) | (refine bytes_intro (by assumption) ?_; cbv) | (exact side_lt har (by assumption) (by assumption)) | (exact side_inb har (by assumption) (by assumption) (by assumption)) | (exact side_sh har (by decide)) | (exact side_app har (by assumption) (by assumption) (by omega)) | (exact side_app0 har (by assumption) (by omega)) | (exact side_new har (by assumption) (by omega)) | (exact side_one har (by assumption) (by omega)) | (exact side_oneN har (by assumption) (by omega)) | (exact side_flat har (by assumption)) | (exact side_sbig har (by omega)) | (refine side_sbig har ?_; simp; done) | (exact side_oneI har (by assumption) (by omega)) | (refine side_ix har ?_; simp; done) | (refine side_ix har ?_; simp; omega) | (refine get_ltR har (by assumption) (by assumption) (by assumption) ?_; intro r rns rtos rtxs rnus hr hrn hrto hrtx hrnu; cbv) | (refine call_intro (iRrWire3 hP (by assumption) (by assumption) (by assumption) (by assumption) (hrok _ _ (by assumption))) ?_; rintro r ob ⟨rw1, rws, hrw, hrwl, rfl, rfl⟩; cbv))
            case refine_1.refine_2.refine_1 => exact side_app har hb1 hrw (by have := rr_len (hrok _ _ hr); have := sumR_le hrok (by omega) j.toNat; omega)
            case refine_1.refine_2.refine_2 =>
              have hlt := (List.getElem?_eq_some_iff.1 hr).1
              have hi : ar.iop .add .i64 j 1 = j + 1 := add_std har (by omega) (by omega)
              have hs : sumR (rl.take (j + 1).toNat) = sumR (rl.take j.toNat) + recLen r := by rw [show (j + 1).toNat = j.toNat + 1 by omega]; exact sumR_succ hr
              refine ⟨(b1 ++ rw1, ar.app bs1 rws, j + 1), by rw [← hi]; kernel_rfl, ⟨by subst har; rw [← hb1, ← hrw]; simp [encB, std], by dsimp only; omega, by dsimp only; rw [List.length_append]; omega⟩, by dsimp only; omega⟩
            have hend := ge_len har (by assumption) hj0
            rw [encR_len hrls] at hend
            rw [take_allW hend] at hbl1
            have hlt := (List.getElem?_eq_some_iff.1 hrl).1
            have hi : ar.iop .add .i64 i 1 = i + 1 := add_std har (by omega) (by omega)
            have hs : (([m.an, m.au, m.mo].take (i + 1).toNat).map sumR).sum = (([m.an, m.au, m.mo].take i.toNat).map sumR).sum + sumR rl := by
              rw [show (i + 1).toNat = i.toNat + 1 by omega, List.take_add_one, hrl]; simp
            refine ⟨(b1, bs1, i + 1), by rw [← hi]; kernel_rfl, ⟨hb1, by dsimp only; omega, by dsimp only; simp only [List.length_cons, List.length_nil] at hlt; omega, by dsimp only; omega⟩, by dsimp only; simp only [List.length_cons, List.length_nil] at hlt; omega⟩
        case refine_2 => 
          have hend := ge_len har (by assumption) hi0
          have hrl2 : re.length = 3 := by rw [← hrr]; rfl
          have hi2e : i.toNat = 3 := by omega
          refine hk b bs hb ?_
          rw [hbl, hi2e]
          simp only [mesLen, ← hN]
          simp [sumR]
          try omega
end Go.TL.Tryz

/- TfMoG -/
namespace Go.TL.Tryz
open Go Go.TL Go.Proofs
set_option maxRecDepth 20000
variable {P : Program}
def msgOk (m : Mes) : Bool := mayB m && decide (mesLen m ≤ 512)
theorem len_le512 {ar : Ar} (har : ar = std) {l : List UInt8} {ls : List (List T)} {k : Nat} (h : encB l = ls) (hk : l.length = k) : ar.icmp .leq (ar.len ls) 512 = decide (k ≤ 512) := by
  have := encB_len h
  subst har
  show decide ((ls.length : Int) ≤ 512) = _
  exact decide_eq_decide.2 (by omega)
set_option maxRecDepth 20000 in
theorem fn9 : Tryz.prog.funcs[9]? = some Tryz.f9 := rfl
set_option maxHeartbeats 40000000 in
set_option maxRecDepth 3000 in
theorem sMsgOk (hP : Prg P) {m : Mes} {qss ans aus mos prs ups : List (List T)} (hm : MesA m qss ans aus mos prs ups) : ACall P 9 [.agg [.t (.int .i64 m.id), .t (.bool m.reply), .t (.int .i64 m.op), .t (.bool m.auth), .t (.int .i64 m.code), .t (.sl qss), .t (.sl ans), .t (.sl aus), .t (.sl mos), .t (.sl prs), .t (.sl ups)]] [] (fun r ob => r = .one (.t (.bool (msgOk m))) ∧ ob = []) := by
  obtain ⟨hq, ha, hu, ho, hp, hup⟩ := hm
  refine acall_fn (md := md) [none] v9 hP.mixed hP.tab (fn_at hP fn9) 1 rfl (by decide +kernel) rfl ?_
  intro ar har
  cbv
  repeat' (first | (intro; cbv) | (with_reducible refine and_side ?_ ?_; rotate_left; try cbv) | (refine ChkP.mk (by decide +kernel) ?_; cbv) | (refine br_intro ?_ ?_ <;> intro <;> cbv) | (refine get_at har (by assumption) (by assumption) (by assumption) (by assumption) ?_; cbv) | (refine get_lt har (by assumption) (by assumption) (by assumption) ?_; intro x xx hx hxx; cbv) | (refine get_atN har (by assumption) (by assumption) (by assumption) (by assumption) ?_; cbv) | (refine get_ltN har (by assumption) (by assumption) (by assumption) ?_; intro x xx hx hxx; cbv) | (refine get_atI har (by assumption) (by assumption) (by decide) ?_; cbv) | (refine get_twoA har (by assumption) (by assumption) (by decide) ?_; intro x hx; cbv) | (refine get_twoB har (by assumption) (by assumption) (by decide) ?_; intro x hx; cbv) | (refine bytes_intro (by assumption) ?_; cbv) | (exact side_lt har (by assumption) (by assumption)) | (exact side_inb har (by assumption) (by assumption) (by assumption)) | (exact side_sh har (by decide)) | (exact side_app har (by assumption) (by assumption) (by omega)) | (exact side_app0 har (by assumption) (by omega)) | (exact side_new har (by assumption) (by omega)) | (exact side_one har (by assumption) (by omega)) | (exact side_oneN har (by assumption) (by omega)) | (exact side_flat har (by assumption)) | (exact side_sbig har (by omega)) | (refine side_sbig har ?_; simp; done) | (exact side_oneI har (by assumption) (by omega)) | (refine side_ix har ?_; simp; done) | (refine side_ix har ?_; simp; omega) | (refine call_intro (sMay hP ⟨by assumption, by assumption, by assumption, by assumption, by assumption, by assumption⟩) ?_; rintro r ob ⟨rfl, rfl⟩; generalize hmb : mayB _ = mb; cbv) | (refine calld_intro (sMay hP ⟨by assumption, by assumption, by assumption, by assumption, by assumption, by assumption⟩) ?_; generalize hmb : mayB _ = mb; cbv) | (refine call_intro (sl4bytes hP ⟨by assumption, by assumption, by assumption, by assumption, by assumption, by assumption⟩ (by first | assumption | (rw [hmb]; assumption))) ?_; rintro r ob ⟨lb, lbs, hlb, hlbl, rfl, rfl⟩; cbv))
  · refine ret_b ?_
    have hmb1 : mayB m = true := hmb.trans (by assumption)
    refine (len_le512 har hlb hlbl).trans ?_
    rw [msgOk, hmb1, Bool.true_and]
  · refine ret_b ?_
    have hmb1 : mayB m = false := hmb.trans (by assumption)
    rw [msgOk, hmb1]; rfl
set_option maxRecDepth 20000 in
theorem fn12 : Tryz.prog.funcs[12]? = some Tryz.f12 := rfl
set_option maxHeartbeats 40000000 in
set_option maxRecDepth 3000 in
theorem iMsgOk (hP : Prg P) {m : Mes} {qss ans aus mos prs ups : List (List T)} (hm : MesA m qss ans aus mos prs ups) : ACall P 12 [.agg [.t (.int .i64 m.id), .t (.bool m.reply), .t (.int .i64 m.op), .t (.bool m.auth), .t (.int .i64 m.code), .t (.sl qss), .t (.sl ans), .t (.sl aus), .t (.sl mos), .t (.sl prs), .t (.sl ups)]] [] (fun r ob => r = .one (.t (.bool (msgOk m))) ∧ ob = []) := by
  obtain ⟨hq, ha, hu, ho, hp, hup⟩ := hm
  refine acall_fn (md := md) [none] v12 hP.mixed hP.tab (fn_at hP fn12) 1 rfl (by decide +kernel) rfl ?_
  intro ar har
  cbv
  repeat' (first | (intro; cbv) | (with_reducible refine and_side ?_ ?_; rotate_left; try cbv) | (refine ChkP.mk (by decide +kernel) ?_; cbv) | (refine br_intro ?_ ?_ <;> intro <;> cbv) | (refine get_at har (by assumption) (by assumption) (by assumption) (by assumption) ?_; cbv) | (refine get_lt har (by assumption) (by assumption) (by assumption) ?_; intro x xx hx hxx; cbv) | (refine get_atN har (by assumption) (by assumption) (by assumption) (by assumption) ?_; cbv) | (refine get_ltN har (by assumption) (by assumption) (by assumption) ?_; intro x xx hx hxx; cbv) | (refine get_atI har (by assumption) (by assumption) (by decide) ?_; cbv) | (refine get_twoA har (by assumption) (by assumption) (by decide) ?_; intro x hx; cbv) | (refine get_twoB har (by assumption) (by assumption) (by decide) ?_; intro x hx; cbv) | (refine bytes_intro (by assumption) ?_; cbv) | (exact side_lt har (by assumption) (by assumption)) | (exact side_inb har (by assumption) (by assumption) (by assumption)) | (exact side_sh har (by decide)) | (exact side_app har (by assumption) (by assumption) (by omega)) | (exact side_app0 har (by assumption) (by omega)) | (exact side_new har (by assumption) (by omega)) | (exact side_one har (by assumption) (by omega)) | (exact side_oneN har (by assumption) (by omega)) | (exact side_flat har (by assumption)) | (exact side_sbig har (by omega)) | (refine side_sbig har ?_; simp; done) | (exact side_oneI har (by assumption) (by omega)) | (refine side_ix har ?_; simp; done) | (refine side_ix har ?_; simp; omega) | (refine call_intro (iShaped hP ⟨by assumption, by assumption, by assumption, by assumption, by assumption, by assumption⟩) ?_; rintro r ob ⟨rfl, rfl⟩; generalize hmb : mayB _ = mb; cbv) | (refine calld_intro (iShaped hP ⟨by assumption, by assumption, by assumption, by assumption, by assumption, by assumption⟩) ?_; generalize hmb : mayB _ = mb; cbv) | (refine call_intro (iMsgWire hP ⟨by assumption, by assumption, by assumption, by assumption, by assumption, by assumption⟩ (by first | assumption | (rw [hmb]; assumption))) ?_; rintro r ob ⟨lb, lbs, hlb, hlbl, rfl, rfl⟩; cbv))
  · refine ret_b ?_
    have hmb1 : mayB m = true := hmb.trans (by assumption)
    refine (len_le512 har hlb hlbl).trans ?_
    rw [msgOk, hmb1, Bool.true_and]
  · refine ret_b ?_
    have hmb1 : mayB m = false := hmb.trans (by assumption)
    rw [msgOk, hmb1]; rfl
/-- A reply, and what is replied to a message that may be none. -/
def repM (m : Mes) (code : Int) : Mes := ⟨m.id, true, m.op, false, code, m.qs, [], [], [], [], []⟩
def noM : Mes := ⟨0, false, 0, false, 0, [], [], [], [], [], []⟩
def replyTo (m : Mes) (code : Int) : Mes := if msgOk m && withinB code 0 10 then repM m code else noM
theorem get_lit0 {ar : Ar} (har : ar = std) {e : List T} {K : List T → Prop} (k : K e) : GetP ar [e] 0 K := by subst har; exact ⟨⟨Int.le_refl _, by simp⟩, k⟩
set_option maxRecDepth 20000 in
theorem fn33 : Tryz.prog.funcs[33]? = some Tryz.f33 := rfl
set_option maxHeartbeats 40000000 in
set_option maxRecDepth 3000 in
theorem iReply (hP : Prg P) {m : Mes} {qss ans aus mos prs ups : List (List T)} {code : Int} (hm : MesA m qss ans aus mos prs ups) {q : Qst} (hq1 : m.qs = [q]) (hnb : NmB q.n) : ACall P 33 [.agg [.t (.int .i64 m.id), .t (.bool m.reply), .t (.int .i64 m.op), .t (.bool m.auth), .t (.int .i64 m.code), .t (.sl qss), .t (.sl ans), .t (.sl aus), .t (.sl mos), .t (.sl prs), .t (.sl ups)], .one (.t (.int .i64 code))] []
    (fun r ob => r = .agg [.t (.int .i64 m.id), .t (.bool true), .t (.int .i64 m.op), .t (.bool false), .t (.int .i64 code), .t (.sl qss), .t (.sl []), .t (.sl []), .t (.sl []), .t (.sl []), .t (.sl [])] ∧ ob = []) := by
  obtain ⟨hq, ha, hu, ho, hp, hup⟩ := hm
  obtain ⟨qns, hqn⟩ : ∃ qns, encN q.n = qns := ⟨_, rfl⟩
  have hqe : qss = [[.sl qns, .int .i64 q.t]] := by rw [← hq, hq1, ← hqn]; rfl
  subst hqe
  refine acall_fn (md := md) [none] v33 hP.mixed hP.tab (fn_at hP fn33) 2 rfl (by decide +kernel) rfl ?_
  intro ar har
  cbv
  repeat' (first | (intro; cbv) | (with_reducible refine and_side ?_ ?_; rotate_left; try cbv) | (refine ChkP.mk (by decide +kernel) ?_; cbv) | (refine br_intro ?_ ?_ <;> intro <;> cbv) | (refine get_at har (by assumption) (by assumption) (by assumption) (by assumption) ?_; cbv) | (refine get_lt har (by assumption) (by assumption) (by assumption) ?_; intro x xx hx hxx; cbv) | (refine get_atN har (by assumption) (by assumption) (by assumption) (by assumption) ?_; cbv) | (refine get_ltN har (by assumption) (by assumption) (by assumption) ?_; intro x xx hx hxx; cbv) | (refine get_atI har (by assumption) (by assumption) (by decide) ?_; cbv) | (refine get_twoA har (by assumption) (by assumption) (by decide) ?_; intro x hx; cbv) | (refine get_twoB har (by assumption) (by assumption) (by decide) ?_; intro x hx; cbv) | (refine bytes_intro (by assumption) ?_; cbv) | (exact side_lt har (by assumption) (by assumption)) | (exact side_inb har (by assumption) (by assumption) (by assumption)) | (exact side_sh har (by decide)) | (exact side_app har (by assumption) (by assumption) (by omega)) | (exact side_app0 har (by assumption) (by omega)) | (exact side_new har (by assumption) (by omega)) | (exact side_one har (by assumption) (by omega)) | (exact side_oneN har (by assumption) (by omega)) | (exact side_flat har (by assumption)) | (exact side_sbig har (by omega)) | (refine side_sbig har ?_; simp; done) | (exact side_oneI har (by assumption) (by omega)) | (refine side_ix har ?_; simp; done) | (refine side_ix har ?_; simp; omega) | (refine get_lit0 har ?_; cbv) | (refine call_intro (iCopied hP (by assumption) (by assumption)) ?_; rintro r ob ⟨rfl, rfl⟩; cbv) | (refine calld_intro (iCopied hP (by assumption) (by assumption)) ?_; cbv))
  exact ⟨⟨rfl, rfl⟩⟩
set_option maxRecDepth 20000 in
theorem fn8 : Tryz.prog.funcs[8]? = some Tryz.f8 := rfl
set_option maxHeartbeats 40000000 in
set_option maxRecDepth 3000 in
theorem iReplyTo (hP : Prg P) {m : Mes} {qss ans aus mos prs ups : List (List T)} {code : Int} (hm : MesA m qss ans aus mos prs ups) : ACall P 8 [.agg [.t (.int .i64 m.id), .t (.bool m.reply), .t (.int .i64 m.op), .t (.bool m.auth), .t (.int .i64 m.code), .t (.sl qss), .t (.sl ans), .t (.sl aus), .t (.sl mos), .t (.sl prs), .t (.sl ups)], .one (.t (.int .i64 code))] []
    (fun r ob => ∃ (x : Mes) (xs : List (List T)), encQ x.qs = xs ∧ x = replyTo m code ∧ r = .agg [.t (.int .i64 x.id), .t (.bool x.reply), .t (.int .i64 x.op), .t (.bool x.auth), .t (.int .i64 x.code), .t (.sl xs), .t (.sl []), .t (.sl []), .t (.sl []), .t (.sl []), .t (.sl [])] ∧ ob = []) := by
  have hm' := hm
  obtain ⟨hq, ha, hu, ho, hp, hup⟩ := hm
  refine acall_fn (md := md) [none] v8 hP.mixed hP.tab (fn_at hP fn8) 2 rfl (by decide +kernel) rfl ?_
  intro ar har
  cbv
  repeat' (first | (intro; cbv) | (with_reducible refine and_side ?_ ?_; rotate_left; try cbv) | (refine ChkP.mk (by decide +kernel) ?_; cbv) | (refine br_intro ?_ ?_ <;> intro <;> cbv) | (refine get_at har (by assumption) (by assumption) (by assumption) (by assumption) ?_; cbv) | (refine get_lt har (by assumption) (by assumption) (by assumption) ?_; intro x xx hx hxx; cbv) | (refine get_atN har (by assumption) (by assumption) (by assumption) (by assumption) ?_; cbv) | (refine get_ltN har (by assumption) (by assumption) (by assumption) ?_; intro x xx hx hxx; cbv) | (refine get_atI har (by assumption) (by assumption) (by decide) ?_; cbv) | (refine get_twoA har (by assumption) (by assumption) (by decide) ?_; intro x hx; cbv) | (refine get_twoB har (by assumption) (by assumption) (by decide) ?_; intro x hx; cbv) | (refine bytes_intro (by assumption) ?_; cbv) | (exact side_lt har (by assumption) (by assumption)) | (exact side_inb har (by assumption) (by assumption) (by assumption)) | (exact side_sh har (by decide)) | (exact side_app har (by assumption) (by assumption) (by omega)) | (exact side_app0 har (by assumption) (by omega)) | (exact side_new har (by assumption) (by omega)) | (exact side_one har (by assumption) (by omega)) | (exact side_oneN har (by assumption) (by omega)) | (exact side_flat har (by assumption)) | (exact side_sbig har (by omega)) | (refine side_sbig har ?_; simp; done) | (exact side_oneI har (by assumption) (by omega)) | (refine side_ix har ?_; simp; done) | (refine side_ix har ?_; simp; omega) | (refine call_intro (iMsgOk hP ⟨by assumption, by assumption, by assumption, by assumption, by assumption, by assumption⟩) ?_; rintro r ob ⟨rfl, rfl⟩; generalize hmk : msgOk _ = mk; cbv) | (refine calld_intro (iMsgOk hP ⟨by assumption, by assumption, by assumption, by assumption, by assumption, by assumption⟩) ?_; generalize hmk : msgOk _ = mk; cbv) | (refine call_intro (iIsCode hP) ?_; rintro r ob ⟨rfl, rfl⟩; generalize hic : withinB _ 0 10 = ic; cbv) | (refine calld_intro (iIsCode hP) ?_; generalize hic : withinB _ 0 10 = ic; cbv))
  case refine_2.refine_2 =>
    have hmk : msgOk m = true := hmk.trans (by subst har; simp_all [std])
    have hic : withinB code 0 10 = true := hic.trans (by subst har; simp_all [std])
    obtain ⟨q, fq, fnok, fnb, fqt⟩ := (mayF (m := m) (by simp only [msgOk, Bool.and_eq_true] at hmk; exact hmk.1)).q
    refine call_intro (iReply hP hm' fq fnb) ?_
    rintro r ob ⟨rfl, rfl⟩
    cbv
    exact ⟨⟨repM m code, qss, hq, by rw [replyTo, hmk, hic]; rfl, rfl, rfl⟩⟩
  all_goals
    refine ⟨⟨noM, [], rfl, ?_, rfl, rfl⟩⟩
    subst har
    simp_all [replyTo, std]
theorem msgOk_reply {m : Mes} {code : Int} (h : msgOk m = true) (hc : withinB code 0 10 = true) : msgOk (repM m code) = true := by
  have hmb : mayB m = true := by simp only [msgOk, Bool.and_eq_true] at h; exact h.1
  obtain ⟨fid, fop, fcode, ⟨q, fq, fnok, fnb, fqt⟩, fan, fau, fmo, fpr, fup⟩ := mayF hmb
  have hw := wireN_len fnb
  have hl : mesLen (repM m code) ≤ 512 := by
    simp only [mesLen, repM, fq, List.map_cons, List.map_nil, List.sum_cons, List.sum_nil, sumW, sumR, List.append_nil]; omega
  rw [msgOk, decide_eq_true hl, Bool.and_true]
  simp only [mayB, Bool.and_eq_true, decide_eq_true_eq] at hmb ⊢
  obtain ⟨h1, h2, h3, h4, h5, _, _, _, _, _, h11⟩ := hmb
  have e1 : listOk rrOkR [] = true := rfl
  have e2 : listOk wantOk [] = true := rfl
  refine ⟨h1, h2, by simpa [withinB, repM] using hc, h4, h5, e1, e1, e1, e2, e2, ?_⟩
  show (if m.op = 0 then _ else _) = true
  split
  · rfl
  · rename_i hop
    rw [if_neg hop] at h11
    simp only [Bool.and_eq_true] at h11
    simp only [Bool.and_eq_true]
    exact ⟨h11.1, rfl, rfl, rfl⟩
end Go.TL.Tryz

/- TfMoT -/
namespace Go.TL.Tryz
open Go Go.TL Go.Proofs
set_option maxRecDepth 20000
variable {P : Program}
/-! No line ends in words. -/
def noNl (l : List UInt8) : Prop := l.count 10 = 0
theorem noNl_of {l : List UInt8} (h : ∀ x, x ∈ l → iB x ≠ 10) : noNl l := List.count_eq_zero.2 fun hm => h 10 hm rfl
theorem noNl_app {a b : List UInt8} (h : noNl a) (k : noNl b) : noNl (a ++ b) := by unfold noNl at *; rw [List.count_append, h, k]
theorem noNl_cons {x : UInt8} {b : List UInt8} (h : iB x ≠ 10) (k : noNl b) : noNl (x :: b) := by
  unfold noNl at *
  rw [List.count_cons, k]
  have : x ≠ 10 := fun e => h (by rw [e]; rfl)
  simp [this]
theorem noNl_flat {α : Type} {f : α → List UInt8} : ∀ {l : List α}, (∀ x, x ∈ l → noNl (f x)) → noNl (l.flatMap f)
  | [], _ => rfl
  | a :: r, h => by
    rw [List.flatMap_cons]
    exact noNl_app (h a (by simp)) (noNl_flat fun x hx => h x (by simp [hx]))
theorem noNl_join {l : List (List UInt8)} (h : ∀ x, x ∈ l → noNl x) : noNl (joinW l) := by
  match l with
  | [] => rfl
  | a :: r =>
    rw [joinW]
    exact noNl_app (h a (by simp)) (noNl_flat fun x hx => noNl_cons (by decide) (h x (by simp [hx])))
theorem noNl_itoa (n : Int) : noNl (Lib.itoa n) := noNl_of fun x hx => by have := itoa_chars x hx; omega
theorem noNl_textN {n : List (List UInt8)} (h : nameOk n = true) : noNl (textN n) := by
  unfold textN
  split
  · rfl
  · refine noNl_flat fun l hl => ?_
    simp only [nameOk, Bool.and_eq_true, List.all_eq_true] at h
    have := h.2 l hl
    simp only [labelOk, Bool.and_eq_true, List.all_eq_true] at this
    refine noNl_app (noNl_of fun x hx => ?_) rfl
    have := this.2.2 x hx
    simp only [chOk, decide_eq_true_eq] at this
    omega
theorem noNl_nameText (n : List (List UInt8)) : noNl (nameTextB n) := by
  unfold nameTextB
  split
  · rename_i h; exact noNl_textN h
  · rfl
theorem noNl_ty (t : Int) : noNl (tyName t) := by
  unfold tyName; repeat' (first | rfl | split)
theorem noNl_hexD (i : Int) : iB (hexD i) ≠ 10 := by
  unfold hexD hexS
  generalize i.toNat = k
  match k with
  | 0 | 1 | 2 | 3 | 4 | 5 | 6 | 7 | 8 | 9 | 10 | 11 | 12 | 13 | 14 | 15 => decide
  | k + 16 => simp [List.getD]; decide
theorem noNl_fold : ∀ (nu : List Int) (d : List UInt8), noNl d → noNl (nu.foldl (fun d n => joinW [d, Lib.itoa n]) d)
  | [], d, h => h
  | x :: r, d, h => noNl_fold r _ (noNl_join fun y hy => by simp at hy; rcases hy with rfl | rfl; exact h; exact noNl_itoa x)
theorem noNl_data (t addr : Int) (to : List (List UInt8)) (tx : List UInt8) (nu : List Int) : noNl (dataX t addr to tx nu) := by
  unfold dataX
  split
  · exact noNl_of fun x hx => by have := dotB_chars addr x hx; omega
  · split
    · exact noNl_fold nu _ (noNl_nameText to)
    · exact noNl_flat fun x _ => noNl_cons (noNl_hexD _) (noNl_cons (noNl_hexD _) rfl)
theorem noNl_text (n : List (List UInt8)) (t ttl addr : Int) (to : List (List UInt8)) (tx : List UInt8) (nu : List Int) : noNl (textX n t ttl addr to tx nu) := by
  unfold textX
  refine noNl_join fun x hx => ?_
  simp at hx
  rcases hx with rfl | rfl | rfl | rfl
  · exact noNl_nameText n
  · exact noNl_itoa ttl
  · exact noNl_ty t
  · exact noNl_data t addr to tx nu
theorem get_strP {ar : Ar} (har : ar = std) (p : List UInt8 → Prop) {es : List (List T)} {i : Int} {K : List T → Prop} (h : 0 ≤ i ∧ i.toNat < es.length) (hall : ∀ e ∈ es, ∃ s, e = [.str s] ∧ p s) (k : ∀ s, p s → K [.str s]) : GetP ar es i K := by
  subst har
  refine ⟨by simp [std]; omega, ?_⟩
  obtain ⟨s, h1, h2⟩ := hall es[i.toNat] (List.getElem_mem h.2)
  have := k s h2
  rw [← h1] at this
  simpa [std, h.2] using this
def cntR (m : Mes) (i : Nat) : Nat := (([m.an, m.au, m.mo].take i).map List.length).sum
theorem cntR_le {m : Mes} (h1 : m.an.length ≤ 12) (h2 : m.au.length ≤ 12) (h3 : m.mo.length ≤ 12) {i : Nat} (hi : i ≤ 3) : cntR m i ≤ 36 := by
  unfold cntR
  match i, hi with
  | 0, _ => simp
  | 1, _ => simp; omega
  | 2, _ => simp; omega
  | 3, _ => simp; omega
theorem cntR_succ {m : Mes} {i : Int} (h0 : 0 ≤ i) {l : List Rrv} (h : [m.an, m.au, m.mo][i.toNat]? = some l) : cntR m (i + 1).toNat = cntR m i.toNat + l.length := by
  unfold cntR
  rw [show (i + 1).toNat = i.toNat + 1 by omega, List.take_add_one, h]; simp
def mesLines (m : Mes) : Nat := 1 + m.an.length + m.au.length + m.mo.length
set_option maxRecDepth 20000 in
theorem fn11 : Tryz.prog.funcs[11]? = some Tryz.f11 := rfl
set_option maxHeartbeats 40000000 in
set_option maxRecDepth 3000 in
theorem iMsgText (hP : Prg P) {m : Mes} {qss ans aus mos prs ups : List (List T)} (hm : MesA m qss ans aus mos prs ups) : ACall P 11 [.agg [.t (.int .i64 m.id), .t (.bool m.reply), .t (.int .i64 m.op), .t (.bool m.auth), .t (.int .i64 m.code), .t (.sl qss), .t (.sl ans), .t (.sl aus), .t (.sl mos), .t (.sl prs), .t (.sl ups)]] []
    (fun r ob => ∃ (l : List UInt8) (ls : List (List T)), encB l = ls ∧ (msgOk m = true → l.count 10 = mesLines m) ∧ l.length ≤ 1000000 ∧ r = .one (.t (.sl ls)) ∧ ob = []) := by
  obtain ⟨hq, ha, hu, ho, hp, hup⟩ := hm
  have hnil : encB [] = [] := rfl
  generalize hK : (fun (r : A) (ob : Obs) => ∃ (l : List UInt8) (ls : List (List T)), encB l = ls ∧ (msgOk m = true → l.count 10 = mesLines m) ∧ l.length ≤ 1000000 ∧ r = .one (.t (.sl ls)) ∧ ob = []) = K
  have hk : ∀ (l : List UInt8) (ls : List (List T)), encB l = ls → (msgOk m = true → l.count 10 = mesLines m) → l.length ≤ 1000000 → RetP K (.one (.t (.sl ls))) [] := by
    intro l ls h1 h2 h3
    subst hK
    exact ⟨⟨l, ls, h1, h2, h3, rfl, rfl⟩⟩
  refine acall_fn (md := md) [none] v11 hP.mixed hP.tab (fn_at hP fn11) 1 rfl (by decide +kernel) rfl ?_
  intro ar har
  cbv
  repeat' (first | (intro; cbv) | (with_reducible refine and_side ?_ ?_; rotate_left; try cbv) | (refine ChkP.mk (by decide +kernel) ?_; cbv) | (refine br_intro ?_ ?_ <;> intro <;> cbv) | (refine get_at har (by assumption) (by assumption) (by assumption) (by assumption) ?_; cbv) | (refine get_lt har (by assumption) (by assumption) (by assumption) ?_; intro x xx hx hxx; cbv) | (refine get_atN har (by assumption) (by assumption) (by assumption) (by assumption) ?_; cbv) | (refine get_ltN har (by assumption) (by assumption) (by assumption) ?_; intro x xx hx hxx; cbv) | (refine get_atI har (by assumption) (by assumption) (by decide) ?_; cbv) | (refine get_twoA har (by assumption) (by assumption) (by decide) ?_; intro x hx; cbv) | (refine get_twoB har (by assumption) (by assumption) (by decide) ?_; intro x hx; cbv) | (refine bytes_intro (by assumption) ?_; cbv) | (exact side_lt har (by assumption) (by assumption)) | (exact side_inb har (by assumption) (by assumption) (by assumption)) | (exact side_sh har (by decide)) | (exact side_app har (by assumption) (by assumption) (by omega)) | (exact side_app0 har (by assumption) (by omega)) | (exact side_new har (by assumption) (by omega)) | (exact side_one har (by assumption) (by omega)) | (exact side_oneN har (by assumption) (by omega)) | (exact side_flat har (by assumption)) | (exact side_sbig har (by omega)) | (refine side_sbig har ?_; simp; done) | (exact side_oneI har (by assumption) (by omega)) | (refine side_ix har ?_; simp; done) | (refine side_ix har ?_; simp; omega) | (refine call_intro (iMsgOk hP ⟨by assumption, by assumption, by assumption, by assumption, by assumption, by assumption⟩) ?_; rintro r ob ⟨rfl, rfl⟩; generalize hmk : msgOk _ = mk; cbv) | (refine calld_intro (iMsgOk hP ⟨by assumption, by assumption, by assumption, by assumption, by assumption, by assumption⟩) ?_; generalize hmk : msgOk _ = mk; cbv))
  case refine_1 =>
    have h1 : mk = true → False := by subst har; simp_all [std]
    exact hk [] [] rfl (fun h => (h1 (hmk.symm.trans h)).elim) (by simp)
  all_goals
    have h1 : mk = true := by subst har; simp_all [std]
    have hm1 : msgOk m = true := hmk.trans h1
    obtain ⟨fid, fop, fcode, ⟨q, fq, fnok, fnb, fqt⟩, fan, fau, fmo, fpr, fup⟩ := mayF (m := m) (by simp only [msgOk, Bool.and_eq_true] at hm1; exact hm1.1)
    obtain ⟨qns, hqn⟩ : ∃ qns, encN q.n = qns := ⟨_, rfl⟩
    have hqe : qss = [[.sl qns, .int .i64 q.t]] := by rw [← hq, fq, ← hqn]; rfl
    subst hqe
    have hnl := nameTextB_len q.n
    have hnn := noNl_nameText q.n
    have hil : (Lib.itoa m.code).length ≤ 21 := itoa_len (has_i64 (by omega) (by omega))
    have hin := noNl_itoa m.code
    repeat' (first | (intro; cbv) | (with_reducible refine and_side ?_ ?_; rotate_left; try cbv) | (refine ChkP.mk (by decide +kernel) ?_; cbv) | (refine br_intro ?_ ?_ <;> intro <;> cbv) | (refine get_at har (by assumption) (by assumption) (by assumption) (by assumption) ?_; cbv) | (refine get_lt har (by assumption) (by assumption) (by assumption) ?_; intro x xx hx hxx; cbv) | (refine get_atN har (by assumption) (by assumption) (by assumption) (by assumption) ?_; cbv) | (refine get_ltN har (by assumption) (by assumption) (by assumption) ?_; intro x xx hx hxx; cbv) | (refine get_atI har (by assumption) (by assumption) (by decide) ?_; cbv) | (refine get_twoA har (by assumption) (by assumption) (by decide) ?_; intro x hx; cbv) | (refine get_twoB har (by assumption) (by assumption) (by decide) ?_; intro x hx; cbv) | (refine bytes_intro (by assumption) ?_; cbv) | (exact side_lt har (by assumption) (by assumption)) | (exact side_inb har (by assumption) (by assumption) (by assumption)) | (exact side_sh har (by decide)) | (exact side_app har (by assumption) (by assumption) (by omega)) | (exact side_app0 har (by assumption) (by omega)) | (exact side_new har (by assumption) (by omega)) | (exact side_one har (by assumption) (by omega)) | (exact side_oneN har (by assumption) (by omega)) | (exact side_flat har (by assumption)) | (exact side_sbig har (by omega)) | (refine side_sbig har ?_; simp; done) | (exact side_oneI har (by assumption) (by omega)) | (refine side_ix har ?_; simp; done) | (refine side_ix har ?_; simp; omega) | (refine call_intro (iItoa hP) ?_; rintro r ob ⟨rfl, rfl⟩; generalize hit : Lib.itoa _ = it; cbv) | (refine calld_intro (iItoa hP) ?_; generalize hit : Lib.itoa _ = it; cbv) | (refine get_lit0 har ?_; cbv) | (refine call_intro (iNameText hP (by assumption)) ?_; rintro r ob ⟨rfl, rfl⟩; generalize hnb : nameTextB _ = nb; generalize hnt : encB nb = nt; cbv) | (refine calld_intro (iNameText hP (by assumption)) ?_; generalize hnb : nameTextB _ = nb; generalize hnt : encB nb = nt; cbv))
    rw [hit] at hil hin
    rw [hnb] at hnl hnn
    refine calld_intro (iWords hP (l := [_, it, nb]) rfl ?_ (by simp)) ?_
    · intro s hs
      simp only [List.mem_cons, List.not_mem_nil, or_false] at hs
      rcases hs with rfl | rfl | rfl
      · decide
      · omega
      · omega
    generalize hjw : joinW _ = jw
    have hjn : noNl jw := by
      rw [← hjw]
      refine noNl_join fun x hx => ?_
      simp only [List.mem_cons, List.not_mem_nil, or_false] at hx
      rcases hx with rfl | rfl | rfl
      · exact noNl_of (by decide)
      · exact hin
      · exact hnn
    have hjl : jw.length ≤ 300 := by
      rw [← hjw]
      simp only [joinW, List.flatMap_cons, List.flatMap_nil, List.length_append, List.length_cons, List.length_nil]; omega
    clear hjw hin hnn hnl hil hit hnb hnt
    cbv
    repeat' (first | (intro; cbv) | (with_reducible refine and_side ?_ ?_; rotate_left; try cbv) | (refine ChkP.mk (by decide +kernel) ?_; cbv) | (refine br_intro ?_ ?_ <;> intro <;> cbv) | (refine get_at har (by assumption) (by assumption) (by assumption) (by assumption) ?_; cbv) | (refine get_lt har (by assumption) (by assumption) (by assumption) ?_; intro x xx hx hxx; cbv) | (refine get_atN har (by assumption) (by assumption) (by assumption) (by assumption) ?_; cbv) | (refine get_ltN har (by assumption) (by assumption) (by assumption) ?_; intro x xx hx hxx; cbv) | (refine get_atI har (by assumption) (by assumption) (by decide) ?_; cbv) | (refine get_twoA har (by assumption) (by assumption) (by decide) ?_; intro x hx; cbv) | (refine get_twoB har (by assumption) (by assumption) (by decide) ?_; intro x hx; cbv) | (refine bytes_intro (by assumption) ?_; cbv) | (exact side_lt har (by assumption) (by assumption)) | (exact side_inb har (by assumption) (by assumption) (by assumption)) | (exact side_sh har (by decide)) | (exact side_app har (by assumption) (by assumption) (by omega)) | (exact side_app0 har (by assumption) (by omega)) | (exact side_new har (by assumption) (by omega)) | (exact side_one har (by assumption) (by omega)) | (exact side_oneN har (by assumption) (by omega)) | (exact side_flat har (by assumption)) | (exact side_sbig har (by omega)) | (refine side_sbig har ?_; simp; done) | (exact side_oneI har (by assumption) (by omega)) | (refine side_ix har ?_; simp; done) | (refine side_ix har ?_; simp; omega))
    case refine_1 => exact side_cat har (by omega) (by decide)
    refine loop_start [] [] ?_
    cbv
    refine LoopR.mk (List UInt8 × Int) (fun x => ([(4, .one (.t (.str x.1))), (36, .one (.t (.int .i64 x.2)))], []))
      (fun x => 0 ≤ x.2 ∧ x.2.toNat ≤ 3 ∧ x.1.count 10 = 1 + cntR m x.2.toNat ∧ x.1.length ≤ 400 + 1100 * cntR m x.2.toNat) (fun x => 3 - x.2.toNat) (ar.sapp jw [10], 0) ?e ?f ?g
    case e => kernel_rfl
    case f =>
      refine ⟨Int.le_refl _, Nat.zero_le _, ?_, ?_⟩
      · subst har
        show (jw ++ [10]).count 10 = 1
        rw [List.count_append, hjn]; rfl
      · subst har
        show (jw ++ [10]).length ≤ 400
        rw [List.length_append]; simp; omega
    case g =>
      intro x hx
      obtain ⟨out, i⟩ := x
      have hi0 : 0 ≤ i := hx.1
      have hi3 : i.toNat ≤ 3 := hx.2.1
      have hcn : out.count 10 = 1 + cntR m i.toNat := hx.2.2.1
      have hol : out.length ≤ 400 + 1100 * cntR m i.toNat := hx.2.2.2
      clear hx
      have hc36 := cntR_le (m := m) (listOk_len fan) (listOk_len fau) (listOk_len fmo) hi3
      have hrr : encRR [m.an, m.au, m.mo] = [[.sl ans], [.sl aus], [.sl mos]] := by rw [← ha, ← hu, ← ho]; rfl
      generalize hre : [[T.sl ans], [T.sl aus], [T.sl mos]] = re at hrr
      cbv
      repeat' (first | (intro; cbv) | (with_reducible refine and_side ?_ ?_; rotate_left; try cbv) | (refine ChkP.mk (by decide +kernel) ?_; cbv) | (refine br_intro ?_ ?_ <;> intro <;> cbv) | (refine get_at har (by assumption) (by assumption) (by assumption) (by assumption) ?_; cbv) | (refine get_lt har (by assumption) (by assumption) (by assumption) ?_; intro x xx hx hxx; cbv) | (refine get_atN har (by assumption) (by assumption) (by assumption) (by assumption) ?_; cbv) | (refine get_ltN har (by assumption) (by assumption) (by assumption) ?_; intro x xx hx hxx; cbv) | (refine get_atI har (by assumption) (by assumption) (by decide) ?_; cbv) | (refine get_twoA har (by assumption) (by assumption) (by decide) ?_; intro x hx; cbv) | (refine get_twoB har (by assumption) (by assumption) (by decide) ?_; intro x hx; cbv) | (refine bytes_intro (by assumption) ?_; cbv) | (exact side_lt har (by assumption) (by assumption)) | (exact side_inb har (by assumption) (by assumption) (by assumption)) | (exact side_sh har (by decide)) | (exact side_app har (by assumption) (by assumption) (by omega)) | (exact side_app0 har (by assumption) (by omega)) | (exact side_new har (by assumption) (by omega)) | (exact side_one har (by assumption) (by omega)) | (exact side_oneN har (by assumption) (by omega)) | (exact side_flat har (by assumption)) | (exact side_sbig har (by omega)) | (refine side_sbig har ?_; simp; done) | (exact side_oneI har (by assumption) (by omega)) | (refine side_ix har ?_; simp; done) | (refine side_ix har ?_; simp; omega) | (refine get_ltRR har (by assumption) (by assumption) (by assumption) ?_; intro rl rls hrl hrls; cbv))
      case refine_1.refine_2 =>
        have hrok : ∀ (j : Nat) r, rl[j]? = some r → rrOkR r = true := by
          rcases three_i hi3 hrl with ⟨_, rfl⟩ | ⟨_, rfl⟩ | ⟨_, rfl⟩
          · exact fun j r h => (List.all_eq_true.1 (Bool.and_eq_true _ _ ▸ fan : _ ∧ _).2) r (List.mem_of_getElem? h)
          · exact fun j r h => (List.all_eq_true.1 (Bool.and_eq_true _ _ ▸ fau : _ ∧ _).2) r (List.mem_of_getElem? h)
          · exact fun j r h => (List.all_eq_true.1 (Bool.and_eq_true _ _ ▸ fmo : _ ∧ _).2) r (List.mem_of_getElem? h)
        have hrl12 : rl.length ≤ 12 := by
          rcases three_i hi3 hrl with ⟨_, rfl⟩ | ⟨_, rfl⟩ | ⟨_, rfl⟩
          · exact listOk_len fan
          · exact listOk_len fau
          · exact listOk_len fmo
        have hi3' : i < 3 := by
          have := (List.getElem?_eq_some_iff.1 hrl).1
          simp at this; omega
        have hcs : cntR m (i + 1).toNat = cntR m i.toNat + rl.length := cntR_succ hi0 hrl
        refine loop_start [] [] ?_
        cbv
        refine LoopR.mk (List UInt8 × Int) (fun x => ([(4, .one (.t (.str x.1))), (43, .one (.t (.int .i64 x.2)))], []))
          (fun x => 0 ≤ x.2 ∧ x.2.toNat ≤ rl.length ∧ x.1.count 10 = 1 + cntR m i.toNat + x.2.toNat ∧ x.1.length ≤ 400 + 1100 * (cntR m i.toNat + x.2.toNat)) (fun x => rl.length - x.2.toNat) (out, 0) ?e2 ?f2 ?g2
        case e2 => kernel_rfl
        case f2 => exact ⟨Int.le_refl _, Nat.zero_le _, hcn, hol⟩
        case g2 =>
          clear hcn hol
          intro x hx
          obtain ⟨out, j⟩ := x
          have hj0 : 0 ≤ j := hx.1
          have hjr : j.toNat ≤ rl.length := hx.2.1
          have hcn : out.count 10 = 1 + cntR m i.toNat + j.toNat := hx.2.2.1
          have hol : out.length ≤ 400 + 1100 * (cntR m i.toNat + j.toNat) := hx.2.2.2
          clear hx
          cbv
          repeat' (first | (intro; cbv) | (with_reducible refine and_side ?_ ?_; rotate_left; try cbv) | (refine ChkP.mk (by decide +kernel) ?_; cbv) | (refine br_intro ?_ ?_ <;> intro <;> cbv) | (refine get_at har (by assumption) (by assumption) (by assumption) (by assumption) ?_; cbv) | (refine get_lt har (by assumption) (by assumption) (by assumption) ?_; intro x xx hx hxx; cbv) | (refine get_atN har (by assumption) (by assumption) (by assumption) (by assumption) ?_; cbv) | (refine get_ltN har (by assumption) (by assumption) (by assumption) ?_; intro x xx hx hxx; cbv) | (refine get_atI har (by assumption) (by assumption) (by decide) ?_; cbv) | (refine get_twoA har (by assumption) (by assumption) (by decide) ?_; intro x hx; cbv) | (refine get_twoB har (by assumption) (by assumption) (by decide) ?_; intro x hx; cbv) | (refine bytes_intro (by assumption) ?_; cbv) | (exact side_lt har (by assumption) (by assumption)) | (exact side_inb har (by assumption) (by assumption) (by assumption)) | (exact side_sh har (by decide)) | (exact side_app har (by assumption) (by assumption) (by omega)) | (exact side_app0 har (by assumption) (by omega)) | (exact side_new har (by assumption) (by omega)) | (exact side_one har (by assumption) (by omega)) | (exact side_oneN har (by assumption) (by omega)) | (exact side_flat har (by assumption)) | (exact side_sbig har (by omega)) | (refine side_sbig har ?_; simp; done) | (exact side_oneI har (by assumption) (by omega)) | (refine side_ix har ?_; simp; done) | (refine side_ix har ?_; simp; omega) | (refine get_ltR har (by assumption) (by assumption) (by assumption) ?_; intro r rns rtos rtxs rnus hr hrn hrto hrtx hrnu; cbv))
          case refine_1.refine_2 =>
            refine get_strP har (fun s => s.length ≤ 6 ∧ noNl s) ⟨hi0, by simp; omega⟩ ?_ ?_
            · intro e he
              simp only [List.mem_cons, List.not_mem_nil, or_false] at he
              rcases he with rfl | rfl | rfl
              · exact ⟨_, rfl, by decide, noNl_of (by decide)⟩
              · exact ⟨_, rfl, by decide, noNl_of (by decide)⟩
              · exact ⟨_, rfl, by decide, noNl_of (by decide)⟩
            intro s hs
            cbv
            repeat' (first | (intro; cbv) | (with_reducible refine and_side ?_ ?_; rotate_left; try cbv) | (refine ChkP.mk (by decide +kernel) ?_; cbv) | (refine br_intro ?_ ?_ <;> intro <;> cbv) | (refine get_at har (by assumption) (by assumption) (by assumption) (by assumption) ?_; cbv) | (refine get_lt har (by assumption) (by assumption) (by assumption) ?_; intro x xx hx hxx; cbv) | (refine get_atN har (by assumption) (by assumption) (by assumption) (by assumption) ?_; cbv) | (refine get_ltN har (by assumption) (by assumption) (by assumption) ?_; intro x xx hx hxx; cbv) | (refine get_atI har (by assumption) (by assumption) (by decide) ?_; cbv) | (refine get_twoA har (by assumption) (by assumption) (by decide) ?_; intro x hx; cbv) | (refine get_twoB har (by assumption) (by assumption) (by decide) ?_; intro x hx; cbv) | (refine bytes_intro (by assumption) ?_; cbv) | (exact side_lt har (by assumption) (by assumption)) | (exact side_inb har (by assumption) (by assumption) (by assumption)) | (exact side_sh har (by decide)) | (exact side_app har (by assumption) (by assumption) (by omega)) | (exact side_app0 har (by assumption) (by omega)) | (exact side_new har (by assumption) (by omega)) | (exact side_one har (by assumption) (by omega)) | (exact side_oneN har (by assumption) (by omega)) | (exact side_flat har (by assumption)) | (exact side_sbig har (by omega)) | (refine side_sbig har ?_; simp; done) | (exact side_oneI har (by assumption) (by omega)) | (refine side_ix har ?_; simp; done) | (refine side_ix har ?_; simp; omega))
            have hlt := (List.getElem?_eq_some_iff.1 hr).1
            have hro := hrok _ _ hr
            have htl := (textX_len hro).2
            have htn := noNl_text r.n r.t r.ttl r.addr r.to r.tx r.nu
            refine calld_intro (iText hP hrn hrto hrtx hrnu hro) ?_
            generalize htx : textX r.n r.t r.ttl r.addr r.to r.tx r.nu = tx at htl htn
            cbv
            repeat' (first | (intro; cbv) | (with_reducible refine and_side ?_ ?_; rotate_left; try cbv) | (refine ChkP.mk (by decide +kernel) ?_; cbv) | (refine br_intro ?_ ?_ <;> intro <;> cbv) | (refine get_at har (by assumption) (by assumption) (by assumption) (by assumption) ?_; cbv) | (refine get_lt har (by assumption) (by assumption) (by assumption) ?_; intro x xx hx hxx; cbv) | (refine get_atN har (by assumption) (by assumption) (by assumption) (by assumption) ?_; cbv) | (refine get_ltN har (by assumption) (by assumption) (by assumption) ?_; intro x xx hx hxx; cbv) | (refine get_atI har (by assumption) (by assumption) (by decide) ?_; cbv) | (refine get_twoA har (by assumption) (by assumption) (by decide) ?_; intro x hx; cbv) | (refine get_twoB har (by assumption) (by assumption) (by decide) ?_; intro x hx; cbv) | (refine bytes_intro (by assumption) ?_; cbv) | (exact side_lt har (by assumption) (by assumption)) | (exact side_inb har (by assumption) (by assumption) (by assumption)) | (exact side_sh har (by decide)) | (exact side_app har (by assumption) (by assumption) (by omega)) | (exact side_app0 har (by assumption) (by omega)) | (exact side_new har (by assumption) (by omega)) | (exact side_one har (by assumption) (by omega)) | (exact side_oneN har (by assumption) (by omega)) | (exact side_flat har (by assumption)) | (exact side_sbig har (by omega)) | (refine side_sbig har ?_; simp; done) | (exact side_oneI har (by assumption) (by omega)) | (refine side_ix har ?_; simp; done) | (refine side_ix har ?_; simp; omega))
            refine calld_intro (iWords hP (l := [s, tx]) rfl ?_ (by simp)) ?_
            · intro z hz
              simp only [List.mem_cons, List.not_mem_nil, or_false] at hz
              rcases hz with rfl | rfl <;> omega
            have hln : noNl (joinW [s, tx]) := noNl_join fun z hz => by
              simp only [List.mem_cons, List.not_mem_nil, or_false] at hz
              rcases hz with rfl | rfl
              · exact hs.2
              · exact htn
            have hll : (joinW [s, tx]).length ≤ 1010 := by simp only [joinW, List.flatMap_cons, List.flatMap_nil, List.length_append, List.length_cons, List.length_nil]; omega
            generalize joinW [s, tx] = ln at hln hll
            cbv
            repeat' (first | (intro; cbv) | (with_reducible refine and_side ?_ ?_; rotate_left; try cbv) | (refine ChkP.mk (by decide +kernel) ?_; cbv) | (refine br_intro ?_ ?_ <;> intro <;> cbv) | (refine get_at har (by assumption) (by assumption) (by assumption) (by assumption) ?_; cbv) | (refine get_lt har (by assumption) (by assumption) (by assumption) ?_; intro x xx hx hxx; cbv) | (refine get_atN har (by assumption) (by assumption) (by assumption) (by assumption) ?_; cbv) | (refine get_ltN har (by assumption) (by assumption) (by assumption) ?_; intro x xx hx hxx; cbv) | (refine get_atI har (by assumption) (by assumption) (by decide) ?_; cbv) | (refine get_twoA har (by assumption) (by assumption) (by decide) ?_; intro x hx; cbv) | (refine get_twoB har (by assumption) (by assumption) (by decide) ?_; intro x hx; cbv) | (refine bytes_intro (by assumption) ?_; cbv) | (exact side_lt har (by assumption) (by assumption)) | (exact side_inb har (by assumption) (by assumption) (by assumption)) | (exact side_sh har (by decide)) | (exact side_app har (by assumption) (by assumption) (by omega)) | (exact side_app0 har (by assumption) (by omega)) | (exact side_new har (by assumption) (by omega)) | (exact side_one har (by assumption) (by omega)) | (exact side_oneN har (by assumption) (by omega)) | (exact side_flat har (by assumption)) | (exact side_sbig har (by omega)) | (refine side_sbig har ?_; simp; done) | (exact side_oneI har (by assumption) (by omega)) | (refine side_ix har ?_; simp; done) | (refine side_ix har ?_; simp; omega))
            case refine_1 => first | exact side_cat har (by omega) (by decide) | exact side_cat har (by omega) (by subst har; simp [std]; omega)
            case refine_2.refine_1 => first | exact side_cat har (by omega) (by decide) | exact side_cat har (by omega) (by subst har; simp [std]; omega)
            have hi : ar.iop .add .i64 j 1 = j + 1 := add_std har (by omega) (by omega)
            refine ⟨(ar.sapp out (ar.sapp ln [10]), j + 1), by rw [← hi]; kernel_rfl, ⟨by dsimp only; omega, by dsimp only; omega, ?_, ?_⟩, by dsimp only; omega⟩
            · subst har
              show (out ++ (ln ++ [10])).count 10 = 1 + cntR m i.toNat + (j + 1).toNat
              rw [List.count_append, List.count_append, hln, hcn]
              simp; omega
            · subst har
              show (out ++ (ln ++ [10])).length ≤ _
              simp only [List.length_append, List.length_cons, List.length_nil]
              omega
          have hend := ge_len har (by assumption) hj0
          rw [encR_len hrls] at hend
          have hi : ar.iop .add .i64 i 1 = i + 1 := add_std har (by omega) (by omega)
          have hjl2 : j.toNat = rl.length := by omega
          refine ⟨(out, i + 1), by rw [← hi]; kernel_rfl, ⟨by dsimp only; omega, by dsimp only; omega, by dsimp only; rw [hcs, hcn]; omega, by dsimp only; rw [hcs]; omega⟩, by dsimp only; omega⟩
      case refine_2 =>
        have hend := ge_len har (by assumption) hi0
        have hrl2 : re.length = 3 := by rw [← hrr]; rfl
        have hi2e : i.toNat = 3 := by omega
        subst har
        refine hk out _ rfl (fun _ => ?_) (by omega)
        rw [hcn, hi2e]
        simp [cntR, mesLines]
        try omega
end Go.TL.Tryz

/- TfMoW -/
namespace Go.TL.Tryz
open Go Go.TL Go.Proofs
set_option maxRecDepth 20000
variable {P : Program}
set_option maxRecDepth 20000 in
theorem fn184 : Tryz.prog.funcs[184]? = some Tryz.f184 := rfl
set_option maxHeartbeats 40000000 in
set_option maxRecDepth 3000 in
theorem drawWant_dd (hP : Prg P) {b : List UInt8} {h ii : Int} {es : List (List T)} {pre : Bool} (hes : encB b = es) (hii : 0 ≤ ii) : DCall P 184 [.one (.ptr 0 0), .one (.t (.bool pre))] [(0, .box [.t (.sl es), .t (.int .i64 ii), .t (.int .i64 h)] false)]
    (fun r ob => ∃ (w : Wnt) (ns tos txs nus : List (List T)) (ii' h' : Int), encN w.r.n = ns ∧ encN w.r.to = tos ∧ encB w.r.tx = txs ∧ encI w.r.nu = nus ∧ 0 ≤ ii' ∧
      r = .agg [.t (.sl ns), .t (.int .i64 w.r.t), .t (.int .i64 w.r.ttl), .t (.int .i64 w.r.addr), .t (.sl tos), .t (.sl txs), .t (.sl nus), .t (.int .i64 w.cls), .t (.bool w.bare)] ∧ ob = [(0, .box [.t (.sl es), .t (.int .i64 ii'), .t (.int .i64 h')] false)]) := by
  refine dt_acall (dt_eval (fun Q h => acall_fn (md := md) [none] v184 hP.mixed hP.tab (fn_at hP fn184) 2 rfl (by decide +kernel) rfl h) (dt_ar fun ar har => ?_))
  refine dt_eval (fun Q h => by cbv; exact h) ?_
  repeat' (first | (refine dt_fact ?_; refine dt_eval (fun Q h => by cbv; exact h) ?_) | (refine dt_br ?_ ?_ <;> intro <;> refine dt_eval (fun Q h => by cbv; exact h) ?_) | (refine dt_chk (by decide +kernel) ?_; refine dt_eval (fun Q h => by cbv; exact h) ?_) | (with_reducible refine dt_side ?_ ?_; rotate_left; try (refine dt_eval (fun Q h => by cbv; exact h) ?_)) | (exact side_lt har (by assumption) (by assumption)) | (exact side_inb har (by assumption) (by assumption) (by assumption)) | (exact side_sh har (by decide)) | (exact side_app har (by assumption) (by assumption) (by omega)) | (exact side_app0 har (by assumption) (by omega)) | (exact side_new har (by assumption) (by omega)) | (exact side_one har (by assumption) (by omega)) | (exact side_oneN har (by assumption) (by omega)) | (exact side_flat har (by assumption)) | (exact side_sbig har (by omega)) | (refine side_sbig har ?_; simp; done) | (exact side_oneI har (by assumption) (by omega)) | (refine side_ix har ?_; simp; done) | (refine side_ix har ?_; simp; omega) | (refine dt_call (below_dd hP (by assumption) (by omega)) ?_; rintro r ob ⟨v, ii, h, hv0, hv1, hii, rfl, rfl⟩; refine dt_eval (fun Q h => by cbv; exact h) ?_) | (refine dt_calld (below_dd hP (by assumption) (by omega)) ?_; rintro r ob ⟨v, ii, h, hv0, hv1, hii, rfl, rfl⟩; refine dt_eval (fun Q h => by cbv; exact h) ?_) | (refine dt_call (pick_dd hP (by assumption) (by omega) (by simp) (by simp)) ?_; rintro r ob ⟨v, ii, h, hv, hii, rfl, rfl⟩; refine dt_eval (fun Q h => by cbv; exact h) ?_) | (refine dt_calld (pick_dd hP (by assumption) (by omega) (by simp) (by simp)) ?_; rintro r ob ⟨v, ii, h, hv, hii, rfl, rfl⟩; refine dt_eval (fun Q h => by cbv; exact h) ?_) | (refine dt_call (draw3_dd hP (by assumption) (by omega)) ?_; rintro r ob ⟨n, ns, t, ttl, addr, to, tos, tx, txs, nu, nus, ii, h, hn, hnb, hto, htob, htx, htxl, hnu, hnul, hnu6, hii, rfl, rfl⟩; refine dt_eval (fun Q h => by cbv; exact h) ?_) | (refine dt_calld (draw3_dd hP (by assumption) (by omega)) ?_; rintro r ob ⟨n, ns, t, ttl, addr, to, tos, tx, txs, nu, nus, ii, h, hn, hnb, hto, htob, htx, htxl, hnu, hnul, hnu6, hii, rfl, rfl⟩; refine dt_eval (fun Q h => by cbv; exact h) ?_))
  all_goals first
    | exact dt_ret ⟨⟨⟨n, _, 0, 0, [], [], []⟩, _, true⟩, ns, [], [], [], _, _, by assumption, rfl, rfl, rfl, by assumption, rfl, rfl⟩
    | exact dt_ret ⟨⟨⟨n, t, _, addr, to, tx, nu⟩, _, false⟩, ns, tos, txs, nus, _, _, by assumption, by assumption, by assumption, by assumption, by assumption, rfl, rfl⟩
theorem side_oneR {ar : Ar} (har : ar = std) {l : List Rrv} {es : List (List T)} {e : List T} (h : encR l = es) (hn : l.length ≤ 1000000) (he : e.length = 7) : Side (ar.room 120 (ar.app es [e]) ∧ ar.wid 7 [e]) := by
  have := encR_len h
  subst har
  exact ⟨by simp [std]; omega, fun x hx => by simp at hx; subst hx; exact he⟩
theorem side_newR {ar : Ar} (har : ar = std) {e : List T} (he : e.length = 7) : Side (ar.room 120 [e] ∧ ar.wid 7 [e]) := by
  subst har
  exact ⟨by simp [std], fun x hx => by simp at hx; subst hx; exact he⟩
theorem side_oneW {ar : Ar} (har : ar = std) {l : List Wnt} {es : List (List T)} {e : List T} (h : encW l = es) (hn : l.length ≤ 1000000) (he : e.length = 9) : Side (ar.room 136 (ar.app es [e]) ∧ ar.wid 9 [e]) := by
  have := encW_len h
  subst har
  exact ⟨by simp [std]; omega, fun x hx => by simp at hx; subst hx; exact he⟩
theorem lt_cmp {ar : Ar} (har : ar = std) {a b : Int} (h : ar.icmp .lss a b = true) : a < b := by subst har; simpa [std, icmpS] using h
theorem ge_cmp {ar : Ar} (har : ar = std) {a b : Int} (h : ar.icmp .lss a b = false) : b ≤ a := by subst har; simpa [std, icmpS] using h
def mesV (m : Mes) : A := .agg [.t (.int .i64 m.id), .t (.bool m.reply), .t (.int .i64 m.op), .t (.bool m.auth), .t (.int .i64 m.code), .row 32 0, .row 33 0, .row 34 0, .row 35 0, .row 36 0, .row 37 0]
set_option maxRecDepth 20000 in
theorem fn91 : Tryz.prog.funcs[91]? = some Tryz.f91 := rfl
set_option maxHeartbeats 40000000 in
set_option maxRecDepth 3000 in
theorem draw4_dd (hP : Prg P) {b : List UInt8} {h ii : Int} {es : List (List T)} (hes : encB b = es) (hii : 0 ≤ ii) : DCall P 91 [.one (.ptr 0 0)] [(0, .box [.t (.sl es), .t (.int .i64 ii), .t (.int .i64 h)] false)]
    (fun r ob => ∃ (m : Mes) (qss ans aus mos prs ups : List (List T)) (ii' h' : Int), encQ m.qs = qss ∧ encR m.an = ans ∧ encR m.au = aus ∧ encR m.mo = mos ∧ encW m.pr = prs ∧ encW m.up = ups ∧ m.qs.length = 1 ∧ m.an.length ≤ 4 ∧ m.mo.length ≤ 4 ∧ m.up.length ≤ 4 ∧ 0 ≤ ii' ∧
      r = .agg [.t (.int .i64 m.id), .t (.bool m.reply), .t (.int .i64 m.op), .t (.bool m.auth), .t (.int .i64 m.code), .row 32 0, .row 33 0, .row 34 0, .row 35 0, .row 36 0, .row 37 0] ∧
      ob = [(0, .box [.t (.sl es), .t (.int .i64 ii'), .t (.int .i64 h')] false), (32, .row 2 qss 0 [0] false), (33, .row 7 ans 0 [0] false), (34, .row 7 aus 0 [0] false), (35, .row 7 mos 0 [0] false), (36, .row 9 prs 0 [0] false), (37, .row 9 ups 0 [0] false)]) := by
  generalize hK : (fun (r : A) (ob : Obs) => ∃ (m : Mes) (qss ans aus mos prs ups : List (List T)) (ii' h' : Int), encQ m.qs = qss ∧ encR m.an = ans ∧ encR m.au = aus ∧ encR m.mo = mos ∧ encW m.pr = prs ∧ encW m.up = ups ∧ m.qs.length = 1 ∧ m.an.length ≤ 4 ∧ m.mo.length ≤ 4 ∧ m.up.length ≤ 4 ∧ 0 ≤ ii' ∧
      r = .agg [.t (.int .i64 m.id), .t (.bool m.reply), .t (.int .i64 m.op), .t (.bool m.auth), .t (.int .i64 m.code), .row 32 0, .row 33 0, .row 34 0, .row 35 0, .row 36 0, .row 37 0] ∧
      ob = [(0, .box [.t (.sl es), .t (.int .i64 ii'), .t (.int .i64 h')] false), (32, .row 2 qss 0 [0] false), (33, .row 7 ans 0 [0] false), (34, .row 7 aus 0 [0] false), (35, .row 7 mos 0 [0] false), (36, .row 9 prs 0 [0] false), (37, .row 9 ups 0 [0] false)]) = Φ
  have hk : ∀ (id op code : Int) (reply auth : Bool) (q : Qst) (qns : List (List T)) (an au mo : List Rrv) (pr up : List Wnt) (ans aus mos prs ups : List (List T)) (ii h : Int), encN q.n = qns → encR an = ans → encR au = aus → encR mo = mos → encW pr = prs → encW up = ups → an.length ≤ 4 → mo.length ≤ 4 → up.length ≤ 4 → 0 ≤ ii →
      Φ (.agg [.t (.int .i64 id), .t (.bool reply), .t (.int .i64 op), .t (.bool auth), .t (.int .i64 code), .row 32 0, .row 33 0, .row 34 0, .row 35 0, .row 36 0, .row 37 0])
        [(0, .box [.t (.sl es), .t (.int .i64 ii), .t (.int .i64 h)] false), (32, .row 2 [[.sl qns, .int .i64 q.t]] 0 [0] false), (33, .row 7 ans 0 [0] false), (34, .row 7 aus 0 [0] false), (35, .row 7 mos 0 [0] false), (36, .row 9 prs 0 [0] false), (37, .row 9 ups 0 [0] false)] := by
    intro id op code reply auth q qns an au mo pr up ans aus mos prs ups ii h h1 h2 h3 h4 h5 h6 h7 h8 h9 h10
    subst hK
    exact ⟨⟨id, reply, op, auth, code, [q], an, au, mo, pr, up⟩, _, _, _, _, _, _, _, _, encQ_one h1, h2, h3, h4, h5, h6, rfl, h7, h8, h9, h10, rfl, rfl⟩
  refine dt_acall (dt_eval (fun Q h => acall_fn (md := md) [some [(5, 2), (6, 7), (7, 7), (8, 7), (9, 9), (10, 9)]] v91 hP.mixed hP.tab (fn_at hP fn91) 1 rfl (by decide +kernel) rfl h) (dt_ar fun ar har => ?_))
  refine dt_eval (fun Q h => by cbv; exact h) ?_
  repeat' (first | (refine dt_fact ?_; refine dt_eval (fun Q h => by cbv; exact h) ?_) | (refine dt_br ?_ ?_ <;> intro <;> refine dt_eval (fun Q h => by cbv; exact h) ?_) | (refine dt_chk (by decide +kernel) ?_; refine dt_eval (fun Q h => by cbv; exact h) ?_) | (with_reducible refine dt_side ?_ ?_; rotate_left; try (refine dt_eval (fun Q h => by cbv; exact h) ?_)) | (exact side_lt har (by assumption) (by assumption)) | (exact side_inb har (by assumption) (by assumption) (by assumption)) | (exact side_sh har (by decide)) | (exact side_app har (by assumption) (by assumption) (by omega)) | (exact side_app0 har (by assumption) (by omega)) | (exact side_new har (by assumption) (by omega)) | (exact side_one har (by assumption) (by omega)) | (exact side_oneN har (by assumption) (by omega)) | (exact side_flat har (by assumption)) | (exact side_sbig har (by omega)) | (refine side_sbig har ?_; simp; done) | (exact side_oneI har (by assumption) (by omega)) | (refine side_ix har ?_; simp; done) | (refine side_ix har ?_; simp; omega) | (refine dt_call (below_dd hP (by assumption) (by omega)) ?_; rintro r ob ⟨v, ii, h, hv0, hv1, hii, rfl, rfl⟩; refine dt_eval (fun Q h => by cbv; exact h) ?_) | (refine dt_calld (below_dd hP (by assumption) (by omega)) ?_; rintro r ob ⟨v, ii, h, hv0, hv1, hii, rfl, rfl⟩; refine dt_eval (fun Q h => by cbv; exact h) ?_) | (refine dt_call (pick_dd hP (by assumption) (by omega) (by simp) (by simp)) ?_; rintro r ob ⟨v, ii, h, hv, hii, rfl, rfl⟩; refine dt_eval (fun Q h => by cbv; exact h) ?_) | (refine dt_calld (pick_dd hP (by assumption) (by omega) (by simp) (by simp)) ?_; rintro r ob ⟨v, ii, h, hv, hii, rfl, rfl⟩; refine dt_eval (fun Q h => by cbv; exact h) ?_) | (refine dt_call (once_dd hP (by assumption) (by omega)) ?_; rintro r ob ⟨v, ii, h, hii, rfl, rfl⟩; refine dt_eval (fun Q h => by cbv; exact h) ?_) | (refine dt_calld (once_dd hP (by assumption) (by omega)) ?_; rintro r ob ⟨v, ii, h, hii, rfl, rfl⟩; refine dt_eval (fun Q h => by cbv; exact h) ?_) | (refine dt_call (draw2_dd hP (by assumption) (by omega)) ?_; rintro r ob ⟨n, ns, ii, h, hn, hnb, hn6, hii, rfl, rfl⟩; refine dt_eval (fun Q h => by cbv; exact h) ?_) | (refine dt_calld (draw2_dd hP (by assumption) (by omega)) ?_; rintro r ob ⟨n, ns, ii, h, hn, hnb, hn6, hii, rfl, rfl⟩; refine dt_eval (fun Q h => by cbv; exact h) ?_) | (refine dt_call (draw3_dd hP (by assumption) (by omega)) ?_; rintro r ob ⟨n, ns, t, ttl, addr, to, tos, tx, txs, nu, nus, ii, h, hn, hnb, hto, htob, htx, htxl, hnu, hnul, hnu6, hii, rfl, rfl⟩; refine dt_eval (fun Q h => by cbv; exact h) ?_) | (refine dt_calld (draw3_dd hP (by assumption) (by omega)) ?_; rintro r ob ⟨n, ns, t, ttl, addr, to, tos, tx, txs, nu, nus, ii, h, hn, hnb, hto, htob, htx, htxl, hnu, hnul, hnu6, hii, rfl, rfl⟩; refine dt_eval (fun Q h => by cbv; exact h) ?_) | (refine dt_call (drawWant_dd hP (by assumption) (by omega)) ?_; rintro r ob ⟨w, wns, wtos, wtxs, wnus, ii, h, hwn, hwto, hwtx, hwnu, hii, rfl, rfl⟩; refine dt_eval (fun Q h => by cbv; exact h) ?_) | (refine dt_calld (drawWant_dd hP (by assumption) (by omega)) ?_; rintro r ob ⟨w, wns, wtos, wtxs, wnus, ii, h, hwn, hwto, hwtx, hwnu, hii, rfl, rfl⟩; refine dt_eval (fun Q h => by cbv; exact h) ?_))
  case refine_1 =>
    refine dt_loop_start [] [.cell 3 6 7 12] ?_
    cbv
    refine LoopDR.mk (List Rrv × List (List T) × Int × Int × Int) (fun x => ([(5, .one (.t (.int .i64 x.2.2.1)))], [(0, .box [.t (.sl es), .t (.int .i64 x.2.2.2.1), .t (.int .i64 x.2.2.2.2)] false), (19, .row 7 x.2.1 0 [0] false)]))
      (fun x => encR x.1 = x.2.1 ∧ x.1.length = x.2.2.1.toNat ∧ 0 ≤ x.2.2.1 ∧ x.2.2.1 ≤ 4 ∧ 0 ≤ x.2.2.2.1) (fun x => 4 - x.2.2.1.toNat) ([], [], 0, ii, h) ?e1 ?f1 ?g1
    case e1 => kernel_rfl
    case f1 => dsimp only; exact ⟨rfl, rfl, by omega, by omega, by assumption⟩
    case g1 =>
      intro x hx
      obtain ⟨l, ls, k, ii, h⟩ := x
      have hl : encR l = ls := hx.1
      have hn1 : l.length = k.toNat := hx.2.1
      have hk3 : 0 ≤ k ∧ k ≤ 4 ∧ 0 ≤ ii := hx.2.2
      have hii : 0 ≤ ii := hk3.2.2
      clear hx
      refine dt_eval (fun Q h => by cbv; exact h) ?_
      repeat' (first | (refine dt_fact ?_; refine dt_eval (fun Q h => by cbv; exact h) ?_) | (refine dt_br ?_ ?_ <;> intro <;> refine dt_eval (fun Q h => by cbv; exact h) ?_) | (refine dt_chk (by decide +kernel) ?_; refine dt_eval (fun Q h => by cbv; exact h) ?_) | (with_reducible refine dt_side ?_ ?_; rotate_left; try (refine dt_eval (fun Q h => by cbv; exact h) ?_)) | (exact side_lt har (by assumption) (by assumption)) | (exact side_inb har (by assumption) (by assumption) (by assumption)) | (exact side_sh har (by decide)) | (exact side_app har (by assumption) (by assumption) (by omega)) | (exact side_app0 har (by assumption) (by omega)) | (exact side_new har (by assumption) (by omega)) | (exact side_one har (by assumption) (by omega)) | (exact side_oneN har (by assumption) (by omega)) | (exact side_flat har (by assumption)) | (exact side_sbig har (by omega)) | (refine side_sbig har ?_; simp; done) | (exact side_oneI har (by assumption) (by omega)) | (refine side_ix har ?_; simp; done) | (refine side_ix har ?_; simp; omega) | (refine dt_call (draw3_dd hP (by assumption) (by omega)) ?_; rintro r ob ⟨n, ns, t, ttl, addr, to, tos, tx, txs, nu, nus, ii, h, hn, hnb, hto, htob, htx, htxl, hnu, hnul, hnu6, hii, rfl, rfl⟩; refine dt_eval (fun Q h => by cbv; exact h) ?_) | (refine dt_calld (draw3_dd hP (by assumption) (by omega)) ?_; rintro r ob ⟨n, ns, t, ttl, addr, to, tos, tx, txs, nu, nus, ii, h, hn, hnb, hto, htob, htx, htxl, hnu, hnul, hnu6, hii, rfl, rfl⟩; refine dt_eval (fun Q h => by cbv; exact h) ?_))
      case refine_1.refine_1 => exact side_oneR har hl (by omega) rfl
      case refine_1.refine_2 =>
        refine dt_back ?_
        have hlt := lt_cmp har (by assumption)
        have e : ar.iop .add .i64 k 1 = k + 1 := add_std har (by omega) (by omega)
        refine ⟨(l ++ [⟨n, t, ttl, addr, to, tx, nu⟩], ar.app ls [[.sl ns, .int .i64 t, .int .i64 ttl, .int .i64 addr, .sl tos, .sl txs, .sl nus]], k + 1, ii, h), by rw [← e]; kernel_rfl, ⟨by subst har; exact encR_app hl (encR_one hn hto htx hnu), by simp; omega, by dsimp only; omega, by dsimp only; omega, hii⟩, by dsimp only; omega⟩
      case refine_2 =>
        have hl4 : l.length ≤ 4 := by omega
        refine dt_loop_start [4, 5, 36] [.cell 3 7 7 12] ?_
        cbv
        refine LoopDR.mk (List Rrv × List (List T) × Int × Int × Int) (fun x => ([(6, .one (.t (.int .i64 x.2.2.1)))], [(0, .box [.t (.sl es), .t (.int .i64 x.2.2.2.1), .t (.int .i64 x.2.2.2.2)] false), (20, .row 7 x.2.1 0 [0] false)]))
          (fun x => encR x.1 = x.2.1 ∧ x.1.length = x.2.2.1.toNat ∧ 0 ≤ x.2.2.1 ∧ x.2.2.1 ≤ 4 ∧ 0 ≤ x.2.2.2.1) (fun x => 4 - x.2.2.1.toNat) ([], [], 0, ii, h) ?e2 ?f2 ?g2
        case e2 => kernel_rfl
        case f2 => dsimp only; exact ⟨rfl, rfl, by omega, by omega, by assumption⟩
        case g2 =>
          clear hii hk3 hn1
          intro x hx
          obtain ⟨l2, ls2, k2, ii, h⟩ := x
          have hl2 : encR l2 = ls2 := hx.1
          have hn2 : l2.length = k2.toNat := hx.2.1
          have hk4 : 0 ≤ k2 ∧ k2 ≤ 4 ∧ 0 ≤ ii := hx.2.2
          have hii : 0 ≤ ii := hk4.2.2
          clear hx
          refine dt_eval (fun Q h => by cbv; exact h) ?_
          repeat' (first | (refine dt_fact ?_; refine dt_eval (fun Q h => by cbv; exact h) ?_) | (refine dt_br ?_ ?_ <;> intro <;> refine dt_eval (fun Q h => by cbv; exact h) ?_) | (refine dt_chk (by decide +kernel) ?_; refine dt_eval (fun Q h => by cbv; exact h) ?_) | (with_reducible refine dt_side ?_ ?_; rotate_left; try (refine dt_eval (fun Q h => by cbv; exact h) ?_)) | (exact side_lt har (by assumption) (by assumption)) | (exact side_inb har (by assumption) (by assumption) (by assumption)) | (exact side_sh har (by decide)) | (exact side_app har (by assumption) (by assumption) (by omega)) | (exact side_app0 har (by assumption) (by omega)) | (exact side_new har (by assumption) (by omega)) | (exact side_one har (by assumption) (by omega)) | (exact side_oneN har (by assumption) (by omega)) | (exact side_flat har (by assumption)) | (exact side_sbig har (by omega)) | (refine side_sbig har ?_; simp; done) | (exact side_oneI har (by assumption) (by omega)) | (refine side_ix har ?_; simp; done) | (refine side_ix har ?_; simp; omega) | (refine dt_call (below_dd hP (by assumption) (by omega)) ?_; rintro r ob ⟨v, ii, h, hv0, hv1, hii, rfl, rfl⟩; refine dt_eval (fun Q h => by cbv; exact h) ?_) | (refine dt_calld (below_dd hP (by assumption) (by omega)) ?_; rintro r ob ⟨v, ii, h, hv0, hv1, hii, rfl, rfl⟩; refine dt_eval (fun Q h => by cbv; exact h) ?_) | (refine dt_call (once_dd hP (by assumption) (by omega)) ?_; rintro r ob ⟨v, ii, h, hii, rfl, rfl⟩; refine dt_eval (fun Q h => by cbv; exact h) ?_) | (refine dt_calld (once_dd hP (by assumption) (by omega)) ?_; rintro r ob ⟨v, ii, h, hii, rfl, rfl⟩; refine dt_eval (fun Q h => by cbv; exact h) ?_) | (refine dt_call (draw3_dd hP (by assumption) (by omega)) ?_; rintro r ob ⟨n, ns, t, ttl, addr, to, tos, tx, txs, nu, nus, ii, h, hn, hnb, hto, htob, htx, htxl, hnu, hnul, hnu6, hii, rfl, rfl⟩; refine dt_eval (fun Q h => by cbv; exact h) ?_) | (refine dt_calld (draw3_dd hP (by assumption) (by omega)) ?_; rintro r ob ⟨n, ns, t, ttl, addr, to, tos, tx, txs, nu, nus, ii, h, hn, hnb, hto, htob, htx, htxl, hnu, hnul, hnu6, hii, rfl, rfl⟩; refine dt_eval (fun Q h => by cbv; exact h) ?_))
          case refine_1.refine_1 => exact side_oneR har hl2 (by omega) rfl
          case refine_1.refine_2 =>
            refine dt_back ?_
            have hlt := lt_cmp har (by assumption)
            have e : ar.iop .add .i64 k2 1 = k2 + 1 := add_std har (by omega) (by omega)
            refine ⟨(l2 ++ [⟨n, t, ttl, addr, to, tx, nu⟩], ar.app ls2 [[.sl ns, .int .i64 t, .int .i64 ttl, .int .i64 addr, .sl tos, .sl txs, .sl nus]], k2 + 1, ii, h), by rw [← e]; kernel_rfl, ⟨by subst har; exact encR_app hl2 (encR_one hn hto htx hnu), by simp; omega, by dsimp only; omega, by dsimp only; omega, hii⟩, by dsimp only; omega⟩
          case refine_2.refine_1.refine_1 => exact side_newR har rfl
          case refine_2.refine_1.refine_2 =>
            exact dt_ret (hk _ _ _ _ _ ⟨_, _⟩ _ l l2 [⟨n, t, ttl, addr, to, tx, nu⟩] [] [] _ _ _ _ _ _ _ (by assumption) hl hl2 (encR_one hn hto htx hnu) rfl rfl hl4 (by simp) (by simp) (by assumption))
          case refine_2.refine_2 =>
            exact dt_ret (hk _ _ _ _ _ ⟨_, _⟩ _ l l2 [] [] [] _ _ _ _ _ _ _ (by assumption) hl hl2 rfl rfl rfl hl4 (by simp) (by simp) (by assumption))
  case refine_2.refine_2.refine_2 =>
    refine dt_loop_start [] [.cell 3 9 9 12] ?_
    cbv
    refine LoopDR.mk (List Wnt × List (List T) × Int × Int × Int) (fun x => ([(8, .one (.t (.int .i64 x.2.2.1)))], [(0, .box [.t (.sl es), .t (.int .i64 x.2.2.2.1), .t (.int .i64 x.2.2.2.2)] false), (19, .row 9 x.2.1 0 [0] false)]))
      (fun x => encW x.1 = x.2.1 ∧ x.1.length = x.2.2.1.toNat ∧ 0 ≤ x.2.2.1 ∧ x.2.2.1 ≤ 4 ∧ 0 ≤ x.2.2.2.1) (fun x => 4 - x.2.2.1.toNat) ([], [], 0, ii, h) ?e1 ?f1 ?g1
    case e1 => kernel_rfl
    case f1 => dsimp only; exact ⟨rfl, rfl, by omega, by omega, by assumption⟩
    case g1 =>
      intro x hx
      obtain ⟨l, ls, k, ii, h⟩ := x
      have hl : encW l = ls := hx.1
      have hn1 : l.length = k.toNat := hx.2.1
      have hk3 : 0 ≤ k ∧ k ≤ 4 ∧ 0 ≤ ii := hx.2.2
      have hii : 0 ≤ ii := hk3.2.2
      clear hx
      refine dt_eval (fun Q h => by cbv; exact h) ?_
      repeat' (first | (refine dt_fact ?_; refine dt_eval (fun Q h => by cbv; exact h) ?_) | (refine dt_br ?_ ?_ <;> intro <;> refine dt_eval (fun Q h => by cbv; exact h) ?_) | (refine dt_chk (by decide +kernel) ?_; refine dt_eval (fun Q h => by cbv; exact h) ?_) | (with_reducible refine dt_side ?_ ?_; rotate_left; try (refine dt_eval (fun Q h => by cbv; exact h) ?_)) | (exact side_lt har (by assumption) (by assumption)) | (exact side_inb har (by assumption) (by assumption) (by assumption)) | (exact side_sh har (by decide)) | (exact side_app har (by assumption) (by assumption) (by omega)) | (exact side_app0 har (by assumption) (by omega)) | (exact side_new har (by assumption) (by omega)) | (exact side_one har (by assumption) (by omega)) | (exact side_oneN har (by assumption) (by omega)) | (exact side_flat har (by assumption)) | (exact side_sbig har (by omega)) | (refine side_sbig har ?_; simp; done) | (exact side_oneI har (by assumption) (by omega)) | (refine side_ix har ?_; simp; done) | (refine side_ix har ?_; simp; omega) | (refine dt_call (below_dd hP (by assumption) (by omega)) ?_; rintro r ob ⟨v, ii, h, hv0, hv1, hii, rfl, rfl⟩; refine dt_eval (fun Q h => by cbv; exact h) ?_) | (refine dt_calld (below_dd hP (by assumption) (by omega)) ?_; rintro r ob ⟨v, ii, h, hv0, hv1, hii, rfl, rfl⟩; refine dt_eval (fun Q h => by cbv; exact h) ?_) | (refine dt_call (drawWant_dd hP (by assumption) (by omega)) ?_; rintro r ob ⟨w, wns, wtos, wtxs, wnus, ii, h, hwn, hwto, hwtx, hwnu, hii, rfl, rfl⟩; refine dt_eval (fun Q h => by cbv; exact h) ?_) | (refine dt_calld (drawWant_dd hP (by assumption) (by omega)) ?_; rintro r ob ⟨w, wns, wtos, wtxs, wnus, ii, h, hwn, hwto, hwtx, hwnu, hii, rfl, rfl⟩; refine dt_eval (fun Q h => by cbv; exact h) ?_))
      case refine_1.refine_1 => exact side_oneW har hl (by omega) rfl
      case refine_1.refine_2 =>
        refine dt_back ?_
        have hlt := lt_cmp har (by assumption)
        have e : ar.iop .add .i64 k 1 = k + 1 := add_std har (by omega) (by omega)
        refine ⟨(l ++ [w], ar.app ls [[.sl wns, .int .i64 w.r.t, .int .i64 w.r.ttl, .int .i64 w.r.addr, .sl wtos, .sl wtxs, .sl wnus, .int .i64 w.cls, .bool w.bare]], k + 1, ii, h), by rw [← e]; kernel_rfl, ⟨by subst har; exact encW_app hl (encW_one hwn hwto hwtx hwnu), by simp; omega, by dsimp only; omega, by dsimp only; omega, hii⟩, by dsimp only; omega⟩
      case refine_2 =>
        refine dt_loop_start [8, 78] [.cell 3 10 9 12] ?_
        cbv
        refine LoopDR.mk (List Wnt × List (List T) × Int × Int × Int) (fun x => ([(9, .one (.t (.int .i64 x.2.2.1)))], [(0, .box [.t (.sl es), .t (.int .i64 x.2.2.2.1), .t (.int .i64 x.2.2.2.2)] false), (20, .row 9 x.2.1 0 [0] false)]))
          (fun x => encW x.1 = x.2.1 ∧ x.1.length = x.2.2.1.toNat ∧ 0 ≤ x.2.2.1 ∧ x.2.2.1 ≤ 4 ∧ 0 ≤ x.2.2.2.1) (fun x => 4 - x.2.2.1.toNat) ([], [], 0, ii, h) ?e2 ?f2 ?g2
        case e2 => kernel_rfl
        case f2 => dsimp only; exact ⟨rfl, rfl, by omega, by omega, by assumption⟩
        case g2 =>
          clear hii hk3 hn1
          intro x hx
          obtain ⟨l2, ls2, k2, ii, h⟩ := x
          have hl2 : encW l2 = ls2 := hx.1
          have hn2 : l2.length = k2.toNat := hx.2.1
          have hk4 : 0 ≤ k2 ∧ k2 ≤ 4 ∧ 0 ≤ ii := hx.2.2
          have hii : 0 ≤ ii := hk4.2.2
          clear hx
          refine dt_eval (fun Q h => by cbv; exact h) ?_
          repeat' (first | (refine dt_fact ?_; refine dt_eval (fun Q h => by cbv; exact h) ?_) | (refine dt_br ?_ ?_ <;> intro <;> refine dt_eval (fun Q h => by cbv; exact h) ?_) | (refine dt_chk (by decide +kernel) ?_; refine dt_eval (fun Q h => by cbv; exact h) ?_) | (with_reducible refine dt_side ?_ ?_; rotate_left; try (refine dt_eval (fun Q h => by cbv; exact h) ?_)) | (exact side_lt har (by assumption) (by assumption)) | (exact side_inb har (by assumption) (by assumption) (by assumption)) | (exact side_sh har (by decide)) | (exact side_app har (by assumption) (by assumption) (by omega)) | (exact side_app0 har (by assumption) (by omega)) | (exact side_new har (by assumption) (by omega)) | (exact side_one har (by assumption) (by omega)) | (exact side_oneN har (by assumption) (by omega)) | (exact side_flat har (by assumption)) | (exact side_sbig har (by omega)) | (refine side_sbig har ?_; simp; done) | (exact side_oneI har (by assumption) (by omega)) | (refine side_ix har ?_; simp; done) | (refine side_ix har ?_; simp; omega) | (refine dt_call (drawWant_dd hP (by assumption) (by omega)) ?_; rintro r ob ⟨w, wns, wtos, wtxs, wnus, ii, h, hwn, hwto, hwtx, hwnu, hii, rfl, rfl⟩; refine dt_eval (fun Q h => by cbv; exact h) ?_) | (refine dt_calld (drawWant_dd hP (by assumption) (by omega)) ?_; rintro r ob ⟨w, wns, wtos, wtxs, wnus, ii, h, hwn, hwto, hwtx, hwnu, hii, rfl, rfl⟩; refine dt_eval (fun Q h => by cbv; exact h) ?_))
          case refine_1.refine_1 => exact side_oneW har hl2 (by omega) rfl
          case refine_1.refine_2 =>
            refine dt_back ?_
            have hlt := lt_cmp har (by assumption)
            have e : ar.iop .add .i64 k2 1 = k2 + 1 := add_std har (by omega) (by omega)
            refine ⟨(l2 ++ [w], ar.app ls2 [[.sl wns, .int .i64 w.r.t, .int .i64 w.r.ttl, .int .i64 w.r.addr, .sl wtos, .sl wtxs, .sl wnus, .int .i64 w.cls, .bool w.bare]], k2 + 1, ii, h), by rw [← e]; kernel_rfl, ⟨by subst har; exact encW_app hl2 (encW_one hwn hwto hwtx hwnu), by simp; omega, by dsimp only; omega, by dsimp only; omega, hii⟩, by dsimp only; omega⟩
          case refine_2 =>
            subst har
            exact dt_ret (hk _ _ _ _ _ ⟨_, 6⟩ _ [] [] [] l l2 _ _ _ _ _ _ _ (by assumption) rfl rfl rfl hl hl2 (by simp) (by simp) (by omega) (by assumption))
end Go.TL.Tryz

/- TfMoV -/
namespace Go.TL.Tryz
open Go Go.TL Go.Proofs
set_option maxRecDepth 20000
variable {P : Program}
theorem get_q1 {ar : Ar} (har : ar = std) {b : List Qst} {es : List (List T)} {K : List T → Prop} (hes : encQ b = es) (h : b.length = 1)
    (k : ∀ (q : Qst) (ns : List (List T)), b = [q] → encN q.n = ns → K [.sl ns, .int .i64 q.t]) : GetP ar es 0 K := by
  match b, h with
  | [q], _ => exact get_qst har hes ⟨Int.le_refl _, Nat.zero_lt_succ _⟩ fun q' ns h1 h2 => k q' ns (by simp at h1; rw [h1]) h2
set_option maxRecDepth 20000 in
theorem fn30 : Tryz.prog.funcs[30]? = some Tryz.f30 := rfl
set_option maxHeartbeats 40000000 in
set_option maxRecDepth 3000 in
theorem bent4_w (hP : Prg P) {b : List UInt8} {h ii : Int} {es : List (List T)} (hes : encB b = es) (hii : 0 ≤ ii) : ACall P 30 [.one (.ptr 0 0)] [(0, .box [.t (.sl es), .t (.int .i64 ii), .t (.int .i64 h)] false)]
    (fun r ob => ∃ (m : Mes) (qss ans aus mos prs ups : List (List T)) (ii' h' : Int), encQ m.qs = qss ∧ encR m.an = ans ∧ encR m.au = aus ∧ encR m.mo = mos ∧ encW m.pr = prs ∧ encW m.up = ups ∧ 0 ≤ ii' ∧ r = .agg [.t (.int .i64 m.id), .t (.bool m.reply), .t (.int .i64 m.op), .t (.bool m.auth), .t (.int .i64 m.code), .t (.sl qss), .t (.sl ans), .t (.sl aus), .t (.sl mos), .t (.sl prs), .t (.sl ups)] ∧ ob = [(0, .box [.t (.sl es), .t (.int .i64 ii'), .t (.int .i64 h')] false)]) := by
  generalize hK : (fun (r : A) (ob : Obs) => ∃ (m : Mes) (qss ans aus mos prs ups : List (List T)) (ii' h' : Int), encQ m.qs = qss ∧ encR m.an = ans ∧ encR m.au = aus ∧ encR m.mo = mos ∧ encW m.pr = prs ∧ encW m.up = ups ∧ 0 ≤ ii' ∧ r = .agg [.t (.int .i64 m.id), .t (.bool m.reply), .t (.int .i64 m.op), .t (.bool m.auth), .t (.int .i64 m.code), .t (.sl qss), .t (.sl ans), .t (.sl aus), .t (.sl mos), .t (.sl prs), .t (.sl ups)] ∧ ob = [(0, .box [.t (.sl es), .t (.int .i64 ii'), .t (.int .i64 h')] false)]) = K
  have hk : ∀ (id op code : Int) (reply auth : Bool) (qs : List Qst) (an au mo : List Rrv) (pr up : List Wnt) (qss ans aus mos prs ups : List (List T)) (ii h : Int), encQ qs = qss → encR an = ans → encR au = aus → encR mo = mos → encW pr = prs → encW up = ups → 0 ≤ ii →
      RetP K (.agg [.t (.int .i64 id), .t (.bool reply), .t (.int .i64 op), .t (.bool auth), .t (.int .i64 code), .t (.sl qss), .t (.sl ans), .t (.sl aus), .t (.sl mos), .t (.sl prs), .t (.sl ups)]) [(0, .box [.t (.sl es), .t (.int .i64 ii), .t (.int .i64 h)] false)] := by
    intro id op code reply auth qs an au mo pr up qss ans aus mos prs ups ii h h1 h2 h3 h4 h5 h6 h7
    subst hK
    exact ⟨⟨⟨id, reply, op, auth, code, qs, an, au, mo, pr, up⟩, _, _, _, _, _, _, _, _, h1, h2, h3, h4, h5, h6, h7, rfl, rfl⟩⟩
  refine acall_fn (md := md) [none] v30 hP.mixed hP.tab (fn_at hP fn30) 1 rfl (by decide +kernel) rfl ?_
  intro ar har
  cbv
  repeat' (first | (intro; cbv) | (with_reducible refine and_side ?_ ?_; rotate_left; try cbv) | (refine ChkP.mk (by decide +kernel) ?_; cbv) | (refine br_intro ?_ ?_ <;> intro <;> cbv) | (refine get_at har (by assumption) (by assumption) (by assumption) (by assumption) ?_; cbv) | (refine get_lt har (by assumption) (by assumption) (by assumption) ?_; intro x xx hx hxx; cbv) | (refine get_atN har (by assumption) (by assumption) (by assumption) (by assumption) ?_; cbv) | (refine get_ltN har (by assumption) (by assumption) (by assumption) ?_; intro x xx hx hxx; cbv) | (refine get_atI har (by assumption) (by assumption) (by decide) ?_; cbv) | (refine get_twoA har (by assumption) (by assumption) (by decide) ?_; intro x hx; cbv) | (refine get_twoB har (by assumption) (by assumption) (by decide) ?_; intro x hx; cbv) | (refine bytes_intro (by assumption) ?_; cbv) | (exact side_lt har (by assumption) (by assumption)) | (exact side_inb har (by assumption) (by assumption) (by assumption)) | (exact side_sh har (by decide)) | (exact side_app har (by assumption) (by assumption) (by omega)) | (exact side_app0 har (by assumption) (by omega)) | (exact side_new har (by assumption) (by omega)) | (exact side_one har (by assumption) (by omega)) | (exact side_oneN har (by assumption) (by omega)) | (exact side_flat har (by assumption)) | (exact side_sbig har (by omega)) | (refine side_sbig har ?_; simp; done) | (exact side_oneI har (by assumption) (by omega)) | (refine side_ix har ?_; simp; done) | (refine side_ix har ?_; simp; omega) | (refine call_intro (below_dd hP (by assumption) (by omega)).acall ?_; rintro r ob ⟨v, ii, h, hv0, hv1, hii, rfl, rfl⟩; cbv) | (refine calld_det (below_dd hP (by assumption) (by omega)) ?_; rintro r ob ⟨v, ii, h, hv0, hv1, hii, rfl, rfl⟩; cbv) | (refine call_intro (pick_dd hP (by assumption) (by omega) (by simp) (by simp)).acall ?_; rintro r ob ⟨v, ii, h, hv, hii, rfl, rfl⟩; cbv) | (refine calld_det (pick_dd hP (by assumption) (by omega) (by simp) (by simp)) ?_; rintro r ob ⟨v, ii, h, hv, hii, rfl, rfl⟩; cbv) | (refine call_intro (once_dd hP (by assumption) (by omega)).acall ?_; rintro r ob ⟨v, ii, h, hii, rfl, rfl⟩; cbv) | (refine calld_det (once_dd hP (by assumption) (by omega)) ?_; rintro r ob ⟨v, ii, h, hii, rfl, rfl⟩; cbv) | (refine call_intro (draw3_dd hP (by assumption) (by omega)).acall ?_; rintro r ob ⟨n, ns, t, ttl, addr, to, tos, tx, txs, nu, nus, ii, h, hn, hnb, hto, htob, htx, htxl, hnu, hnul, hnu6, hii, rfl, rfl⟩; cbv) | (refine calld_det (draw3_dd hP (by assumption) (by omega)) ?_; rintro r ob ⟨n, ns, t, ttl, addr, to, tos, tx, txs, nu, nus, ii, h, hn, hnb, hto, htob, htx, htxl, hnu, hnul, hnu6, hii, rfl, rfl⟩; cbv) | (refine call_intro (bent3_dd hP (by assumption) (by omega)).acall ?_; rintro r ob ⟨n, ns, t, ttl, addr, to, tos, tx, txs, nu, nus, ii, h, hn, hnb, hto, htob, htx, htxl, hnu, hnul, hii, rfl, rfl⟩; cbv) | (refine calld_det (bent3_dd hP (by assumption) (by omega)) ?_; rintro r ob ⟨n, ns, t, ttl, addr, to, tos, tx, txs, nu, nus, ii, h, hn, hnb, hto, htob, htx, htxl, hnu, hnul, hii, rfl, rfl⟩; cbv) | (refine call_intro (draw4_dd hP (by assumption) (by omega)).acall ?_; rintro r ob ⟨m, qss, ans, aus, mos, prs, ups, ii, h, hq, ha, hu, ho, hp, hup, hq1, han, hmo, hupl, hii, rfl, rfl⟩; cbv) | (refine calld_det (draw4_dd hP (by assumption) (by omega)) ?_; rintro r ob ⟨m, qss, ans, aus, mos, prs, ups, ii, h, hq, ha, hu, ho, hp, hup, hq1, han, hmo, hupl, hii, rfl, rfl⟩; cbv))
  case refine_1.refine_2.refine_2.refine_2.refine_1.refine_1 => exact ⟨by have := encQ_len hq; subst har; simp [std]; omega⟩
  case refine_1.refine_2.refine_2.refine_2.refine_1.refine_2 =>
    refine get_q1 har hq hq1 ?_
    intro q qns hqe hqn
    cbv
    repeat' (first | (intro; cbv) | (with_reducible refine and_side ?_ ?_; rotate_left; try cbv) | (refine ChkP.mk (by decide +kernel) ?_; cbv) | (refine br_intro ?_ ?_ <;> intro <;> cbv) | (refine get_at har (by assumption) (by assumption) (by assumption) (by assumption) ?_; cbv) | (refine get_lt har (by assumption) (by assumption) (by assumption) ?_; intro x xx hx hxx; cbv) | (refine get_atN har (by assumption) (by assumption) (by assumption) (by assumption) ?_; cbv) | (refine get_ltN har (by assumption) (by assumption) (by assumption) ?_; intro x xx hx hxx; cbv) | (refine get_atI har (by assumption) (by assumption) (by decide) ?_; cbv) | (refine get_twoA har (by assumption) (by assumption) (by decide) ?_; intro x hx; cbv) | (refine get_twoB har (by assumption) (by assumption) (by decide) ?_; intro x hx; cbv) | (refine bytes_intro (by assumption) ?_; cbv) | (exact side_lt har (by assumption) (by assumption)) | (exact side_inb har (by assumption) (by assumption) (by assumption)) | (exact side_sh har (by decide)) | (exact side_app har (by assumption) (by assumption) (by omega)) | (exact side_app0 har (by assumption) (by omega)) | (exact side_new har (by assumption) (by omega)) | (exact side_one har (by assumption) (by omega)) | (exact side_oneN har (by assumption) (by omega)) | (exact side_flat har (by assumption)) | (exact side_sbig har (by omega)) | (refine side_sbig har ?_; simp; done) | (exact side_oneI har (by assumption) (by omega)) | (refine side_ix har ?_; simp; done) | (refine side_ix har ?_; simp; omega))
    · subst har
      exact hk _ _ _ _ _ _ _ _ _ _ _ _ _ _ _ _ _ _ _ (encQ_app hq (encQ_one (q := ⟨_, _⟩) hqn)) ha hu ho hp hup (by assumption)
    · have := encQ_len hq
      subst har
      exact ⟨by simp [std]; omega, fun x hx => by simp at hx; subst hx; rfl⟩
  case refine_1.refine_2.refine_2.refine_2.refine_2.refine_1.refine_1 => exact side_oneR har ha (by omega) rfl
  case refine_1.refine_2.refine_2.refine_2.refine_2.refine_1.refine_2 =>
    subst har
    exact hk _ _ _ _ _ _ _ _ _ _ _ _ _ _ _ _ _ _ _ hq (encR_app ha (encR_one (r := ⟨_, _, _, _, _, _, _⟩) hn hto htx hnu)) hu ho hp hup (by assumption)
  case refine_1.refine_2.refine_2.refine_2.refine_2.refine_2.refine_1.refine_1 => exact side_oneW har hup (by omega) rfl
  case refine_1.refine_2.refine_2.refine_2.refine_2.refine_2.refine_1.refine_2 =>
    subst har
    exact hk _ _ _ _ _ _ _ _ _ _ _ _ _ _ _ _ _ _ _ hq ha hu ho hp (encW_app hup (encW_one (w := ⟨⟨_, _, _, _, _, _, _⟩, _, _⟩) hn hto htx hnu)) (by assumption)
  case refine_1.refine_2.refine_2.refine_2.refine_2.refine_2.refine_2 =>
    refine loop_start [] [] ?_
    cbv
    refine LoopR.mk (List Rrv × List (List T) × Int × Int) (fun x => ([], [(0, .box [.t (.sl es), .t (.int .i64 x.2.2.1), .t (.int .i64 x.2.2.2)] false), (21, .row 7 x.2.1 0 [0] false)])) (fun x => encR x.1 = x.2.1 ∧ x.1.length ≤ 14 ∧ 0 ≤ x.2.2.1) (fun x => 14 - x.1.length) (m.mo, mos, ii, h) ?e1 ?f1 ?g1
    case e1 => kernel_rfl
    case f1 => dsimp only; exact ⟨ho, by omega, by assumption⟩
    case g1 =>
      clear hii
      intro x hx
      obtain ⟨l, ls, ii, h⟩ := x
      have hl : encR l = ls := hx.1
      have hn1 : l.length ≤ 14 := hx.2.1
      have hii : 0 ≤ ii := hx.2.2
      clear hx
      cbv
      repeat' (first | (intro; cbv) | (with_reducible refine and_side ?_ ?_; rotate_left; try cbv) | (refine ChkP.mk (by decide +kernel) ?_; cbv) | (refine br_intro ?_ ?_ <;> intro <;> cbv) | (refine get_at har (by assumption) (by assumption) (by assumption) (by assumption) ?_; cbv) | (refine get_lt har (by assumption) (by assumption) (by assumption) ?_; intro x xx hx hxx; cbv) | (refine get_atN har (by assumption) (by assumption) (by assumption) (by assumption) ?_; cbv) | (refine get_ltN har (by assumption) (by assumption) (by assumption) ?_; intro x xx hx hxx; cbv) | (refine get_atI har (by assumption) (by assumption) (by decide) ?_; cbv) | (refine get_twoA har (by assumption) (by assumption) (by decide) ?_; intro x hx; cbv) | (refine get_twoB har (by assumption) (by assumption) (by decide) ?_; intro x hx; cbv) | (refine bytes_intro (by assumption) ?_; cbv) | (exact side_lt har (by assumption) (by assumption)) | (exact side_inb har (by assumption) (by assumption) (by assumption)) | (exact side_sh har (by decide)) | (exact side_app har (by assumption) (by assumption) (by omega)) | (exact side_app0 har (by assumption) (by omega)) | (exact side_new har (by assumption) (by omega)) | (exact side_one har (by assumption) (by omega)) | (exact side_oneN har (by assumption) (by omega)) | (exact side_flat har (by assumption)) | (exact side_sbig har (by omega)) | (refine side_sbig har ?_; simp; done) | (exact side_oneI har (by assumption) (by omega)) | (refine side_ix har ?_; simp; done) | (refine side_ix har ?_; simp; omega) | (refine call_intro (below_dd hP (by assumption) (by omega)).acall ?_; rintro r ob ⟨v, ii, h, hv0, hv1, hii, rfl, rfl⟩; cbv) | (refine calld_det (below_dd hP (by assumption) (by omega)) ?_; rintro r ob ⟨v, ii, h, hv0, hv1, hii, rfl, rfl⟩; cbv) | (refine call_intro (draw3_dd hP (by assumption) (by omega)).acall ?_; rintro r ob ⟨n, ns, t, ttl, addr, to, tos, tx, txs, nu, nus, ii, h, hn, hnb, hto, htob, htx, htxl, hnu, hnul, hnu6, hii, rfl, rfl⟩; cbv) | (refine calld_det (draw3_dd hP (by assumption) (by omega)) ?_; rintro r ob ⟨n, ns, t, ttl, addr, to, tos, tx, txs, nu, nus, ii, h, hn, hnb, hto, htob, htx, htxl, hnu, hnul, hnu6, hii, rfl, rfl⟩; cbv))
      case refine_1.refine_1 => exact side_oneR har hl (by omega) rfl
      case refine_1.refine_2 =>
        have hlt := lt_cmp har (by assumption)
        have hll := encR_len hl
        have e : ar.iop .add .i64 12 v = 12 + v := add_std har (by omega) (by omega)
        rw [e] at hlt
        have hl2 : l.length < 14 := by have e2 : ar.len ls = (ls.length : Int) := by subst har; rfl
                                       rw [e2] at hlt; omega
        refine ⟨(l ++ [⟨n, t, ttl, addr, to, tx, nu⟩], ar.app ls [[.sl ns, .int .i64 t, .int .i64 ttl, .int .i64 addr, .sl tos, .sl txs, .sl nus]], ii, h), by kernel_rfl, ⟨by subst har; exact encR_app hl (encR_one hn hto htx hnu), by simp; omega, by assumption⟩, by simp; omega⟩
      case refine_2 => exact hk _ _ _ _ _ _ _ _ _ _ _ _ _ _ _ _ _ _ _ hq ha hu hl hp hup (by assumption)
  all_goals exact hk _ _ _ _ _ _ _ _ _ _ _ _ _ _ _ _ _ _ _ hq ha hu ho hp hup (by assumption)
set_option maxRecDepth 20000 in
theorem fn7 : Tryz.prog.funcs[7]? = some Tryz.f7 := rfl
set_option maxHeartbeats 40000000 in
set_option maxRecDepth 3000 in
theorem drawReplyTo_w (hP : Prg P) {code : List UInt8} {es : List (List T)} (hes : encB code = es) : ACall P 7 [.one (.t (.sl es))] []
    (fun r ob => ∃ (m : Mes) (qss ans aus mos prs ups : List (List T)) (rc : Int), encQ m.qs = qss ∧ encR m.an = ans ∧ encR m.au = aus ∧ encR m.mo = mos ∧ encW m.pr = prs ∧ encW m.up = ups ∧ r = .tup [.agg [.t (.int .i64 m.id), .t (.bool m.reply), .t (.int .i64 m.op), .t (.bool m.auth), .t (.int .i64 m.code), .t (.sl qss), .t (.sl ans), .t (.sl aus), .t (.sl mos), .t (.sl prs), .t (.sl ups)], .one (.t (.int .i64 rc))] ∧ ob = []) := by
  refine acall_fn (md := md) [none, none] v7 hP.mixed hP.tab (fn_at hP fn7) 1 rfl (by decide +kernel) rfl ?_
  intro ar har
  cbv
  repeat' (first | (intro; cbv) | (with_reducible refine and_side ?_ ?_; rotate_left; try cbv) | (refine ChkP.mk (by decide +kernel) ?_; cbv) | (refine br_intro ?_ ?_ <;> intro <;> cbv) | (refine get_at har (by assumption) (by assumption) (by assumption) (by assumption) ?_; cbv) | (refine get_lt har (by assumption) (by assumption) (by assumption) ?_; intro x xx hx hxx; cbv) | (refine get_atN har (by assumption) (by assumption) (by assumption) (by assumption) ?_; cbv) | (refine get_ltN har (by assumption) (by assumption) (by assumption) ?_; intro x xx hx hxx; cbv) | (refine get_atI har (by assumption) (by assumption) (by decide) ?_; cbv) | (refine get_twoA har (by assumption) (by assumption) (by decide) ?_; intro x hx; cbv) | (refine get_twoB har (by assumption) (by assumption) (by decide) ?_; intro x hx; cbv) | (refine bytes_intro (by assumption) ?_; cbv) | (exact side_lt har (by assumption) (by assumption)) | (exact side_inb har (by assumption) (by assumption) (by assumption)) | (exact side_sh har (by decide)) | (exact side_app har (by assumption) (by assumption) (by omega)) | (exact side_app0 har (by assumption) (by omega)) | (exact side_new har (by assumption) (by omega)) | (exact side_one har (by assumption) (by omega)) | (exact side_oneN har (by assumption) (by omega)) | (exact side_flat har (by assumption)) | (exact side_sbig har (by omega)) | (refine side_sbig har ?_; simp; done) | (exact side_oneI har (by assumption) (by omega)) | (refine side_ix har ?_; simp; done) | (refine side_ix har ?_; simp; omega) | (refine call_intro (new_w hP (by assumption)) ?_; rintro r ob ⟨h, rfl, rfl⟩; cbv) | (refine call_intro (bent4_w hP (by assumption) (by omega)) ?_; rintro r ob ⟨m, qss, ans, aus, mos, prs, ups, ii, h, hq, ha, hu, ho, hp, hup, hii, rfl, rfl⟩; cbv) | (refine call_intro (below_dd hP (by assumption) (by omega)).acall ?_; rintro r ob ⟨v, ii, h, hv0, hv1, hii, rfl, rfl⟩; cbv) | (refine calld_det (below_dd hP (by assumption) (by omega)) ?_; rintro r ob ⟨v, ii, h, hv0, hv1, hii, rfl, rfl⟩; cbv))
  exact ⟨⟨_, _, _, _, _, _, _, _, by assumption, by assumption, by assumption, by assumption, by assumption, by assumption, rfl, rfl⟩⟩
end Go.TL.Tryz

/- TfTrm -/
namespace Go.TL.Tryz
open Go Go.TL Go.Proofs
variable {P : Program}

def trimB (b c : List UInt8) : List UInt8 := if sufB b c then b.take (b.length - c.length) else b
set_option maxRecDepth 20000 in
theorem fn107 : Tryz.prog.funcs[107]? = some Tryz.f107 := rfl
set_option maxHeartbeats 40000000 in
set_option maxRecDepth 3000 in
theorem iTrimSuffix (hP : Prg P) {b c : List UInt8} {es fs : List (List T)} (hl : encB b = es) (hm : encB c = fs) (hb : b.length ≤ 1000000) (hc : c.length ≤ 1000000) : ACall P 107 [.one (.t (.sl es)), .one (.t (.sl fs))] [] (fun r ob => r = .one (.t (.sl (encB (trimB b c)))) ∧ ob = []) := by
  have hl1 := encB_len hl
  have hl2 := encB_len hm
  refine acall_fn (md := md) [none] v107 hP.mixed hP.tab (fn_at hP fn107) 2 rfl (by decide +kernel) rfl ?_
  intro ar har
  cbv
  repeat' (first | (intro; cbv) | (with_reducible refine and_side ?_ ?_; rotate_left; try cbv) | (refine ChkP.mk (by decide +kernel) ?_; cbv) | (refine br_intro ?_ ?_ <;> intro <;> cbv) | (refine get_at har (by assumption) (by assumption) (by assumption) (by assumption) ?_; cbv) | (refine get_lt har (by assumption) (by assumption) (by assumption) ?_; intro x xx hx hxx; cbv) | (refine get_atN har (by assumption) (by assumption) (by assumption) (by assumption) ?_; cbv) | (refine get_ltN har (by assumption) (by assumption) (by assumption) ?_; intro x xx hx hxx; cbv) | (refine get_atI har (by assumption) (by assumption) (by decide) ?_; cbv) | (refine get_twoA har (by assumption) (by assumption) (by decide) ?_; intro x hx; cbv) | (refine get_twoB har (by assumption) (by assumption) (by decide) ?_; intro x hx; cbv) | (refine bytes_intro (by assumption) ?_; cbv) | (exact side_lt har (by assumption) (by assumption)) | (exact side_inb har (by assumption) (by assumption) (by assumption)) | (exact side_sh har (by decide)) | (exact side_app har (by assumption) (by assumption) (by omega)) | (exact side_app0 har (by assumption) (by omega)) | (exact side_new har (by assumption) (by omega)) | (exact side_one har (by assumption) (by omega)) | (exact side_oneN har (by assumption) (by omega)) | (exact side_flat har (by assumption)) | (exact side_sbig har (by omega)) | (refine side_sbig har ?_; simp; done) | (exact side_oneI har (by assumption) (by omega)) | (refine side_ix har ?_; simp; done) | (refine side_ix har ?_; simp; omega) | (refine call_intro (iHasSuffix hP (by assumption) (by assumption) (by omega) (by omega)) ?_; rintro r ob ⟨rfl, rfl⟩; generalize hsf : sufB _ _ = sf; cbv) | (refine calld_intro (iHasSuffix hP (by assumption) (by assumption) (by omega) (by omega)) ?_; generalize hsf : sufB _ _ = sf; cbv))
  · rename_i h1 _ _ _
    have hle : c.length ≤ b.length := by rw [h1] at hsf; simp only [sufB, Bool.and_eq_true, decide_eq_true_eq] at hsf; exact hsf.1
    refine ⟨⟨?_, rfl⟩⟩
    rw [trimB, hsf, if_pos h1]
    refine congrArg (fun q => A.one (.t (.sl q))) ?_
    subst har; subst hl; subst hm
    show ((encB b).take (iopS .sub .i64 ((encB b).length : Int) ((encB c).length : Int)).toNat).drop (0 : Int).toNat = _
    rw [subI (by omega) (by omega), hl1, hl2, show ((b.length : Int) - (c.length : Int)).toNat = b.length - c.length by omega]
    simp [encB]
  · rename_i h1 _ _ _
    have hle : c.length ≤ b.length := by rw [h1] at hsf; simp only [sufB, Bool.and_eq_true, decide_eq_true_eq] at hsf; exact hsf.1
    have e : ar.iop .sub .i64 (ar.len es) (ar.len fs) = (b.length : Int) - c.length := by
      subst har; show iopS .sub .i64 (es.length : Int) (fs.length : Int) = _; rw [subI (by omega) (by omega), hl1, hl2]
    exact (show Side (ar.insub 0 (ar.iop .sub .i64 (ar.len es) (ar.len fs)) es ∧ ar.wid 1 es) by rw [e]; exact side_sub har hl ⟨by omega, by omega, by omega⟩)
  · rename_i h1
    exact ⟨⟨by rw [trimB, hsf, h1]; simp [hl], rfl⟩⟩
end Go.TL.Tryz
