/- Texts of a proof, joined by a program (merge.py): TfSpxI TfSplI TfRdI TfMoL TfRepE. -/
import Derived.Test.YtgdckdmamepaeaaGreatDoorT10
import Derived.Lib.IndexLaws
set_option linter.all false
/- TfSpxI -/
namespace Go.TL.Tryz
open Go Go.TL Go.Proofs Go.RowKit
set_option maxRecDepth 20000

theorem rep_u8 {w : World} {ok : Nat → Prop} {v : Value} {n : Int} (h : Rep w ok v (.int .u8 n)) : v = .int .u8 n := by cases h; rfl
/-- What the kit is told of bytes. -/
theorem cells_of {w : World} {ok : Nat → Prop} {v : Value} {s : List UInt8} (h : Rep w ok v (.sl (encB s))) : (v = .slice none 0 0 ∧ s = []) ∨
    ∃ b off cap, v = .slice (some ⟨b, off, none⟩) s.length cap ∧ ∀ i, i < s.length → w.cell? ⟨b, off + i, none⟩ = some (.int .u8 ((s.map iB).getD i 0)) := by
  generalize hes : encB s = es at h
  cases h with
  | snil => exact .inl ⟨rfl, by simpa [encB] using hes⟩
  | sl b off cap sz _ vs hm hcap hsz hok hc hr =>
    have hel := encB_len hes
    refine .inr ⟨b, off, cap, by rw [hel], fun i hi => ?_⟩
    have he : es[i]? = some [.int .u8 (iB s[i])] := by rw [← hes, encB, List.getElem?_map, List.getElem?_eq_getElem hi]; rfl
    have hz : sz = 1 := by rw [← hsz _ (List.mem_of_getElem? he)]; rfl
    subst hz
    have h1 := hc i 0 (by omega) (by omega)
    rw [rep_u8 (hr i 0 _ _ he rfl)] at h1
    rw [List.getD, List.getElem?_map, List.getElem?_eq_getElem hi]
    simpa using h1
theorem bytesOf_iB (s : List UInt8) : Lib.bytesOf (s.map iB) = s := by
  rw [Lib.bytesOf, List.map_map]
  exact List.map_id'' (fun x => by simp [iB]) s
theorem iB_u8 (x : UInt8) : (iB x).toNat.toUInt8 = x := by simp [iB]
theorem one_cell {w : World} {ok : Nat → Prop} {v : Value} {x : UInt8} (h : Rep w ok v (.sl [[.int .u8 (iB x)]])) : ∃ b off cap, v = .slice (some ⟨b, off, none⟩) 1 cap ∧ w.cell? ⟨b, off, none⟩ = some (.int .u8 (iB x)) := by
  rcases cells_of (s := [x]) h with ⟨_, h2⟩ | ⟨b, off, cap, h1, h2⟩
  · cases h2
  · exact ⟨b, off, cap, h1, by simpa using h2 0 (by simp)⟩
theorem rep_i64 (n : Int) (h0 : -9223372036854775808 ≤ n) (h1 : n ≤ 9223372036854775807) (w : World) (ok : Nat → Prop) : Rep w ok (.int .i64 n) (.int .i64 n) :=
  .int _ _ (by simp [IntKind.has, IntKind.min, IntKind.max, IntKind.signed, IntKind.bits]; omega)
theorem index_lt (s : List UInt8) (x : UInt8) : -1 ≤ Lib.indexByte s x ∧ Lib.indexByte s x < (s.length : Int) + 1 := by
  induction s with
  | nil => exact ⟨Int.le_refl _, by show (-1 : Int) < 0 + 1; decide⟩
  | cons b l ih =>
    unfold Lib.indexByte
    split
    · exact ⟨by decide, by simp only [List.length_cons]; omega⟩
    · split
      · exact ⟨by decide, by simp only [List.length_cons]; omega⟩
      · exact ⟨by omega, by simp only [List.length_cons]; omega⟩
theorem iIndex1 {P : Program} (hP : Prg P) {s : List UInt8} {ss : List (List T)} {x : UInt8} {xx : Int} (hs : encB s = ss) (hx : iB x = xx) (hb : s.length ≤ 1000000) :
    ACall P 249 [.one (.t (.sl ss)), .one (.t (.sl [[.int .u8 xx]]))] [] (fun r ob => r = .one (.t (.int .i64 (Lib.indexByte s x))) ∧ ob = []) := by
  have hP := hP.eq
  subst hP
  subst hs
  subst hx
  refine acall_pure Tryz.func249 (by rfl) (by decide) ?_
  intro w ok hd vs G hlt hl ha
  obtain ⟨v, u, rfl⟩ : ∃ v u, vs = [v, u] := by
    match vs, hl with
    | [v, u], _ => exact ⟨v, u, rfl⟩
  obtain ⟨b2, o2, c2, rfl, hc2⟩ := one_cell (show Rep w ok u (.sl [[.int .u8 (iB x)]]) from (ha 1 u _ rfl rfl).one_inv)
  have hr := index_lt s x
  rcases cells_of (show Rep w ok v (.sl (encB s)) from (ha 0 v _ rfl rfl).one_inv) with ⟨rfl, rfl⟩ | ⟨b, off, cap, rfl, hc⟩
  · refine (Tryz.bytes_Index_one_nil b2 o2 c2 (iB x) w hc2).mono ?_
    rintro e w' ⟨rfl, rfl⟩
    exact ⟨_, _, rfl, Below.refl _ _, fun w'' => rep_i64 (-1) (by decide) (by decide) w'' ok, rfl, rfl⟩
  · refine (Tryz.bytes_Index_one b off s.length cap b2 o2 c2 (s.map iB) (iB x) w (by simp) hc hc2).mono ?_
    rintro e w' ⟨rfl, rfl⟩
    rw [bytesOf_iB, iB_u8]
    exact ⟨_, _, rfl, Below.refl _ _, fun w'' => rep_i64 _ (by omega) (by omega) w'' ok, rfl, rfl⟩
theorem count_le (s : List UInt8) (x : UInt8) : Lib.countByte s x ≤ s.length := List.count_le_length
theorem iCount1 {P : Program} (hP : Prg P) {s : List UInt8} {ss : List (List T)} {x : UInt8} {xx : Int} (hs : encB s = ss) (hx : iB x = xx) (hb : s.length ≤ 1000000) :
    ACall P 248 [.one (.t (.sl ss)), .one (.t (.sl [[.int .u8 xx]]))] [] (fun r ob => r = .one (.t (.int .i64 (Lib.countByte s x))) ∧ ob = []) := by
  have hP := hP.eq
  subst hP
  subst hs
  subst hx
  refine acall_pure Tryz.func248 (by rfl) (by decide) ?_
  intro w ok hd vs G hlt hl ha
  obtain ⟨v, u, rfl⟩ : ∃ v u, vs = [v, u] := by
    match vs, hl with
    | [v, u], _ => exact ⟨v, u, rfl⟩
  obtain ⟨b2, o2, c2, rfl, hc2⟩ := one_cell (show Rep w ok u (.sl [[.int .u8 (iB x)]]) from (ha 1 u _ rfl rfl).one_inv)
  have hr := count_le s x
  rcases cells_of (show Rep w ok v (.sl (encB s)) from (ha 0 v _ rfl rfl).one_inv) with ⟨rfl, rfl⟩ | ⟨b, off, cap, rfl, hc⟩
  · refine (Tryz.bytes_Count_one_nil b2 o2 c2 (iB x) w hc2).mono ?_
    rintro e w' ⟨rfl, rfl⟩
    exact ⟨_, _, rfl, Below.refl _ _, fun w'' => rep_i64 0 (by decide) (by decide) w'' ok, rfl, rfl⟩
  · refine (Tryz.bytes_Count_one b off s.length cap b2 o2 c2 (s.map iB) (iB x) w (by simp) hc hc2).mono ?_
    rintro e w' ⟨rfl, rfl⟩
    rw [bytesOf_iB, iB_u8]
    exact ⟨_, _, rfl, Below.refl _ _, fun w'' => rep_i64 _ (by omega) (by omega) w'' ok, rfl, rfl⟩

/-- The pieces between a byte's places. -/
def splitC (x : UInt8) : List UInt8 → List (List UInt8)
  | [] => [[]]
  | b :: l => if b = x then [] :: splitC x l else match splitC x l with
    | [] => [[b]]
    | p :: r => (b :: p) :: r
theorem split_none {x : UInt8} : ∀ {s : List UInt8}, Lib.indexByte s x = -1 → splitC x s = [s] ∧ Lib.countByte s x = 0
  | [], _ => ⟨rfl, rfl⟩
  | b :: l, h => by
    unfold Lib.indexByte at h
    split at h
    · omega
    · rename_i hb
      have hne : ¬ b = x := by simpa using hb
      split at h
      · rename_i h1
        obtain ⟨i1, i2⟩ := split_none (s := l) (by simpa using h1)
        refine ⟨by rw [splitC, if_neg hne, i1], ?_⟩
        unfold Lib.countByte at *
        rw [List.count_cons_of_ne (by simpa using hne)]; exact i2
      · have := Lib.indexByte_ge l x; rename_i h1; simp at h1; omega
theorem split_some {x : UInt8} : ∀ {s : List UInt8} {m : Nat}, Lib.indexByte s x = m → m < s.length ∧ splitC x s = s.take m :: splitC x (s.drop (m + 1)) ∧ Lib.countByte s x = Lib.countByte (s.drop (m + 1)) x + 1
  | [], m, h => by unfold Lib.indexByte at h; omega
  | b :: l, m, h => by
    unfold Lib.indexByte at h
    split at h
    · rename_i hb
      have hb : b = x := by simpa using hb
      have : m = 0 := by omega
      subst this
      exact ⟨by simp, by rw [splitC, if_pos hb]; rfl, by unfold Lib.countByte; rw [hb, List.count_cons_self]; rfl⟩
    · rename_i hb
      have hne : ¬ b = x := by simpa using hb
      split at h
      · omega
      · rename_i h1
        have hge := Lib.indexByte_ge l x
        have h1 : Lib.indexByte l x ≠ -1 := by simpa using h1
        obtain ⟨j, rfl⟩ : ∃ j, m = j + 1 := ⟨m - 1, by omega⟩
        obtain ⟨i1, i2, i3⟩ := split_some (x := x) (s := l) (m := j) (by omega)
        refine ⟨by simp; omega, ?_, ?_⟩
        · rw [splitC, if_neg hne, i2]; rfl
        · unfold Lib.countByte at *
          rw [List.count_cons_of_ne (by simpa using hne), i3]; rfl
theorem split_zero {x : UInt8} {s : List UInt8} (h : Lib.countByte s x = 0) : splitC x s = [s] := by
  by_cases hi : Lib.indexByte s x = -1
  · exact (split_none hi).1
  · have hge := Lib.indexByte_ge s x
    obtain ⟨m, hm⟩ := Int.eq_ofNat_of_zero_le (show 0 ≤ Lib.indexByte s x by omega)
    have := (split_some hm).2.2
    omega
end Go.TL.Tryz

/- TfSplI -/
namespace Go.TL.Tryz
open Go Go.TL Go.Proofs Go.RowKit
set_option maxRecDepth 20000

set_option maxRecDepth 20000 in
theorem fn192 : Tryz.prog.funcs[192]? = some Tryz.f192 := rfl
set_option maxHeartbeats 40000000 in
set_option maxRecDepth 3000 in
theorem split_n {ar : Ar} (har : ar = std) {s : List UInt8} {ss : List (List T)} {c : Nat} {ct : Int} (hs : encB s = ss) (hb : s.length ≤ 1000000) (hc : c ≤ s.length) (hct : ((c : Nat) : Int) = ct) :
    ar.imin (ar.iop .add .i64 ct 1) (ar.iop .add .i64 (ar.len ss) 1) = ct + 1 ∧ ar.iop .sub .i64 (ar.imin (ar.iop .add .i64 ct 1) (ar.iop .add .i64 (ar.len ss) 1)) 1 = ct := by
  have hl := encB_len hs
  subst har
  have e1 : iopS .add .i64 ct 1 = ct + 1 := addI (by omega) (by omega)
  have e2 : iopS .add .i64 (ss.length : Int) 1 = ss.length + 1 := addI (by omega) (by omega)
  have e3 : std.imin (std.iop .add .i64 ct 1) (std.iop .add .i64 (std.len ss) 1) = ct + 1 := by
    show (if iopS .add .i64 (ss.length : Int) 1 < iopS .add .i64 ct 1 then iopS .add .i64 (ss.length : Int) 1 else iopS .add .i64 ct 1) = _
    rw [e1, e2, if_neg (by omega)]
  refine ⟨e3, ?_⟩
  rw [e3]
  show iopS .sub .i64 (ct + 1) 1 = ct
  rw [subI (by omega) (by omega)]; omega
theorem sp_lt {ar : Ar} (har : ar = std) {a b c : Int} (e : b = c) (h : ar.icmp .lss a b = true) : a < c := by subst har; subst e; simpa [std, icmpS] using h
theorem sp_ge {ar : Ar} (har : ar = std) {a b c : Int} (e : b = c) (h : ar.icmp .lss a b = false) : c ≤ a := by subst har; subst e; simpa [std, icmpS] using h
def SQ (N : Nat) (done : List (List UInt8)) (es : List (List T)) (i : Int) : Prop :=
  es = encN (done ++ List.replicate (N + 1 - done.length) []) ∧ i.toNat = done.length ∧ 0 ≤ i ∧ done.length ≤ N ∧ N ≤ 1000000
theorem SQ.len {N done es i} (h : SQ N done es i) : es.length = N + 1 := by
  obtain ⟨rfl, _, _, h4, _⟩ := h
  simp [encN]; omega
theorem sp_inb {ar : Ar} (har : ar = std) {N done es i} (h : SQ N done es i) : Side (ar.inb i es) := by
  have hl := h.len
  obtain ⟨_, h2, h3, h4, _⟩ := h
  subst har
  exact ⟨⟨h3, by omega⟩⟩
theorem drop_mid {α : Type} (l : List α) (a : α) (r : List α) {n : Nat} (h : l.length = n) : (l ++ a :: r).drop (n + 1) = r := by
  subst h
  induction l with
  | nil => rfl
  | cons b l ih => simpa using ih
theorem sp_set {ar : Ar} (har : ar = std) {N done es i} (h : SQ N done es i) {p : List UInt8} {ps : List (List T)} (hp : encB p = ps) :
    ar.setc es i 0 [.sl ps] = encN ((done ++ [p]) ++ List.replicate (N + 1 - (done ++ [p]).length) []) := by
  obtain ⟨rfl, h2, h3, h4, h5⟩ := h
  subst har
  subst hp
  show (encN _).modify i.toNat (fun e => setAt e 0 [.sl (encB p)]) = _
  rw [h2]
  obtain ⟨k, hk⟩ : ∃ k, N + 1 - done.length = k + 1 := ⟨N - done.length, by omega⟩
  have hk2 : N + 1 - (done ++ [p]).length = k := by simp; omega
  rw [hk, hk2]
  simp only [encN, List.map_append, List.replicate_succ, List.map_cons, List.append_assoc, List.cons_append, List.nil_append, List.map_nil]
  rw [List.modify_eq_take_cons_drop (by simp), drop_mid _ _ _ (by simp)]
  simp
  rfl
theorem sp_i {ar : Ar} (har : ar = std) {N done es i} (h : SQ N done es i) : ar.iop .add .i64 i 1 = i + 1 := by
  obtain ⟨_, h2, h3, h4, h5⟩ := h
  subst har
  exact addI (by omega) (by omega)
theorem sp_next {ar : Ar} (har : ar = std) {N done es i} (h : SQ N done es i) {p : List UInt8} {ps : List (List T)} (hp : encB p = ps) (hN : done.length < N) : SQ N (done ++ [p]) (ar.setc es i 0 [.sl ps]) (i + 1) :=
  ⟨sp_set har h hp, by obtain ⟨_, h2, h3, h4, h5⟩ := h; simp; omega, by obtain ⟨_, h2, h3, h4, h5⟩ := h; omega, by simp; omega, h.2.2.2.2⟩
theorem sp_cut {ar : Ar} (har : ar = std) {N done es i} (h : SQ N done es i) {p : List UInt8} {ps : List (List T)} (hp : encB p = ps) :
    Side (ar.insub 0 (ar.iop .add .i64 i 1) (ar.setc es i 0 [.sl ps]) ∧ ar.wid 1 (ar.setc es i 0 [.sl ps])) := by
  rw [sp_i har h]
  have hw : ar.wid 1 (ar.setc es i 0 [.sl ps]) := by rw [sp_set har h hp]; subst har; exact wid_encN _
  have hl : (ar.setc es i 0 [.sl ps]).length = N + 1 := by
    have hl := h.len
    subst har
    show (es.modify _ _).length = _
    rw [List.length_modify, hl]
  obtain ⟨_, h2, h3, h4, h5⟩ := h
  subst har
  exact ⟨⟨⟨by omega, by omega, by omega⟩, hw⟩⟩
theorem sp_end {ar : Ar} (har : ar = std) {N done es i} (h : SQ N done es i) {p : List UInt8} {ps : List (List T)} (hp : encB p = ps) :
    ar.sub (ar.setc es i 0 [.sl ps]) 0 (ar.iop .add .i64 i 1) = encN (done ++ [p]) := by
  rw [sp_i har h, sp_set har h hp]
  obtain ⟨_, h2, h3, h4, h5⟩ := h
  subst har
  show ((encN _).take (i + 1).toNat).drop 0 = _
  have : (i + 1).toNat = (encN (done ++ [p])).length := by simp [encN]; omega
  have ha : ∀ a b, encN (a ++ b) = encN a ++ encN b := fun a b => List.map_append
  rw [this, List.drop_zero, ha (done ++ [p])]
  exact List.take_left
theorem sp_sub {ar : Ar} (har : ar = std) {s : List UInt8} {ss : List (List T)} (hs : encB s = ss) {x : Int} {ix : Int} {m : Nat} (hm : ix = m) (hl : m < s.length) (hb : s.length ≤ 1000000) :
    ar.sub ss 0 (ar.iop .add .i64 ix 0) = encB (s.take m) ∧ ar.iop .add .i64 ix 0 = ix ∧ ar.sub ss (ar.iop .add .i64 ix (ar.len [[.int .u8 x]])) (ar.len ss) = encB (s.drop (m + 1)) ∧
    Side (ar.insub 0 (ar.iop .add .i64 ix 0) ss ∧ ar.insub (ar.iop .add .i64 ix 0) (ar.iop .add .i64 ix 0) ss ∧ ar.wid 1 ss) ∧
    Side (ar.insub (ar.iop .add .i64 ix (ar.len [[.int .u8 x]])) (ar.len ss) ss ∧ ar.wid 1 ss) := by
  have hel := encB_len hs
  have hw : std.wid 1 ss := by rw [← hs]; intro y hy; obtain ⟨z, _, rfl⟩ := List.mem_map.1 hy; rfl
  subst har
  subst hm
  have e0 : iopS .add .i64 (m : Int) 0 = m := by rw [addI (by omega) (by omega)]; omega
  have e1 : iopS .add .i64 (m : Int) 1 = m + 1 := addI (by omega) (by omega)
  refine ⟨?_, e0, ?_, ?_, ?_⟩
  · show (ss.take (iopS .add .i64 (m : Int) 0).toNat).drop 0 = _
    rw [e0, ← hs]; simp [encB, List.map_take]
  · show (ss.take (ss.length : Int).toNat).drop (iopS .add .i64 (m : Int) 1).toNat = _
    rw [e1, ← hs]
    rw [show ((m : Int) + 1).toNat = m + 1 by omega, List.take_of_length_le (by simp)]
    simp [encB, List.map_drop]
  · rw [show std.iop .add .i64 (m : Int) 0 = m from e0]
    exact ⟨⟨⟨by omega, by omega, by omega⟩, ⟨by omega, by omega, by omega⟩, hw⟩⟩
  · show Side (std.insub (iopS .add .i64 (m : Int) 1) (ss.length : Int) ss ∧ _)
    rw [e1]
    exact ⟨⟨⟨by omega, by omega, by omega⟩, hw⟩⟩
theorem iGenSplit {P : Program} (hP : Prg P) {s : List UInt8} {ss : List (List T)} {x : UInt8} {xx : Int} (hs : encB s = ss) (hx : iB x = xx) (hb : s.length ≤ 1000000) :
    ACall P 192 [.one (.t (.sl ss)), .one (.t (.sl [[.int .u8 xx]])), .one (.t (.int .i64 0)), .one (.t (.int .i64 (-1)))] [] (fun r ob => r = .one (.t (.sl (encN (splitC x s)))) ∧ ob = []) := by
  have hcl := count_le s x
  generalize hn : Lib.countByte s x = N at hcl
  generalize hK : (fun (r : A) (ob : Obs) => r = .one (.t (.sl (encN (splitC x s)))) ∧ ob = []) = K
  have hk : ∀ t, t = encN (splitC x s) → RetP K (A.one (V.t (T.sl t))) [] := by
    intro t ht
    subst hK
    exact ⟨⟨by rw [ht], rfl⟩⟩
  refine acall_fn (md := md) [none] v192 hP.mixed hP.tab (fn_at hP fn192) 4 rfl (by decide +kernel) rfl ?_
  intro ar har
  cbv
  repeat' (first | (intro; cbv) | (with_reducible refine and_side ?_ ?_; rotate_left; try cbv) | (refine ChkP.mk (by decide +kernel) ?_; cbv) | (refine br_intro ?_ ?_ <;> intro <;> cbv) | (refine get_at har (by assumption) (by assumption) (by assumption) (by assumption) ?_; cbv) | (refine get_lt har (by assumption) (by assumption) (by assumption) ?_; intro x xx hx hxx; cbv) | (refine get_atN har (by assumption) (by assumption) (by assumption) (by assumption) ?_; cbv) | (refine get_ltN har (by assumption) (by assumption) (by assumption) ?_; intro x xx hx hxx; cbv) | (refine get_atI har (by assumption) (by assumption) (by decide) ?_; cbv) | (refine get_twoA har (by assumption) (by assumption) (by decide) ?_; intro x hx; cbv) | (refine get_twoB har (by assumption) (by assumption) (by decide) ?_; intro x hx; cbv) | (refine bytes_intro (by assumption) ?_; cbv) | (exact side_lt har (by assumption) (by assumption)) | (exact side_inb har (by assumption) (by assumption) (by assumption)) | (exact side_sh har (by decide)) | (exact side_app har (by assumption) (by assumption) (by omega)) | (exact side_app0 har (by assumption) (by omega)) | (exact side_new har (by assumption) (by omega)) | (exact side_one har (by assumption) (by omega)) | (exact side_oneN har (by assumption) (by omega)) | (exact side_flat har (by assumption)) | (exact side_sbig har (by omega)) | (refine side_sbig har ?_; simp; done) | (exact side_oneI har (by assumption) (by omega)) | (refine side_ix har ?_; simp; done) | (refine side_ix har ?_; simp; omega) | (refine call_intro (iCount1 hP (by assumption) (by assumption) (by omega)) ?_; rintro r ob ⟨rfl, rfl⟩; generalize hct : ((Lib.countByte _ _ : Nat) : Int) = ct; cbv) | (refine calld_intro (iCount1 hP (by assumption) (by assumption) (by omega)) ?_; generalize hct : ((Lib.countByte _ _ : Nat) : Int) = ct; cbv))
  case refine_1 => exact absurd (show std.icmp .eql (-1) 0 = true by subst har; assumption) (by decide)
  case refine_2.refine_1 => exact absurd (show std.icmp .eql (std.len [[T.int .u8 xx]]) 0 = true by subst har; assumption) (by show ¬ (icmpS .eql ((1 : Nat) : Int) 0 = true); decide)
  case refine_2.refine_2.refine_2.refine_2 => exact absurd (show std.icmp .lss (-1) 0 = false by subst har; assumption) (by decide)
  case refine_2.refine_2.refine_2.refine_1 => exact absurd (show std.icmp .lss (-1) 0 = false by subst har; assumption) (by decide)
  case refine_2.refine_2.refine_1.refine_1 =>
    have e1 := (split_n har hs hb (by omega) hct).1
    have hct : ((N : Nat) : Int) = ct := by rw [← hn]; exact hct
    exact (show Side (ar.mkroom 24 (ar.imin (ar.iop .add .i64 ct 1) (ar.iop .add .i64 (ar.len ss) 1))) by
      rw [e1]; subst har; exact ⟨⟨by omega, by show (ct + 1) * (((24 : Nat) : Int) + 1) ≤ 2 ^ 46; omega⟩⟩)
  obtain ⟨e1, e2⟩ := split_n har hs hb (by omega) hct
  have hctn : ((N : Nat) : Int) = ct := by rw [← hn]; exact hct
  refine LoopP.mk (List (List UInt8) × List UInt8 × List (List T) × List (List T) × Int) [0, 1, 2, 3, 9, 10] []
    (fun q => ⟨[(0, .one (.t (.sl q.2.2.1))), (1, .one (.t (.sl [[.int .u8 xx]]))), (2, .one (.t (.int .i64 0))), (3, .one (.t (.int .i64 (ar.iop .sub .i64 (ar.imin (ar.iop .add .i64 ct 1) (ar.iop .add .i64 (ar.len ss) 1)) 1)))), (9, .one (.row 16 0)), (10, .one (.t (.int .i64 q.2.2.2.2)))], [(16, .row 1 q.2.2.2.1 0 [0] false)]⟩)
    (fun q => SQ N q.1 q.2.2.2.1 q.2.2.2.2 ∧ encB q.2.1 = q.2.2.1 ∧ q.1 ++ splitC x q.2.1 = splitC x s ∧ Lib.countByte q.2.1 x + q.1.length = N ∧ q.2.1.length ≤ s.length) (fun q => N - q.1.length) ([], s, ss, ar.rep (ar.imin (ar.iop .add .i64 ct 1) (ar.iop .add .i64 (ar.len ss) 1)) [.sl []], 0) ?e ?f ?g
  case e => kernel_rfl
  case f =>
    refine ⟨⟨?_, rfl, Int.le_refl _, by simp, by omega⟩, hs, rfl, by simpa using hn, Nat.le_refl _⟩
    dsimp only
    rw [e1]
    subst har
    show List.replicate (ct + 1).toNat [T.sl []] = _
    rw [← hctn, show (((N : Nat) : Int) + 1).toNat = N + 1 by omega]
    simp [encN]; rfl
  case g =>
    intro q hq
    obtain ⟨done, cur, cs, es, i⟩ := q
    have hsq : SQ N done es i := hq.1
    have hcs : encB cur = cs := hq.2.1
    have hsp : done ++ splitC x cur = splitC x s := hq.2.2.1
    have hcc : Lib.countByte cur x + done.length = N := hq.2.2.2.1
    have hcl2 : cur.length ≤ s.length := hq.2.2.2.2
    have hge := Lib.indexByte_ge cur x
    clear hq
    cbv
    repeat' (first | (intro; cbv) | (with_reducible refine and_side ?_ ?_; rotate_left; try cbv) | (refine ChkP.mk (by decide +kernel) ?_; cbv) | (refine br_intro ?_ ?_ <;> intro <;> cbv) | (refine get_at har (by assumption) (by assumption) (by assumption) (by assumption) ?_; cbv) | (refine get_lt har (by assumption) (by assumption) (by assumption) ?_; intro x xx hx hxx; cbv) | (refine get_atN har (by assumption) (by assumption) (by assumption) (by assumption) ?_; cbv) | (refine get_ltN har (by assumption) (by assumption) (by assumption) ?_; intro x xx hx hxx; cbv) | (refine get_atI har (by assumption) (by assumption) (by decide) ?_; cbv) | (refine get_twoA har (by assumption) (by assumption) (by decide) ?_; intro x hx; cbv) | (refine get_twoB har (by assumption) (by assumption) (by decide) ?_; intro x hx; cbv) | (refine bytes_intro (by assumption) ?_; cbv) | (exact side_lt har (by assumption) (by assumption)) | (exact side_inb har (by assumption) (by assumption) (by assumption)) | (exact side_sh har (by decide)) | (exact side_app har (by assumption) (by assumption) (by omega)) | (exact side_app0 har (by assumption) (by omega)) | (exact side_new har (by assumption) (by omega)) | (exact side_one har (by assumption) (by omega)) | (exact side_oneN har (by assumption) (by omega)) | (exact side_flat har (by assumption)) | (exact side_sbig har (by omega)) | (refine side_sbig har ?_; simp; done) | (exact side_oneI har (by assumption) (by omega)) | (refine side_ix har ?_; simp; done) | (refine side_ix har ?_; simp; omega) | (refine call_intro (iIndex1 hP (by assumption) (by assumption) (by omega)) ?_; rintro r ob ⟨rfl, rfl⟩; generalize hix : Lib.indexByte _ _ = ix; cbv) | (refine calld_intro (iIndex1 hP (by assumption) (by assumption) (by omega)) ?_; generalize hix : Lib.indexByte _ _ = ix; cbv))
    all_goals replace hctn : ((N : Nat) : Int) = ct := hctn
    case refine_1.refine_1.refine_2.refine_2.refine_2 =>
      have h1 := sp_lt har e2 (by assumption)
      have h2 := sp_lt har rfl (show ar.icmp .lss ix 0 = true by assumption)
      have := (split_none (s := cur) (x := x) (by omega)).2
      have := hsq.2.1
      have := hsq.2.2.1
      exact absurd h1 (by omega)
    case refine_1.refine_1.refine_2.refine_2.refine_1 => exact sp_cut har hsq hcs
    case refine_1.refine_1.refine_2.refine_1 => exact sp_inb har hsq
    case refine_1.refine_1.refine_1 => exact sp_inb har hsq
    case refine_2.refine_2.refine_2.refine_2 =>
      have h1 := sp_ge har e2 (by assumption)
      have := hsq.2.1
      have := hsq.2.2.1
      refine hk _ ((sp_end har hsq hcs).trans ?_)
      rw [← hsp, split_zero (s := cur) (by omega)]
    case refine_2.refine_2.refine_2.refine_1 => exact sp_cut har hsq hcs
    case refine_2.refine_2.refine_1 => exact sp_inb har hsq
    case refine_2.refine_1 => exact sp_inb har hsq
    all_goals
      have h1 := sp_lt har e2 (by assumption)
      have h2 := sp_ge har rfl (show ar.icmp .lss ix 0 = false by assumption)
      obtain ⟨m, hm⟩ := Int.eq_ofNat_of_zero_le (show 0 ≤ ix by omega)
      obtain ⟨p1, p2, p3⟩ := split_some (x := x) (s := cur) (m := m) (by omega)
      obtain ⟨q1, q2, q3, q4, q5⟩ := sp_sub har hcs (x := xx) hm p1 (by omega)
    case refine_1.refine_2.refine_1 => exact q4
    case refine_1.refine_2.refine_2.refine_1 => exact sp_inb har hsq
    case refine_1.refine_2.refine_2.refine_2.refine_1 => exact sp_inb har hsq
    case refine_1.refine_2.refine_2.refine_2.refine_2.refine_1 => exact q5
    have hN : done.length < N := by omega
    have hnx := sp_next har hsq (p := cur.take m) rfl hN
    refine ⟨(done ++ [cur.take m], cur.drop (m + 1), encB (cur.drop (m + 1)), ar.setc es i 0 [.sl (encB (cur.take m))], i + 1), ?_, ⟨hnx, rfl, ?_, ?_, ?_⟩, ?_⟩
    · dsimp only
      rw [← sp_i har hsq, ← q1, ← q3]
      kernel_rfl
    · dsimp only
      rw [← hsp, p2]; simp
    · dsimp only
      simp; omega
    · dsimp only
      simp; omega
    · dsimp only
      simp; omega
end Go.TL.Tryz

/- TfRdI -/
namespace Go.TL.Tryz
open Go Go.TL Go.Proofs Go.RowKit
set_option maxRecDepth 20000
variable {P : Program}
set_option maxRecDepth 20000 in
theorem fn106 : Tryz.prog.funcs[106]? = some Tryz.f106 := rfl
set_option maxHeartbeats 40000000 in
set_option maxRecDepth 3000 in
set_option maxRecDepth 20000 in
theorem fn36 : Tryz.prog.funcs[36]? = some Tryz.f36 := rfl
set_option maxHeartbeats 40000000 in
set_option maxRecDepth 3000 in
set_option maxRecDepth 20000 in
theorem fn10 : Tryz.prog.funcs[10]? = some Tryz.f10 := rfl
set_option maxHeartbeats 40000000 in
set_option maxRecDepth 3000 in
theorem iSplit (hP : Prg P) {s : List UInt8} {ss : List (List T)} {x : UInt8} {xx : Int} (hs : encB s = ss) (hx : iB x = xx) (hb : s.length ≤ 1000000) :
    ACall P 106 [.one (.t (.sl ss)), .one (.t (.sl [[.int .u8 xx]]))] [] (fun r ob => r = .one (.t (.sl (encN (splitC x s)))) ∧ ob = []) := by
  generalize hK : (fun (r : A) (ob : Obs) => r = .one (.t (.sl (encN (splitC x s)))) ∧ ob = []) = K
  refine acall_fn (md := md) [none] v106 hP.mixed hP.tab (fn_at hP fn106) 2 rfl (by decide +kernel) rfl ?_
  intro ar har
  cbv
  repeat' (first | (intro; cbv) | (with_reducible refine and_side ?_ ?_; rotate_left; try cbv) | (refine ChkP.mk (by decide +kernel) ?_; cbv) | (refine br_intro ?_ ?_ <;> intro <;> cbv) | (refine get_at har (by assumption) (by assumption) (by assumption) (by assumption) ?_; cbv) | (refine get_lt har (by assumption) (by assumption) (by assumption) ?_; intro x xx hx hxx; cbv) | (refine get_atN har (by assumption) (by assumption) (by assumption) (by assumption) ?_; cbv) | (refine get_ltN har (by assumption) (by assumption) (by assumption) ?_; intro x xx hx hxx; cbv) | (refine get_atI har (by assumption) (by assumption) (by decide) ?_; cbv) | (refine get_twoA har (by assumption) (by assumption) (by decide) ?_; intro x hx; cbv) | (refine get_twoB har (by assumption) (by assumption) (by decide) ?_; intro x hx; cbv) | (refine bytes_intro (by assumption) ?_; cbv) | (exact side_lt har (by assumption) (by assumption)) | (exact side_inb har (by assumption) (by assumption) (by assumption)) | (exact side_sh har (by decide)) | (exact side_app har (by assumption) (by assumption) (by omega)) | (exact side_app0 har (by assumption) (by omega)) | (exact side_new har (by assumption) (by omega)) | (exact side_one har (by assumption) (by omega)) | (exact side_oneN har (by assumption) (by omega)) | (exact side_flat har (by assumption)) | (exact side_sbig har (by omega)) | (refine side_sbig har ?_; simp; done) | (exact side_oneI har (by assumption) (by omega)) | (refine side_ix har ?_; simp; done) | (refine side_ix har ?_; simp; omega) | (refine call_intro (iGenSplit hP (by assumption) (by assumption) (by omega)) ?_; rintro r ob ⟨rfl, rfl⟩; generalize hsx : splitC _ _ = sx; generalize hsn : encN sx = sn; cbv) | (refine calld_intro (iGenSplit hP (by assumption) (by assumption) (by omega)) ?_; generalize hsx : splitC _ _ = sx; generalize hsn : encN sx = sn; cbv))
  subst hK
  exact ⟨⟨by rw [← hsn, ← hsx], rfl⟩⟩
def mdR (n : Nat) : Md := bif eqB n 107 then ⟨[], false⟩ else md n
/-- What the program reads out of a name's text. -/
def nameReadI (b : List UInt8) : List (List UInt8) × Bool :=
  if b = [46] then ([], true) else if 96 < b.length then ([], false) else
    if nameOk (splitC 46 (trimB (lower b) [46])) then (splitC 46 (trimB (lower b) [46]), true) else ([], false)
theorem trimB_le (b c : List UInt8) : (trimB b c).length ≤ b.length := by
  unfold trimB; split
  · exact Nat.le_trans (List.length_take_le _ _) (by omega)
  · exact Nat.le_refl _
theorem nmB_ok2 {n : List (List UInt8)} {no : Bool} (h : nameOk n = no) (k : no = true) : NmB n := nmB_ok (h.trans k)
def nmR (x : List (List UInt8) × Bool) : A := .tup [.agg [.t (.sl (encN x.1))], .one (.t (.bool x.2))]
theorem iNameRead (hP : Prg P) {b : List UInt8} {bs : List (List T)} (hb : encB b = bs) (hl : b.length ≤ 1000000) :
    ACall P 36 [.one (.t (.sl bs))] [] (fun r ob => r = nmR (nameReadI b) ∧ ob = []) := by
  have hbl := encB_len hb
  have hcut : (trimB (lower b) [46]).length ≤ 1000000 := Nat.le_trans (trimB_le _ _) (by rw [lower_len]; exact hl)
  generalize hK : (fun (r : A) (ob : Obs) => r = nmR (nameReadI b) ∧ ob = []) = K
  have hk : ∀ r, r = nmR (nameReadI b) → RetP K r [] := by
    intro t ht
    subst hK
    exact ⟨⟨ht, rfl⟩⟩
  refine acall_fn (md := mdR) [none, none] v36 hP.mixed hP.tab (fn_at hP fn36) 1 rfl (by decide +kernel) rfl ?_
  intro ar har
  cbv
  repeat' (first | (intro; cbv) | (with_reducible refine and_side ?_ ?_; rotate_left; try cbv) | (refine ChkP.mk (by decide +kernel) ?_; cbv) | (refine br_intro ?_ ?_ <;> intro <;> cbv) | (refine get_at har (by assumption) (by assumption) (by assumption) (by assumption) ?_; cbv) | (refine get_lt har (by assumption) (by assumption) (by assumption) ?_; intro x xx hx hxx; cbv) | (refine get_atN har (by assumption) (by assumption) (by assumption) (by assumption) ?_; cbv) | (refine get_ltN har (by assumption) (by assumption) (by assumption) ?_; intro x xx hx hxx; cbv) | (refine get_atI har (by assumption) (by assumption) (by decide) ?_; cbv) | (refine get_twoA har (by assumption) (by assumption) (by decide) ?_; intro x hx; cbv) | (refine get_twoB har (by assumption) (by assumption) (by decide) ?_; intro x hx; cbv) | (refine bytes_intro (by assumption) ?_; cbv) | (exact side_lt har (by assumption) (by assumption)) | (exact side_inb har (by assumption) (by assumption) (by assumption)) | (exact side_sh har (by decide)) | (exact side_app har (by assumption) (by assumption) (by omega)) | (exact side_app0 har (by assumption) (by omega)) | (exact side_new har (by assumption) (by omega)) | (exact side_one har (by assumption) (by omega)) | (exact side_oneN har (by assumption) (by omega)) | (exact side_flat har (by assumption)) | (exact side_sbig har (by omega)) | (refine side_sbig har ?_; simp; done) | (exact side_oneI har (by assumption) (by omega)) | (refine side_ix har ?_; simp; done) | (refine side_ix har ?_; simp; omega) | (refine call_intro (iLower hP (by assumption) (by omega)) ?_; rintro r ob ⟨rfl, rfl⟩; generalize hms : encB (lower _) = ms; cbv) | (refine calld_intro (iLower hP (by assumption) (by omega)) ?_; generalize hms : encB (lower _) = ms; cbv) | (refine call_intro (iTrimSuffix hP (by assumption) (show encB [46] = [[.int .u8 46]] from rfl) (by rw [lower_len]; omega) (by decide)) ?_; rintro r ob ⟨rfl, rfl⟩; generalize htr : encB (trimB _ _) = tr; cbv) | (refine calld_intro (iTrimSuffix hP (by assumption) (show encB [46] = [[.int .u8 46]] from rfl) (by rw [lower_len]; omega) (by decide)) ?_; generalize htr : encB (trimB _ _) = tr; cbv) | (refine call_intro (iSplit hP (by assumption) (show iB 46 = 46 from rfl) (by assumption)) ?_; rintro r ob ⟨rfl, rfl⟩; generalize hsx : splitC _ _ = sx; generalize hsn : encN sx = sn; cbv) | (refine calld_intro (iSplit hP (by assumption) (show iB 46 = 46 from rfl) (by assumption)) ?_; generalize hsx : splitC _ _ = sx; generalize hsn : encN sx = sn; cbv) | (refine call_intro (iNameOk hP (by assumption)) ?_; rintro r ob ⟨rfl, rfl⟩; generalize hno : nameOk _ = no; cbv) | (refine calld_intro (iNameOk hP (by assumption)) ?_; generalize hno : nameOk _ = no; cbv) | (refine call_intro (iCopied hP (by assumption) (nmB_ok2 (by assumption) (by assumption))) ?_; rintro r ob ⟨rfl, rfl⟩; cbv) | (refine calld_intro (iCopied hP (by assumption) (nmB_ok2 (by assumption) (by assumption))) ?_; cbv))
  case refine_1 =>
    rename_i h1
    have h1 : b = [46] := by subst har; simpa [std] using h1
    exact hk _ (by rw [nameReadI, if_pos h1]; rfl)
  case refine_2.refine_1 =>
    rename_i h1 h2 h3
    have h1 : ¬ b = [46] := by subst har; simpa [std] using h1
    have h3 : 96 < b.length := by subst har; simp [std, icmpS, hbl] at h3; omega
    exact hk _ (by rw [nameReadI, if_neg h1, if_pos h3]; rfl)
  all_goals
    have h1 : ¬ b = [46] := by subst har; have : std.seq b [46] = false := (by assumption); simpa [std] using this
    have h3 : ¬ 96 < b.length := by subst har; have : std.icmp .gtr (std.len bs) 96 = false := (by assumption); simp [std, icmpS, hbl] at this; omega
    have hkk : ∀ r, r = (if no then nmR (sx, true) else nmR ([], false)) → RetP K r [] := by
      intro r hr
      refine hk _ (hr.trans ?_)
      rw [nameReadI, if_neg h1, if_neg h3, hsx, hno]
      cases no <;> rfl
  case refine_2.refine_2.refine_2.refine_2.refine_2.refine_1 =>
    rename_i h4
    have h4 : no = false := by subst har; simpa [std] using h4
    exact hkk _ (by rw [h4]; rfl)
  rename_i h4
  have h4 : no = true := by subst har; simpa [std] using h4
  repeat' (first | (intro; cbv) | (with_reducible refine and_side ?_ ?_; rotate_left; try cbv) | (refine ChkP.mk (by decide +kernel) ?_; cbv) | (refine br_intro ?_ ?_ <;> intro <;> cbv) | (refine get_at har (by assumption) (by assumption) (by assumption) (by assumption) ?_; cbv) | (refine get_lt har (by assumption) (by assumption) (by assumption) ?_; intro x xx hx hxx; cbv) | (refine get_atN har (by assumption) (by assumption) (by assumption) (by assumption) ?_; cbv) | (refine get_ltN har (by assumption) (by assumption) (by assumption) ?_; intro x xx hx hxx; cbv) | (refine get_atI har (by assumption) (by assumption) (by decide) ?_; cbv) | (refine get_twoA har (by assumption) (by assumption) (by decide) ?_; intro x hx; cbv) | (refine get_twoB har (by assumption) (by assumption) (by decide) ?_; intro x hx; cbv) | (refine bytes_intro (by assumption) ?_; cbv) | (exact side_lt har (by assumption) (by assumption)) | (exact side_inb har (by assumption) (by assumption) (by assumption)) | (exact side_sh har (by decide)) | (exact side_app har (by assumption) (by assumption) (by omega)) | (exact side_app0 har (by assumption) (by omega)) | (exact side_new har (by assumption) (by omega)) | (exact side_one har (by assumption) (by omega)) | (exact side_oneN har (by assumption) (by omega)) | (exact side_flat har (by assumption)) | (exact side_sbig har (by omega)) | (refine side_sbig har ?_; simp; done) | (exact side_oneI har (by assumption) (by omega)) | (refine side_ix har ?_; simp; done) | (refine side_ix har ?_; simp; omega) | (refine call_intro (iCopied hP (by assumption) (nmB_ok2 (by assumption) (by assumption))) ?_; rintro r ob ⟨rfl, rfl⟩; cbv) | (refine calld_intro (iCopied hP (by assumption) (nmB_ok2 (by assumption) (by assumption))) ?_; cbv))
  exact hkk _ (by rw [h4, if_pos rfl, nmR, ← hsn])
theorem nameRead_Ab : nameReadI [65, 46, 98] = ([[97], [98]], true) := by rfl
theorem lNames (hP : Prg P) : ACall P 10 [] [] (fun r ob => r = .one (.t (.bool true)) ∧ ob = []) := by
  generalize hK : (fun (r : A) (ob : Obs) => r = .one (.t (.bool true)) ∧ ob = []) = K
  have hn : encN [[97], [98]] = [[.sl [[.int .u8 97]]], [.sl [[.int .u8 98]]]] := by rfl
  have hb : encB [97, 46, 98, 46] = [[.int .u8 97], [.int .u8 46], [.int .u8 98], [.int .u8 46]] := by rfl
  refine acall_fn (md := md) [none] v10 hP.mixed hP.tab (fn_at hP fn10) 0 rfl (by decide +kernel) rfl ?_
  intro ar har
  cbv
  repeat' (first | (intro; cbv) | (with_reducible refine and_side ?_ ?_; rotate_left; try cbv) | (refine ChkP.mk (by decide +kernel) ?_; cbv) | (refine br_intro ?_ ?_ <;> intro <;> cbv) | (refine get_at har (by assumption) (by assumption) (by assumption) (by assumption) ?_; cbv) | (refine get_lt har (by assumption) (by assumption) (by assumption) ?_; intro x xx hx hxx; cbv) | (refine get_atN har (by assumption) (by assumption) (by assumption) (by assumption) ?_; cbv) | (refine get_ltN har (by assumption) (by assumption) (by assumption) ?_; intro x xx hx hxx; cbv) | (refine get_atI har (by assumption) (by assumption) (by decide) ?_; cbv) | (refine get_twoA har (by assumption) (by assumption) (by decide) ?_; intro x hx; cbv) | (refine get_twoB har (by assumption) (by assumption) (by decide) ?_; intro x hx; cbv) | (refine bytes_intro (by assumption) ?_; cbv) | (exact side_lt har (by assumption) (by assumption)) | (exact side_inb har (by assumption) (by assumption) (by assumption)) | (exact side_sh har (by decide)) | (exact side_app har (by assumption) (by assumption) (by omega)) | (exact side_app0 har (by assumption) (by omega)) | (exact side_new har (by assumption) (by omega)) | (exact side_one har (by assumption) (by omega)) | (exact side_oneN har (by assumption) (by omega)) | (exact side_flat har (by assumption)) | (exact side_sbig har (by omega)) | (refine side_sbig har ?_; simp; done) | (exact side_oneI har (by assumption) (by omega)) | (refine side_ix har ?_; simp; done) | (refine side_ix har ?_; simp; omega))
  refine call_intro (iNameRead hP (b := [65, 46, 98]) rfl (by decide)) ?_
  rintro r ob ⟨rfl, rfl⟩
  rw [nameRead_Ab, nmR, hn]
  cbv
  repeat' (first | (intro; cbv) | (with_reducible refine and_side ?_ ?_; rotate_left; try cbv) | (refine ChkP.mk (by decide +kernel) ?_; cbv) | (refine br_intro ?_ ?_ <;> intro <;> cbv) | (refine get_at har (by assumption) (by assumption) (by assumption) (by assumption) ?_; cbv) | (refine get_lt har (by assumption) (by assumption) (by assumption) ?_; intro x xx hx hxx; cbv) | (refine get_atN har (by assumption) (by assumption) (by assumption) (by assumption) ?_; cbv) | (refine get_ltN har (by assumption) (by assumption) (by assumption) ?_; intro x xx hx hxx; cbv) | (refine get_atI har (by assumption) (by assumption) (by decide) ?_; cbv) | (refine get_twoA har (by assumption) (by assumption) (by decide) ?_; intro x hx; cbv) | (refine get_twoB har (by assumption) (by assumption) (by decide) ?_; intro x hx; cbv) | (refine bytes_intro (by assumption) ?_; cbv) | (exact side_lt har (by assumption) (by assumption)) | (exact side_inb har (by assumption) (by assumption) (by assumption)) | (exact side_sh har (by decide)) | (exact side_app har (by assumption) (by assumption) (by omega)) | (exact side_app0 har (by assumption) (by omega)) | (exact side_new har (by assumption) (by omega)) | (exact side_one har (by assumption) (by omega)) | (exact side_oneN har (by assumption) (by omega)) | (exact side_flat har (by assumption)) | (exact side_sbig har (by omega)) | (refine side_sbig har ?_; simp; done) | (exact side_oneI har (by assumption) (by omega)) | (refine side_ix har ?_; simp; done) | (refine side_ix har ?_; simp; omega) | (refine call_intro (iNameText hP (by assumption)) ?_; rintro r ob ⟨rfl, rfl⟩; generalize hnt : encB (nameTextB _) = nt; cbv) | (refine calld_intro (iNameText hP (by assumption)) ?_; generalize hnt : encB (nameTextB _) = nt; cbv) | (refine call_intro (lSame hP (by assumption) (by assumption)) ?_; rintro r ob ⟨rfl, rfl⟩; cbv) | (refine calld_intro (lSame hP (by assumption) (by assumption)) ?_; cbv))
  case refine_2.refine_1.refine_2.refine_2 => subst hK; exact ⟨⟨rfl, rfl⟩⟩
  case refine_2.refine_2 => exact absurd (show std.icmp .eql (std.len [[T.sl [[T.int .u8 97]]], [T.sl [[T.int .u8 98]]]]) 2 = false by subst har; assumption) (by show ¬ (icmpS .eql ((2 : Nat) : Int) 2 = false); decide)
end Go.TL.Tryz

/- TfMoL -/
namespace Go.TL.Tryz
open Go Go.TL Go.Proofs Go.RowKit
set_option maxRecDepth 20000
variable {P : Program}
theorem rep_bad {m x : Mes} {rc : Int} {xs : List (List T)} {mk : Bool} (hx : x = replyTo m rc) (hxs : encQ x.qs = xs) (hmk : msgOk m = mk) (h : mk = false ∨ rc < 0 ∨ 10 < rc) : xs = [] ∧ x.reply = false := by
  have e : x = noM := by
    rw [hx, replyTo, if_neg]
    rw [Bool.and_eq_true, hmk]
    rintro ⟨h1, h2⟩
    simp only [withinB, decide_eq_true_eq] at h2
    rcases h with h | h | h
    · rw [h] at h1; cases h1
    · omega
    · omega
  subst e
  exact ⟨hxs.symm, rfl⟩
theorem bnot_t {ar : Ar} (har : ar = std) {b : Bool} (h : ar.bnot b = true) : b = false := by subst har; simpa [std] using h
theorem bnot_f {ar : Ar} (har : ar = std) {b : Bool} (h : ar.bnot b = false) : b = true := by subst har; simpa [std] using h
theorem gt_cmp {ar : Ar} (har : ar = std) {a b : Int} (h : ar.icmp .gtr a b = true) : b < a := by subst har; simpa [std, icmpS] using h
theorem le_cmp {ar : Ar} (har : ar = std) {a b : Int} (h : ar.icmp .gtr a b = false) : a ≤ b := by subst har; simpa [std, icmpS] using h
theorem eq_cmp {ar : Ar} (har : ar = std) {a b : Int} (h : ar.icmp .eql a b = true) : a = b := by subst har; simpa [std, icmpS] using h
theorem ne_cmp {ar : Ar} (har : ar = std) {a b : Int} (h : ar.icmp .eql a b = false) : ¬ a = b := by subst har; simpa [std, icmpS] using h
theorem cnt_succ {l : List UInt8} {i : Int} {x : UInt8} (h0 : 0 ≤ i) (hx : l[i.toNat]? = some x) : (l.take (i + 1).toNat).count 10 = (l.take i.toNat).count 10 + (if iB x = 10 then 1 else 0) := by
  rw [show (i + 1).toNat = i.toNat + 1 by omega, List.take_add_one, hx, List.count_append]
  by_cases h : iB x = 10
  · obtain rfl : x = 10 := iB_inj h
    simp [h]
  · have : x ≠ 10 := fun e => h (by rw [e]; rfl)
    simp [h, this]
theorem fin_eq {ar : Ar} (har : ar = std) {c : Int} {a b d : List (List T)} (h1 : a.length ≤ 12) (h2 : b.length ≤ 12) (h3 : d.length ≤ 12) (h : c = 1 + a.length + b.length + d.length) :
    ar.icmp .eql c (ar.iop .add .i64 (ar.iop .add .i64 (ar.iop .add .i64 1 (ar.len a)) (ar.len b)) (ar.len d)) = true := by
  have e1 : ar.iop .add .i64 1 (ar.len a) = 1 + a.length := by subst har; exact addI (by show (-9223372036854775808 : Int) ≤ 1 + (a.length : Int); omega) (by show 1 + (a.length : Int) ≤ _; omega)
  have e2 : ar.iop .add .i64 (1 + a.length) (ar.len b) = 1 + a.length + b.length := by subst har; exact addI (by show (-9223372036854775808 : Int) ≤ 1 + (a.length : Int) + (b.length : Int); omega) (by show 1 + (a.length : Int) + (b.length : Int) ≤ _; omega)
  have e3 : ar.iop .add .i64 (1 + a.length + b.length) (ar.len d) = 1 + a.length + b.length + d.length := by subst har; exact addI (by show (-9223372036854775808 : Int) ≤ 1 + (a.length : Int) + (b.length : Int) + (d.length : Int); omega) (by show 1 + (a.length : Int) + (b.length : Int) + (d.length : Int) ≤ _; omega)
  rw [e1, e2, e3, h]
  subst har
  simp [std, icmpS]
theorem len0_f {ar : Ar} (har : ar = std) {es : List (List T)} (h : ar.icmp .eql (ar.len es) 0 = false) (e : es = []) : False := by subst har; subst e; simp [std, icmpS] at h
set_option maxRecDepth 20000 in
theorem fn3 : Tryz.prog.funcs[3]? = some Tryz.f3 := rfl
set_option maxHeartbeats 40000000 in
set_option maxRecDepth 3000 in
set_option maxRecDepth 30000 in
theorem lReplies (hP : Prg P) {code : List UInt8} {es : List (List T)} (hes : encB code = es) : ACall P 3 [.one (.t (.sl es))] [] (fun r ob => r = .one (.t (.bool true)) ∧ ob = []) := by
  generalize hK : (fun (r : A) (ob : Obs) => r = .one (.t (.bool true)) ∧ ob = []) = K
  have hk : RetP K (.one (.t (.bool true))) [] := by subst hK; exact ⟨⟨rfl, rfl⟩⟩
  have hk2 : ∀ b, b = true → RetP K (.one (.t (.bool b))) [] := fun b hb => hb ▸ hk
  refine acall_fn (md := md) [none] v3 hP.mixed hP.tab (fn_at hP fn3) 1 rfl (by decide +kernel) rfl ?_
  intro ar har
  cbv
  repeat' (first | (intro; cbv) | (with_reducible refine and_side ?_ ?_; rotate_left; try cbv) | (refine ChkP.mk (by decide +kernel) ?_; cbv) | (refine br_intro ?_ ?_ <;> intro <;> cbv) | (refine get_at har (by assumption) (by assumption) (by assumption) (by assumption) ?_; cbv) | (refine get_lt har (by assumption) (by assumption) (by assumption) ?_; intro x xx hx hxx; cbv) | (refine get_atN har (by assumption) (by assumption) (by assumption) (by assumption) ?_; cbv) | (refine get_ltN har (by assumption) (by assumption) (by assumption) ?_; intro x xx hx hxx; cbv) | (refine get_atI har (by assumption) (by assumption) (by decide) ?_; cbv) | (refine get_twoA har (by assumption) (by assumption) (by decide) ?_; intro x hx; cbv) | (refine get_twoB har (by assumption) (by assumption) (by decide) ?_; intro x hx; cbv) | (refine bytes_intro (by assumption) ?_; cbv) | (exact side_lt har (by assumption) (by assumption)) | (exact side_inb har (by assumption) (by assumption) (by assumption)) | (exact side_sh har (by decide)) | (exact side_app har (by assumption) (by assumption) (by omega)) | (exact side_app0 har (by assumption) (by omega)) | (exact side_new har (by assumption) (by omega)) | (exact side_one har (by assumption) (by omega)) | (exact side_oneN har (by assumption) (by omega)) | (exact side_flat har (by assumption)) | (exact side_sbig har (by omega)) | (refine side_sbig har ?_; simp; done) | (exact side_oneI har (by assumption) (by omega)) | (refine side_ix har ?_; simp; done) | (refine side_ix har ?_; simp; omega) | (refine call_intro (drawReplyTo_w hP (by assumption)) ?_; rintro r ob ⟨m, qss, ans, aus, mos, prs, ups, rc, hq, ha, hu, ho, hp, hup, rfl, rfl⟩; cbv) | (refine call_intro (iReplyTo hP ⟨by assumption, by assumption, by assumption, by assumption, by assumption, by assumption⟩) ?_; rintro r ob ⟨x, xs, hxs, hx, rfl, rfl⟩; cbv) | (refine call_intro (sMsgOk hP ⟨by assumption, by assumption, by assumption, by assumption, by assumption, by assumption⟩) ?_; rintro r ob ⟨rfl, rfl⟩; generalize hmk : msgOk _ = mk; cbv) | (refine calld_intro (sMsgOk hP ⟨by assumption, by assumption, by assumption, by assumption, by assumption, by assumption⟩) ?_; generalize hmk : msgOk _ = mk; cbv) | (refine call_intro (lNames hP) ?_; rintro r ob ⟨rfl, rfl⟩; cbv) | (refine calld_intro (lNames hP) ?_; cbv))
  case refine_2.refine_2.refine_2 =>
    have hm1 : msgOk m = true := hmk.trans (bnot_f har (by assumption))
    have hrc1 := ge_cmp har (by assumption : ar.icmp .lss rc 0 = false)
    have hrc2 := le_cmp har (by assumption : ar.icmp .gtr rc 10 = false)
    have hrc : withinB rc 0 10 = true := by simp only [withinB, decide_eq_true_eq]; omega
    have hxe : x = repM m rc := by rw [hx, replyTo, hm1, hrc]; rfl
    subst hxe
    obtain rfl : qss = xs := by rw [← hq, ← hxs]; rfl
    clear hx hxs
    obtain ⟨fid, fop, fcode, ⟨q, fq, fnok, fnb, fqt⟩, fan, fau, fmo, fpr, fup⟩ := mayF (m := m) (by simp only [msgOk, Bool.and_eq_true] at hm1; exact hm1.1)
    have h12a := encR_len ha
    have h12b := encR_len hu
    have h12c := encR_len ho
    have hla := listOk_len fan
    have hlb := listOk_len fau
    have hlc := listOk_len fmo
    have hrep := msgOk_reply hm1 hrc
    repeat' (first | (intro; cbv) | (with_reducible refine and_side ?_ ?_; rotate_left; try cbv) | (refine ChkP.mk (by decide +kernel) ?_; cbv) | (refine br_intro ?_ ?_ <;> intro <;> cbv) | (refine get_at har (by assumption) (by assumption) (by assumption) (by assumption) ?_; cbv) | (refine get_lt har (by assumption) (by assumption) (by assumption) ?_; intro x xx hx hxx; cbv) | (refine get_atN har (by assumption) (by assumption) (by assumption) (by assumption) ?_; cbv) | (refine get_ltN har (by assumption) (by assumption) (by assumption) ?_; intro x xx hx hxx; cbv) | (refine get_atI har (by assumption) (by assumption) (by decide) ?_; cbv) | (refine get_twoA har (by assumption) (by assumption) (by decide) ?_; intro x hx; cbv) | (refine get_twoB har (by assumption) (by assumption) (by decide) ?_; intro x hx; cbv) | (refine bytes_intro (by assumption) ?_; cbv) | (exact side_lt har (by assumption) (by assumption)) | (exact side_inb har (by assumption) (by assumption) (by assumption)) | (exact side_sh har (by decide)) | (exact side_app har (by assumption) (by assumption) (by omega)) | (exact side_app0 har (by assumption) (by omega)) | (exact side_new har (by assumption) (by omega)) | (exact side_one har (by assumption) (by omega)) | (exact side_oneN har (by assumption) (by omega)) | (exact side_flat har (by assumption)) | (exact side_sbig har (by omega)) | (refine side_sbig har ?_; simp; done) | (exact side_oneI har (by assumption) (by omega)) | (refine side_ix har ?_; simp; done) | (refine side_ix har ?_; simp; omega) | (refine call_intro (iMsgText hP ⟨by assumption, by assumption, by assumption, by assumption, by assumption, by assumption⟩) ?_; rintro r ob ⟨tb, tbs, htb, htc, htbl, rfl, rfl⟩; cbv))
    have htc := htc hm1
    obtain ⟨qns, hqn⟩ : ∃ qns, encN q.n = qns := ⟨_, rfl⟩
    have hqe : qss = [[.sl qns, .int .i64 q.t]] := by rw [← hq, fq, ← hqn]; rfl
    subst hqe
    refine loop_start [] [] ?_
    cbv
    refine LoopR.mk (Int × Int) (fun x => ([(7, .one (.t (.int .i64 x.1))), (8, .one (.t (.int .i64 x.2)))], [])) (fun x => 0 ≤ x.2 ∧ x.2.toNat ≤ tb.length ∧ x.1.toNat = (tb.take x.2.toNat).count 10 ∧ 0 ≤ x.1) (fun x => tb.length - x.2.toNat) (0, 0) ?e ?f ?g
    case e => kernel_rfl
    case f => exact ⟨Int.le_refl _, Nat.zero_le _, by simp, Int.le_refl _⟩
    case g =>
      intro y hy
      obtain ⟨c, i⟩ := y
      have hi0 : 0 ≤ i := hy.1
      have hil : i.toNat ≤ tb.length := hy.2.1
      have hci : c.toNat = (tb.take i.toNat).count 10 ∧ 0 ≤ c := hy.2.2
      clear hy
      have hcl : (tb.take i.toNat).count 10 ≤ tb.length := Nat.le_trans List.count_le_length (by simp; omega)
      generalize hcc : (tb.take i.toNat).count 10 = cc at hci hcl
      cbv
      repeat' (first | (intro; cbv) | (with_reducible refine and_side ?_ ?_; rotate_left; try cbv) | (refine ChkP.mk (by decide +kernel) ?_; cbv) | (refine br_intro ?_ ?_ <;> intro <;> cbv) | (refine get_at har (by assumption) (by assumption) (by assumption) (by assumption) ?_; cbv) | (refine get_lt har (by assumption) (by assumption) (by assumption) ?_; intro x xx hx hxx; cbv) | (refine get_atN har (by assumption) (by assumption) (by assumption) (by assumption) ?_; cbv) | (refine get_ltN har (by assumption) (by assumption) (by assumption) ?_; intro x xx hx hxx; cbv) | (refine get_atI har (by assumption) (by assumption) (by decide) ?_; cbv) | (refine get_twoA har (by assumption) (by assumption) (by decide) ?_; intro x hx; cbv) | (refine get_twoB har (by assumption) (by assumption) (by decide) ?_; intro x hx; cbv) | (refine bytes_intro (by assumption) ?_; cbv) | (exact side_lt har (by assumption) (by assumption)) | (exact side_inb har (by assumption) (by assumption) (by assumption)) | (exact side_sh har (by decide)) | (exact side_app har (by assumption) (by assumption) (by omega)) | (exact side_app0 har (by assumption) (by omega)) | (exact side_new har (by assumption) (by omega)) | (exact side_one har (by assumption) (by omega)) | (exact side_oneN har (by assumption) (by omega)) | (exact side_flat har (by assumption)) | (exact side_sbig har (by omega)) | (refine side_sbig har ?_; simp; done) | (exact side_oneI har (by assumption) (by omega)) | (refine side_ix har ?_; simp; done) | (refine side_ix har ?_; simp; omega) | (refine call_intro (iMsgOk hP (m := repM _ _) ⟨by assumption, rfl, rfl, rfl, rfl, rfl⟩) ?_; rintro r ob ⟨rfl, rfl⟩; rw [hrep]; cbv) | (refine calld_intro (iMsgOk hP (m := repM _ _) ⟨by assumption, rfl, rfl, rfl, rfl, rfl⟩) ?_; rw [hrep]; cbv) | (refine call_intro (lSameName hP (by assumption) (by assumption)) ?_; rintro r ob ⟨rfl, rfl⟩; rw [beq_self_eq_true]; cbv) | (refine calld_intro (lSameName hP (by assumption) (by assumption)) ?_; rw [beq_self_eq_true]; cbv) | (refine get_lit0 har ?_; cbv))
      case refine_1.refine_1 =>
        have hlt := (List.getElem?_eq_some_iff.1 hx).1
        have h10 := eq_cmp har (by assumption : ar.icmp .eql xx 10 = true)
        have hs := cnt_succ hi0 hx
        rw [if_pos (hxx.trans h10), hcc] at hs
        have e1 : ar.iop .add .i64 c 1 = c + 1 := add_std har (by omega) (by omega)
        have e2 : ar.iop .add .i64 i 1 = i + 1 := add_std har (by omega) (by omega)
        refine ⟨(c + 1, i + 1), by rw [← e1, ← e2]; kernel_rfl, ⟨by dsimp only; omega, by dsimp only; omega, by dsimp only; omega, by dsimp only; omega⟩, by dsimp only; omega⟩
      case refine_1.refine_2 =>
        have hlt := (List.getElem?_eq_some_iff.1 hx).1
        have h10 := ne_cmp har (by assumption : ar.icmp .eql xx 10 = false)
        have hs := cnt_succ hi0 hx
        rw [if_neg (fun e => h10 (hxx.symm.trans e)), hcc] at hs
        have e2 : ar.iop .add .i64 i 1 = i + 1 := add_std har (by omega) (by omega)
        refine ⟨(c, i + 1), by rw [← e2]; kernel_rfl, ⟨by dsimp only; omega, by dsimp only; omega, by dsimp only; omega, by dsimp only; omega⟩, by dsimp only; omega⟩
      all_goals first
        | exact (ne_cmp har (by assumption : ar.icmp .eql m.id m.id = false) rfl).elim
        | exact (ne_cmp har (by assumption : ar.icmp .eql rc rc = false) rfl).elim
        | exact (ne_cmp har (by assumption : ar.icmp .eql m.op m.op = false) rfl).elim
        | skip
      have hend := ge_len har (by assumption) hi0
      rw [encB_len htb] at hend
      rw [List.take_of_length_le hend, htc] at hcc
      refine hk2 _ (fin_eq har (by omega) (by omega) (by omega) ?_)
      unfold mesLines at hcc
      omega
  all_goals first
    | exact hk
    | (exfalso
       obtain ⟨h1, h2⟩ := rep_bad hx hxs hmk (by first | exact .inl (bnot_t har (by assumption)) | exact .inr (.inl (lt_cmp har (by assumption))) | exact .inr (.inr (gt_cmp har (by assumption))))
       first
         | exact len0_f har (by assumption) h1
         | (have h3 := bnot_f har (by assumption : ar.bnot x.reply = false); rw [h2] at h3; cases h3))
end Go.TL.Tryz

/- TfRepE -/
namespace Go.Proofs.YtgdckdmamepaeaaGreatDoor.fnReplies
open Go Go.TL Go.TL.Tryz Go.Proofs Go.ChangeShapes Go.WideShapes Go.ChangeAt Go.RowKit

theorem own : ownKnob Tryz.prog.godebug = none := by kernel_rfl
theorem laidOut : laidOutB Tryz.prog = true := by kernel_rfl
theorem readable : Tryz.prog.readableRec 22 = true := by kernel_rfl
theorem rowLt : 22 < Tryz.prog.types.size := by decide +kernel
theorem gTab : Tryz.prog.globalNamed "internal/strconv.uint64pow10" = some 1 := by kernel_rfl
theorem gTabType : (Tryz.prog.globals[1]?).map (·.type) = some 286 := by kernel_rfl
theorem cellsTab : Tryz.prog.cellsOf 286 = 20 := by kernel_rfl
theorem cellsElt : Tryz.prog.cellsOf 246 = 1 := by kernel_rfl
theorem tableData : Rows.laid_internal_strconv_uint64pow10 (H := Unit) = Lib.tabData .u64 pow10L := by kernel_rfl
theorem laidIs : laidMetH Tryz.prog Rows.fnRepliesRow.laid = laidMet Tryz.prog Rows.fnRepliesRow.laid := by kernel_rfl
/-- What the row's list gives: the table that texts of numbers read. -/
theorem table {W : World} (h : laidMetH Tryz.prog Rows.fnRepliesRow.laid W) : Lib.TabIs Tryz.prog W "internal/strconv.uint64pow10" .u64 pow10L := by
  rw [laidIs] at h
  have h3 := laidMet_tail (laidMet_tail h)
  rw [tableData] at h3
  exact Lib.tabIs_of_head gTab gTabType Tryz.underlying286 Tryz.underlying246 cellsElt cellsTab h3
theorem tabOk : TabOk Tryz.prog tf := tabOk_of (by decide +kernel)
theorem prg : Prg Tryz.prog := ⟨rfl, Go.Checked.mixed Tryz.checked, tabOk⟩
set_option maxRecDepth 100000 in
theorem contract (H : Type) (enc : TypeId × Value → H) (W : World) (base : Nat) (args : Array Value) (ds gs : List (DataW H)) (before : List MemPlace)
    (hval : ∀ (j : Nat) t v, Tryz.f3.params[j]? = some t → args[j]? = some v → Value.okWide Tryz.prog W .any base t v)
    (hW : DataW.Whole enc Tryz.prog Tryz.f3.params.toList Rows.fnRepliesSpec.vars false W args.toList ds gs before) (hL : laidMetH Tryz.prog Rows.fnRepliesRow.laid W) :
    Calls Tryz.prog 3 args W fun e W' => ∃ v, e = .returned v ∧ Rows.fnRepliesSpec.post enc Tryz.prog Tryz.f3 false true false false W args v W' :=
  law_bytes Tryz.func3 rfl (by decide) rfl rfl laidOut readable rowLt gTab (fun _ _ h => lReplies prg h) rfl (fun _ => rfl) hval hW (table hL)
/-- The cells of a datum. -/
def cell1 : DataW Unit → List Value
  | .lit (.int k z) => [.int k z]
  | _ => []
def cell2 : DataW Unit → List Value
  | .lit (.int k z) => [.int k z]
  | .agg ps => ps.flatMap cell1
  | _ => []
def cell3 : DataW Unit → List Value
  | .agg ps => ps.flatMap cell2
  | _ => []
def lay (g : Nat) (d : DataW Unit) (h : Array Obj) : Array Obj := h.modify g fun
  | .cells _ t frozen => .cells (cell3 d).toArray t frozen
  | o => o
noncomputable def laidHeap (h : Array Obj) : Array Obj :=
  lay 4 Rows.laid_math_bits_deBruijn32tab (lay 5 Rows.laid_math_bits_deBruijn64tab (lay 1 Rows.laid_internal_strconv_uint64pow10
    (lay 3 Rows.laid_unicode_utf8_acceptRanges (lay 2 Rows.laid_unicode_utf8_first h))))
/-- A world for the witness: the listed variables hold what the list says. -/
noncomputable def laidWorld (os : Os) : World := { World.holding Tryz.prog os ⟨#[], #[], []⟩ with heap := laidHeap (World.holding Tryz.prog os ⟨#[], #[], []⟩).heap }
set_option maxRecDepth 100000 in
theorem laid_met (os : Os) : laidMet Tryz.prog Rows.fnRepliesRow.laid ((laidWorld os).forCall (fun _ _ => 0) ⟨#[], #[.slice none 0 0], []⟩).memory :=
  laidMet_of_run' 8 (by kernel_rfl) (by kernel_rfl)
set_option maxRecDepth 100000 in
theorem reads (os : Os) {H : Type} (enc : TypeId × Value → H) : ∃ places, DataW.whole enc Tryz.prog ((laidWorld os).forCall (fun _ _ => 0) ⟨#[], #[.slice none 0 0], []⟩).memory Tryz.f3.params.toList Rows.fnRepliesSpec.vars false #[Value.slice none 0 0].toList 8 = some ([.nil], [], places) :=
  ⟨[], by kernel_rfl⟩
set_option maxRecDepth 100000 in
theorem lifted (os : Os) (started : os.Started) (H : Type) (enc : TypeId × Value → H) (F : Stop.Interp) :
    ReturnsInHanded {} Tryz.checked os 3 .any ((OpenSpec.ofChange Rows.fnRepliesSpec).preRow enc Tryz.prog Tryz.f3 Rows.fnRepliesRow.domain false Rows.fnRepliesRow.laid) (((OpenSpec.ofChange Rows.fnRepliesSpec).at F).post enc Tryz.prog Tryz.f3 false true false false) := by
  obtain ⟨places, hx⟩ := reads os enc
  refine returnsInHanded_of_row (C := Tryz.checked) (s := OpenSpec.ofChange Rows.fnRepliesSpec) own started (by kernel_rfl) Tryz.func3
    (witness_row_at (enc := enc) (C := Tryz.checked) false (laidWorld os) #[.slice none 0 0] rfl (by kernel_rfl) (by kernel_rfl) (by kernel_rfl)
      (OpenSpec.preRow_of_cond 8 hx (by kernel_rfl) (fun k hk => by cases hk) (by kernel_rfl) (laid_met os))) ?_
  intro W base args ds gs before hval hW _ _ _ hL _ _
  exact contract H enc W base args ds gs before hval hW hL
end Go.Proofs.YtgdckdmamepaeaaGreatDoor.fnReplies
