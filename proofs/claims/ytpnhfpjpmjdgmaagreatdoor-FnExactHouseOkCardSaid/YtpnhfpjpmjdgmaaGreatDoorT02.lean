/- Texts of a proof, joined by a program (merge.py): TlJ TlK TlL TlM TlN TlO. -/
import Derived.Test.YtpnhfpjpmjdgmaaGreatDoorT01
import Derived.Laws.OwnMore
import Derived.Deep.AppendSrc
import Derived.Great.BuildSlice
import Derived.Laws.BytesArg
set_option linter.all false
/- TlJ -/
namespace Go.TL
open Go

variable {P : Program} {E : Env P} {ok : Nat → Prop} {hd : HF} {tm : Nat → Option A} {ob : OF} {w : World} {a : Act} {K : A → Obs → Prop} {o : Oper} {tab : TF} {cl : Nat → List A → Obs → (A → Obs → Prop) → Prop}

/-- A part of a value's cells. -/
theorem part_rel (hT : TabOk P tab) {t : Nat} {ti : TI} (hti : tab t = some ti) {cs : List Value} {vs : List V} {off : Nat} (hl : cs.length = vs.length)
    (hv : ∀ (j : Nat) c x, cs[j]? = some c → vs[j]? = some x → VR w ok hd ob c x) (hs : off + ti.size ≤ vs.length) :
    ∃ v, (part t cs.toArray off).run P w = .ok v w ∧ AR w ok hd ob v (loadA ti.agg ((vs.drop off).take ti.size)) := by
  obtain ⟨i, hi, hsz, _, _⟩ := (hT t ti hti).info
  obtain ⟨d, hu, _, hagg⟩ := (hT t ti hti).kd
  cases ha : ti.agg with
  | true =>
    have hd' : d.isRow = true := by
      rw [ha] at hagg
      cases d <;> first | rfl | simp at hagg
    have hagg' : (isAgg t).run P w = .ok true w := by
      unfold isAgg
      rw [Sem.run_bind, run_underlying hu w]
      cases d <;> simp_all
    refine ⟨.agg ((cs.drop off).take ti.size).toArray, ?_, ?_⟩
    · simp [part, hagg', sizeOf, typeInfo, hi, hsz, List.extract_toArray]
    · refine .agg _ _ (by simp; omega) fun j c x hj hx => ?_
      by_cases hj' : j < ti.size
      · rw [List.getElem?_take_of_lt hj', List.getElem?_drop] at hj hx
        exact hv _ _ _ hj hx
      · rw [List.getElem?_take_eq_none (by omega)] at hj; cases hj
  | false =>
    have h1 := (hT t ti hti).pos ha
    have hagg' : (isAgg t).run P w = .ok false w := by
      unfold isAgg
      rw [Sem.run_bind, run_underlying hu w]
      rw [ha] at hagg
      cases d <;> first | rfl | simp at hagg
    obtain ⟨x, hx⟩ : ∃ x, vs[off]? = some x := ⟨_, List.getElem?_eq_getElem (by omega)⟩
    obtain ⟨c, hc⟩ : ∃ c, cs[off]? = some c := ⟨_, List.getElem?_eq_getElem (by omega)⟩
    refine ⟨c, ?_, ?_⟩
    · simp only [part, Sem.run_bind, hagg', Result.andThen_ok]
      simp [hc]
    · have hx' := hx
      rw [List.getElem?_eq_getElem (show off < vs.length by omega)] at hx'
      rw [h1, List.drop_eq_getElem_cons (by omega), Option.some.inj hx']
      exact .one _ _ (hv _ _ _ hc hx)

theorem op_field {t f : Nat} {x : Operand} (ho : o.op = .field t x f) (hT : TabOk P tab) (R : Rel E ok hd tm ob a.tmps w) (h : (sField tab t f (ev tm x)).holds std cl K) : Goes P E tm ob a.tmps K o a w := by
  unfold sField at h
  split at h
  · rename_i vs hx
    split at h
    · rename_i k u hf
      split at h
      · rename_i ti hti
        obtain ⟨hle, h'⟩ := bif_inv h
        have hle := le_of_leB hle
        obtain ⟨cs, hcs, hl, hv⟩ := (ev_rel R hx).agg_inv
        obtain ⟨v, hr, ha⟩ := part_rel (P := P) (w := w) hT hti hl hv hle
        unfold fieldOff at hf
        split at hf
        · rename_i ti' hti'
          split at hf
          · rename_i fs hk
            obtain ⟨d, hu, hkd, _⟩ := (hT t ti' hti').kd
            rw [hk] at hkd
            obtain ⟨ar, rfl, hfs, hnz⟩ := hkd
            rw [← hfs, List.getElem?_map] at hf
            cases hq : ar.toList[f]? with
            | none => rw [hq] at hf; cases hf
            | some fd =>
              rw [hq] at hf; simp at hf
              have hq' : ar[f]? = some fd := by simpa using hq
              refine goes_value ?_ h' R ha
              have : asAgg (.agg cs.toArray) = Sem.pure cs.toArray := rfl
              simp [execOp, ho, hcs, Instr.field, run_underlying hu, hq', asAgg, hf.1, hf.2, hr]
          · cases hf
        · cases hf
      · exact h.elim
    · exact h.elim
  · exact h.elim

theorem op_extract {x : Operand} {i : Nat} (ho : o.op = .extract x i) (R : Rel E ok hd tm ob a.tmps w)
    (h : (match ev tm x with | some (.tup l) => SR.ofOpt l[i]? | _ => .bad).holds std cl K) : Goes P E tm ob a.tmps K o a w := by
  split at h
  · rename_i l hx
    obtain ⟨xs, hxs, hl, hv⟩ := (ev_rel R hx).tup_inv
    cases hi : l[i]? with
    | none => rw [hi] at h; exact h.elim
    | some av =>
      rw [hi] at h
      have hlt : i < l.length := by by_cases q : i < l.length; exact q; rw [List.getElem?_eq_none (by omega)] at hi; cases hi
      have hx' : xs[i]? = some (xs[i]'(by omega)) := List.getElem?_eq_getElem (by omega)
      exact goes_value (v := xs[i]'(by omega)) (by simp [execOp, ho, hxs, Instr.extract, hx']) h R (hv i _ _ hx' hi)
  · exact h.elim

theorem op_nilCheck {x : Operand} (ho : o.op = .nilCheck x) (R : Rel E ok hd tm ob a.tmps w)
    (h : (match ev tm x with
      | some (.one (.ptr o off)) => SR.ret (.one (.ptr o off)) []
      | some (.one (.elt o g i j)) => (match ob o with
        | some (.row _ _ cur _ _) => bif eqB g cur then .ret (.one (.elt o g i j)) [] else .bad
        | _ => .bad)
      | some (.one (.t (.pt cs off))) => .ret (.one (.t (.pt cs off))) []
      | _ => .bad).holds std cl K) : Goes P E tm ob a.tmps K o a w := by
  split at h
  · rename_i n off hx
    have hr := ev_rel R hx
    obtain ⟨cs, fz, b, h1, h2, h3⟩ := hr.one_inv
    exact goes_value (v := a.eval x) (by simp [execOp, ho, h3]) h R hr
  · rename_i n g i j hx
    have hr := ev_rel R hx
    split at h
    · rename_i sz es cur tags fz hob
      obtain ⟨hg, h'⟩ := bif_inv h
      have hg := eq_of_eqB hg
      obtain ⟨sz', es', cur', tags', fz', h1, h2, ⟨p, hp⟩, h3⟩ := hr.one_inv
      rw [hob] at h1; injection h1 with h1; injection h1 with q1 q2 q3 q4 q5; subst q1; subst q2; subst q3; subst q4; subst q5
      obtain ⟨h0, b, len, cap, h4, h5⟩ := h3 hg
      exact goes_value (v := a.eval x) (by simp [execOp, ho, h5]) h' R hr
    · exact h.elim
  · rename_i cs off hx
    have hr := ev_rel R hx
    have hv : Rep w ok (a.eval x) (.pt cs off) := hr.one_inv
    have : ∃ ad, a.eval x = .pointer (some ad) := by
      generalize a.eval x = p at hv
      cases hv; exact ⟨_, rfl⟩
    obtain ⟨ad, h3⟩ := this
    exact goes_value (v := a.eval x) (by simp [execOp, ho, h3]) h R hr
  · exact h.elim

theorem isStr_und (hT : TabOk P tab) {t : Nat} (h : isStr tab t = true) : P.underlying t = some .string := by
  unfold isStr at h
  split at h
  · rename_i ti hti
    split at h
    · rename_i hk
      obtain ⟨d, h1, h2, _⟩ := (hT t ti hti).kd
      rw [hk] at h2; rw [h1]; exact congrArg some h2
    · cases h
  · cases h
theorem Rep.slice_inv {v : Value} {es : List (List T)} (h : Rep w ok v (.sl es)) : ∃ x c, v = .slice x es.length c ∧ es.length ≤ 2 ^ 63 - 1 := by
  cases h with
  | snil => exact ⟨_, _, rfl, by simp⟩
  | szero x => exact ⟨_, _, rfl, by simp⟩
  | sl b off cap sz es vs hm hcap hsz hok hc hr => exact ⟨_, _, rfl, hm⟩
theorem run_len {c : Call} {x : Operand} {t n : Nat} (ho : o.op = .call c) (hc : c.callee = .builtin .len) (hx : c.args.toList = [x]) (ht : c.argTypes.toList = [t])
    (h : (Builtin.len_ #[t] o.type #[a.eval x]).run P w = .ok (goInt n) w) : (execOp a.eval o).run P w = .ok (.value (goInt n)) w := by
  have hx' : c.args = #[x] := by rw [← hx]
  have ht' : c.argTypes = #[t] := by rw [← ht]
  simp only [execOp, ho, resolve, hc, hx', ht', invoke, builtin, Sem.run_bind, Sem.run_pure, Result.andThen_ok]
  simp [h]
theorem has_len {n : Nat} (h : n ≤ 2 ^ 63 - 1) : IntKind.i64.has (n : Int) := by
  simp [IntKind.has, IntKind.min, IntKind.max, IntKind.signed, IntKind.bits]; omega

theorem row_len {n sz : Nat} {es : List (List T)} {cur : Nat} {tags : List Nat} {fz : Bool} (R : ORel ok hd ob w) (h : ob n = some (.row sz es cur tags fz)) : ∃ x c, (hd n).v = .slice x es.length c ∧ es.length ≤ 2 ^ 63 - 1 := by
  obtain ⟨_, _, hR⟩ := R.obs n _ h
  rcases hR with ⟨he, hv, _⟩ | ⟨b', c, e, fr, cap', g1, g2, g3, g4, g5, g6, g7, g7', g8, g9⟩
  · subst he; exact ⟨_, _, hv, by simp⟩
  · exact ⟨_, _, g1, g7'⟩

theorem op_len {c : Call} {x : Operand} {t : Nat} (ho : o.op = .call c) (hc : c.callee = .builtin .len) (hx : c.args.toList = [x]) (ht : c.argTypes.toList = [t]) (hT : TabOk P tab) (R : Rel E ok hd tm ob a.tmps w)
    (h : (sLen std tab t ob (ev tm x)).holds std cl K) : Goes P E tm ob a.tmps K o a w := by
  unfold sLen at h
  split at h
  · rename_i es hes
    obtain ⟨hs, h'⟩ := bif_inv h
    obtain ⟨e, hu⟩ := isSlice_und hT hs
    obtain ⟨y, c', hv, hb⟩ := Rep.slice_inv (show Rep w ok (a.eval x) (.sl es) from (ev_rel R hes).one_inv)
    exact goes_t R (run_len ho hc hx ht (n := es.length) (by rw [hv]; simp [Builtin.len_, run_underlying hu])) (h' hb) (.int _ _ (has_len (by omega)))
  · rename_i hes
    obtain ⟨hs, h'⟩ := bif_inv h
    obtain ⟨e, hu⟩ := isSlice_und hT hs
    have hv : a.eval x = .slice none 0 0 := (ev_rel R hes).one_inv
    exact goes_t R (run_len ho hc hx ht (n := 0) (by rw [hv]; simp [Builtin.len_, run_underlying hu])) h' (.int _ _ (has_len (by omega)))
  · rename_i m n sz hes
    obtain ⟨hs, h'⟩ := bif_inv h
    obtain ⟨e, hu⟩ := isSlice_und hT hs
    obtain ⟨cs, fz, b, p1, p2, hv, hb⟩ := (ev_rel R hes).one_inv
    exact goes_t R (run_len ho hc hx ht (n := n) (by rw [hv]; simp [Builtin.len_, run_underlying hu])) h' (.int _ _ (has_len (by omega)))
  · rename_i n g hes
    split at h
    · rename_i sz es cur tags fz hob
      obtain ⟨hs, h'⟩ := bif_inv h
      rw [Bool.and_eq_true] at hs
      obtain ⟨e, hu⟩ := isSlice_und hT hs.1
      have hg := eq_of_eqB hs.2
      obtain ⟨sz', es', cur', tags', fz', h1, h2, _, h3⟩ := (ev_rel R hes).one_inv
      rw [hob] at h1; injection h1 with h1; injection h1 with q1 q2 q3 q4 q5; subst q1; subst q2; subst q3; subst q4; subst q5
      obtain ⟨y, c', hv, hb⟩ := row_len R.toORel hob
      rw [← h3 hg] at hv
      exact goes_t R (run_len ho hc hx ht (n := es.length) (by rw [hv]; simp [Builtin.len_, run_underlying hu])) (h' hb) (.int _ _ (has_len (by omega)))
    · exact h.elim
  · rename_i s hes
    obtain ⟨hs, h'⟩ := bif_inv h
    have hu := isStr_und hT hs
    obtain ⟨u, hv, rfl, hb⟩ := ev_str R hes
    have hb' : u.data.toList.length ≤ 2 ^ 63 - 1 := by simpa using hb
    refine goes_t R (run_len ho hc hx ht (n := u.data.toList.length) (by rw [hv]; simp [Builtin.len_, run_underlying hu])) (h' hb') (.int _ _ (has_len (by omega)))
  · exact h.elim

theorem sliceOf_und (hT : TabOk P tab) {t e : Nat} (h : sliceOf tab t = some e) : P.underlying t = some (.slice e) := by
  unfold sliceOf at h
  split at h
  · rename_i ti hti
    split at h
    · rename_i e' hk
      injection h with h; subst h
      obtain ⟨d, h1, h2, _⟩ := (hT t ti hti).kd
      rw [hk] at h2; rw [h1]; exact congrArg some h2
    · cases h
  · cases h

theorem index_inv {i : Int} {es : List (List T)} (h : std.inb i es) : 0 ≤ i ∧ i < es.length := h

/-- An element of a tree's slice, as a place of its own. -/
theorem Rep.elem {v : Value} {es : List (List T)} {i : Nat} (h : Rep w ok v (.sl es)) (hi : i < es.length) : ∃ b off sz n c, v = .slice (some ⟨b, off, none⟩) n c ∧ (∀ e ∈ es, e.length = sz) ∧ n = es.length ∧
    Rep w ok (.pointer (some ⟨b, off + i * sz, none⟩)) (.pt (es.getD i []) 0) := by
  cases h with
  | snil => simp at hi
  | szero x => simp at hi
  | sl b off cap sz es vs hm hcap hsz hok hc hr =>
    refine ⟨b, off, sz, _, _, rfl, hsz, rfl, ?_⟩
    have he : es[i]? = some (es.getD i []) := by simp [List.getD, hi]
    have hl : (es.getD i []).length = sz := hsz _ (List.mem_of_getElem? he)
    exact .pt b (off + i * sz) 0 _ (vs i) hok (fun j hj => hc i j hi (by omega)) (fun j t ht => hr i j _ t he ht)

theorem cellsOf_size (hT : TabOk P tab) {e : Nat} {te : TI} (h : tab e = some te) : (sizeOf e).run P w = .ok te.size w := by
  obtain ⟨i, hi, hsz, _, _⟩ := (hT e te h).info
  simp [sizeOf, typeInfo, hi, hsz]

theorem op_indexAddr {t : Nat} {x y : Operand} (ho : o.op = .indexAddr t x y) (hT : TabOk P tab) (R : Rel E ok hd tm ob a.tmps w)
    (h : (sIndexAddr std tab t ob (ev tm x) (ev tm y)).holds std cl K) : Goes P E tm ob a.tmps K o a w := by
  unfold sIndexAddr at h
  split at h
  · rename_i es k i hx hy
    split at h
    · rename_i e he
      split at h
      · rename_i te hte
        cases h with
        | mk hin h' =>
          obtain ⟨hb, h'⟩ := bif_inv h'
          have hb := eq_of_eqB hb
          obtain ⟨h0, h1⟩ := index_inv hin
          obtain ⟨hyv, _⟩ := ev_int R hy
          obtain ⟨b, off, sz, n, c, hv, hsz, rfl, hp⟩ := Rep.elem (i := i.toNat) (show Rep w ok (a.eval x) (.sl es) from (ev_rel R hx).one_inv) (by omega)
          have hu := sliceOf_und hT he
          have hg : es[i.toNat]? = some (es.getD i.toNat []) := by simp [List.getD, show i.toNat < es.length by omega]
          have hs : te.size = sz := by rw [← hsz _ (List.mem_of_getElem? hg)]; exact hb.symm
          refine goes_t R (v := .pointer (some ⟨b, off + i.toNat * sz, none⟩)) ?_ h' hp
          have hlt : (0 : Int) ≤ i ∧ i < (es.length : Int) := ⟨h0, h1⟩
          simp [execOp, ho, hv, hyv, Instr.indexAt, asIntOf, run_underlying hu, hlt, cellsOf_size hT hte, hs, Addr.add_mid]
      · exact h.elim
    · exact h.elim
  · rename_i n g k i hx hy
    split at h
    · rename_i e he
      split at h
      · rename_i te sz es cur tags fz hte hob
        obtain ⟨hb, h'⟩ := bif_inv h
        rw [Bool.and_eq_true] at hb
        have hg := eq_of_eqB hb.1
        have hs := eq_of_eqB hb.2
        obtain ⟨hin, h'⟩ := h'
        obtain ⟨h0, h1⟩ := index_inv hin
        obtain ⟨hyv, _⟩ := ev_int R hy
        have hu := sliceOf_und hT he
        obtain ⟨sz', es', cur', tags', fz', p1, p2, _, p3⟩ := (ev_rel R hx).one_inv
        rw [hob] at p1; injection p1 with p1; injection p1 with q1 q2 q3 q4 q5; subst q1; subst q2; subst q3; subst q4; subst q5
        have hv := p3 hg
        obtain ⟨_, _, hR⟩ := R.obs n _ hob
        rcases hR with ⟨he, _⟩ | ⟨b', c, e', fr, cap', g1, _⟩
        · subst he; simp at h1; omega
        · rw [g1] at hv
          refine goes_value (v := .pointer (some ⟨b', i.toNat * sz + 0, none⟩)) ?_ h' R (.one _ _ ⟨sz, es, cur, tags, fz, hob, p2, ⟨_, rfl⟩, fun _ => ⟨h0, b', _, _, g1, rfl⟩⟩)
          have hlt : (0 : Int) ≤ i ∧ i < (es.length : Int) := ⟨h0, h1⟩
          simp [execOp, ho, hv, hyv, Instr.indexAt, asIntOf, run_underlying hu, hlt, cellsOf_size hT hte, hs, Addr.add_mid]
      · exact h.elim
    · exact h.elim
  · rename_i n off k i hx hy
    split at h
    · rename_i ti hti
      split at h
      · rename_i m e hk
        split at h
        · rename_i te hte
          obtain ⟨hb, h'⟩ := bif_inv h
          rw [Bool.and_eq_true] at hb
          have h0 := of_decide_eq_true hb.1
          have h1 := of_decide_eq_true hb.2
          obtain ⟨d, hu, hkd, _⟩ := (hT t ti hti).kd
          rw [hk] at hkd
          have hkd : d = .array m e := hkd
          subst hkd
          obtain ⟨hyv, _⟩ := ev_int R hy
          obtain ⟨cs, fz, b, p1, p2, p3⟩ := (ev_rel R hx).one_inv
          refine goes_value (v := .pointer (some ⟨b, off + i.toNat * te.size, none⟩)) ?_ h' R (.one _ _ ⟨cs, fz, b, p1, p2, rfl⟩)
          have hlt : (0 : Int) ≤ i ∧ i < (m : Int) := ⟨h0, h1⟩
          simp [execOp, ho, p3, hyv, Instr.indexAt, Instr.sureAddr, asIntOf, run_underlying hu, hlt, cellsOf_size hT hte, Addr.add_mid]
        · exact h.elim
      · exact h.elim
    · exact h.elim
  · exact h.elim

theorem op_indexAddr2 {t : Nat} {x y : Operand} (ho : o.op = .indexAddr t x y) (hT : TabOk P tab) (R : Rel E ok hd tm ob a.tmps w)
    (h : (sIndexAddr2 std tab t ob (ev tm x) (ev tm y)).holds std cl K) : Goes P E tm ob a.tmps K o a w := by
  unfold sIndexAddr2 at h
  split at h
  · rename_i m n sz k i hx hy
    split at h
    rotate_left
    · exact h.elim
    rename_i e he
    split at h
    rotate_left
    · exact h.elim
    rename_i te hte
    obtain ⟨hb, h'⟩ := bif_inv h
    rw [Bool.and_eq_true, Bool.and_eq_true] at hb
    have hs := eq_of_eqB hb.1
    have h0 := of_decide_eq_true hb.2.1
    have h1 : i < (n : Int) := of_decide_eq_true hb.2.2
    obtain ⟨hyv, _⟩ := ev_int R hy
    have hu := sliceOf_und hT he
    obtain ⟨cs, fz, b, p1, p2, hv, hb⟩ := (ev_rel R hx).one_inv
    refine goes_value (v := .pointer (some ⟨b, i.toNat * sz, none⟩)) ?_ h' R (.one _ _ ⟨cs, fz, b, p1, p2, rfl⟩)
    have hlt : (0 : Int) ≤ i ∧ i < (n : Int) := ⟨h0, h1⟩
    simp [execOp, ho, hv, hyv, Instr.indexAt, asIntOf, run_underlying hu, hlt, cellsOf_size hT hte, hs, Addr.add_mid]
  · exact op_indexAddr ho hT R h

theorem op_indexAddr3 {t : Nat} {x y : Operand} (ho : o.op = .indexAddr t x y) (hT : TabOk P tab) (R : Rel E ok hd tm ob a.tmps w)
    (h : (sIndexAddr3 std tab t ob (ev tm x) (ev tm y)).holds std cl K) : Goes P E tm ob a.tmps K o a w := by
  unfold sIndexAddr3 at h
  split at h
  · rename_i m g i0 j0 k i hx hy
    split at h
    rotate_left
    · exact h.elim
    rename_i ti sz es cur tags fz hti hob
    split at h
    rotate_left
    · exact h.elim
    rename_i n e hk
    split at h
    rotate_left
    · exact h.elim
    rename_i te hte
    obtain ⟨hb, h'⟩ := bif_inv h
    simp only [Bool.and_eq_true] at hb
    have hg := eq_of_eqB hb.1
    have hs := eq_of_eqB hb.2.1
    have hs1 := eq_of_eqB hb.2.2.1
    have hj := eq_of_eqB hb.2.2.2.1
    have hi0 := of_decide_eq_true hb.2.2.2.2
    subst hj; subst hi0; subst hs1
    obtain ⟨⟨hin, hlen⟩, h'⟩ := h'
    obtain ⟨h0, h1⟩ := index_inv hin
    have hlen : (es.length : Int) = (n : Int) := hlen
    obtain ⟨hyv, _⟩ := ev_int R hy
    obtain ⟨d, hu, hkd, _⟩ := (hT t ti hti).kd
    rw [hk] at hkd
    have hkd : d = .array n e := hkd
    subst hkd
    obtain ⟨sz', es', cur', tags', fz', p1, p2, _, p3⟩ := (ev_rel R hx).one_inv
    rw [hob] at p1; injection p1 with p1; injection p1 with q1 q2 q3 q4 q5; subst q1; subst q2; subst q3; subst q4; subst q5
    obtain ⟨_, b, len, cap, hv, hp⟩ := p3 hg
    have hp : a.eval x = .pointer (some ⟨b, 0, none⟩) := by simpa using hp
    refine goes_value (v := .pointer (some ⟨b, i.toNat * 1 + 0, none⟩)) ?_ h' R (.one _ _ ⟨1, es, cur, tags, fz, hob, p2, ⟨_, rfl⟩, fun _ => ⟨h0, b, len, cap, hv, rfl⟩⟩)
    have hlt : (0 : Int) ≤ i ∧ i < (n : Int) := ⟨h0, by omega⟩
    simp [execOp, ho, hp, hyv, Instr.indexAt, Instr.sureAddr, asIntOf, run_underlying hu, hlt, cellsOf_size hT hte, hs, Addr.add_mid]
  · exact op_indexAddr2 ho hT R h

theorem op_index {t : Nat} {x y : Operand} (ho : o.op = .index t x y) (hT : TabOk P tab) (R : Rel E ok hd tm ob a.tmps w) (h : (sIndex std tab t (ev tm x) (ev tm y)).holds std cl K) : Goes P E tm ob a.tmps K o a w := by
  unfold sIndex at h
  split at h
  · rename_i s k i hx hy
    obtain ⟨hs, h'⟩ := bif_inv h
    have hu := isStr_und hT hs
    obtain ⟨⟨h0, h1⟩, h'⟩ := h'
    obtain ⟨u, hv, rfl, hb⟩ := ev_str R hx
    obtain ⟨hyv, _⟩ := ev_int R hy
    have hlt : i.toNat < u.size := by have : i < (u.data.toList.length : Int) := h1; simp at this; omega
    have h0 : 0 ≤ i := h0
    have hget : u[i.toNat]? = some u[i.toNat] := by simp [getElem?_pos, hlt]
    have e1 : u.data.toList.getD i.toNat 0 = u[i.toNat] := by
      have : u.data.toList.length = u.size := by simp
      rw [List.getD, List.getElem?_eq_getElem (by omega)]; rfl
    refine goes_t R (v := .int .u8 (u[i.toNat]).toNat) ?_ h' ?_
    · simp [execOp, ho, hv, hyv, Instr.index, asIntOf, run_underlying hu, h0, hlt]
    · show Rep w ok _ (.int .u8 (std.sget u.data.toList i))
      have : std.sget u.data.toList i = ((u[i.toNat]).toNat : Int) := by show ((u.data.toList.getD i.toNat 0).toNat : Int) = _; rw [e1]
      rw [this]
      have hlt2 := (u[i.toNat]).toNat_lt
      exact .int _ _ (by simp [IntKind.has, IntKind.min, IntKind.max, IntKind.signed, IntKind.bits]; omega)
  · rename_i vs k i hx hy
    split at h
    rotate_left
    · exact h.elim
    rename_i ti hti
    split at h
    rotate_left
    · exact h.elim
    rename_i n e hk
    split at h
    rotate_left
    · exact h.elim
    rename_i te hte
    obtain ⟨hb, h'⟩ := bif_inv h
    simp only [Bool.and_eq_true, decide_eq_true_eq] at hb
    obtain ⟨hlt, hle⟩ := hb
    have hle := le_of_leB hle
    obtain ⟨d, hu, hkd, _⟩ := (hT t ti hti).kd
    rw [hk] at hkd
    have hkd : d = .array n e := hkd
    subst hkd
    obtain ⟨cs, hcs, hl, hv⟩ := (ev_rel R hx).agg_inv
    obtain ⟨v, hr, ha⟩ := part_rel (P := P) (w := w) hT hte hl hv hle
    obtain ⟨hyv, _⟩ := ev_int R hy
    refine goes_value ?_ h' R ha
    simp [execOp, ho, hcs, hyv, Instr.index, asIntOf, run_underlying hu, hlt, cellsOf_size hT hte, hr]
  · exact h.elim

theorem treesC_rel : ∀ {vs : List V} {ts : List T} {cvs : List Value}, treesC vs = some ts → cvs.length = vs.length → (∀ (i : Nat) c x, cvs[i]? = some c → vs[i]? = some x → VR w ok hd ob c x) →
    cvs.length = ts.length ∧ ∀ (j : Nat) v t, cvs[j]? = some v → ts[j]? = some t → Rep w ok v t := by
  intro vs
  induction vs with
  | nil => intro ts cvs h hl _; simp [treesC] at h; subst h; simp at hl; subst hl; exact ⟨rfl, by simp⟩
  | cons v vs ihv =>
    intro ts cvs h hl hrel
    cases cvs with
    | nil => simp at hl
    | cons cv cvs =>
      have step : ∀ (c : T) (r' : List T), treesC vs = some r' → Rep w ok cv c → ts = c :: r' → (cv :: cvs).length = ts.length ∧ ∀ (j : Nat) v t, (cv :: cvs)[j]? = some v → ts[j]? = some t → Rep w ok v t := by
        intro c r' h1 h2 h3
        subst h3
        obtain ⟨l1, l2⟩ := ihv h1 (by simpa using hl) (fun i c x a b => hrel (i + 1) c x (by simpa using a) (by simpa using b))
        refine ⟨by simp [l1], fun j v' t a b => ?_⟩
        cases j with
        | zero => simp at a b; subst a; subst b; exact h2
        | succ j => exact l2 j v' t (by simpa using a) (by simpa using b)
      unfold treesC at h
      split at h
      · rename_i heq; cases heq
      · rename_i c l heq
        injection heq with e1 e2; subst e1; subst e2
        split at h
        · rename_i r' h1; injection h with h; exact step c r' h1 (hrel 0 cv _ rfl rfl) h.symm
        · cases h
      · rename_i l heq
        injection heq with e1 e2; subst e1; subst e2
        split at h
        · rename_i r' h1
          injection h with h
          have : cv = .slice none 0 0 := hrel 0 cv .nil rfl rfl
          exact step (.sl []) r' h1 (this ▸ .snil) h.symm
        · cases h
      · cases h

theorem op_makeFunc {f : Fn} {first caps : Array Operand} (ho : o.op = .makeFunc f first caps) (R : Rel E ok hd tm ob a.tmps w)
    (h : (match firstsOf (ev tm) first.toList, capsOf (ev tm) caps.toList with
      | some fs, some cs => SR.ret (.one (.fn f fs cs)) []
      | _, _ => .bad).holds std cl K) : Goes P E tm ob a.tmps K o a w := by
  split at h
  · rename_i fs cs hf hc
    have key : ∀ (l : List Operand) (fs : List (List T)), firstsOf (ev tm) l = some fs → ∃ fvs : List (List Value), l.map a.eval = fvs.map (fun c => .agg c.toArray) ∧ fvs.length = fs.length ∧
        (∀ (i : Nat) (x : List Value) (y : List T), fvs[i]? = some x → fs[i]? = some y → x.length = y.length) ∧
        (∀ (i j : Nat) (x : List Value) (y : List T) (v : Value) (t : T), fvs[i]? = some x → fs[i]? = some y → x[j]? = some v → y[j]? = some t → Rep w ok v t) := by
      intro l
      induction l with
      | nil => intro fs h; simp [firstsOf] at h; subst h; exact ⟨[], rfl, rfl, by simp, by simp⟩
      | cons x r ih =>
        intro fs h
        unfold firstsOf at h
        split at h
        · rename_i vs l' hx hr
          split at h
          · rename_i ts hts
            injection h with h; subst h
            obtain ⟨fvs, e1, e2, e3, e4⟩ := ih _ hr
            obtain ⟨cvs, hv, hl, hrel⟩ := (ev_rel R hx).agg_inv
            obtain ⟨l1, l2⟩ := treesC_rel hts hl hrel
            refine ⟨cvs :: fvs, by simp [hv, e1], by simp [e2], fun i x y p q => ?_, fun i j x y v t p q p' q' => ?_⟩
            · cases i with
              | zero => simp at p q; subst p; subst q; exact l1
              | succ i => exact e3 i x y (by simpa using p) (by simpa using q)
            · cases i with
              | zero => simp at p q; subst p; subst q; exact l2 j v t p' q'
              | succ i => exact e4 i j x y v t (by simpa using p) (by simpa using q) p' q'
          · cases h
        · cases h
    have key2 : ∀ (l : List Operand) (cs : List Cap), capsOf (ev tm) l = some cs → (l.map a.eval).length = cs.length ∧ ∀ (j : Nat) v c, (l.map a.eval)[j]? = some v → cs[j]? = some c → CapR w ok hd ob v c := by
      intro l
      induction l with
      | nil => intro cs h; simp [capsOf] at h; subst h; simp
      | cons x r ih =>
        intro cs h
        unfold capsOf at h
        have step : ∀ (c : Cap) (l' : List Cap), capsOf (ev tm) r = some l' → CapR w ok hd ob (a.eval x) c → cs = c :: l' → ((x :: r).map a.eval).length = cs.length ∧ ∀ (j : Nat) v c, ((x :: r).map a.eval)[j]? = some v → cs[j]? = some c → CapR w ok hd ob v c := by
          intro c l' h1 h2 h3
          subst h3
          obtain ⟨l1, l2⟩ := ih _ h1
          refine ⟨by simpa using l1, fun j v c' p q => ?_⟩
          cases j with
          | zero => simp at p q; subst p; subst q; exact h2
          | succ j => exact l2 j v c' (by simpa using p) (by simpa using q)
        split at h
        · rename_i n off l' hx hr
          injection h with h
          exact step (.ptr n off) _ hr (ev_rel R hx).one_inv h.symm
        · rename_i c l' hx hr
          injection h with h
          exact step (.t c) _ hr (ev_rel R hx).one_inv h.symm
        · cases h
    obtain ⟨fvs, e1, e2, e3, e4⟩ := key _ _ hf
    obtain ⟨e5, e6⟩ := key2 _ _ hc
    refine goes_value (v := .func f (fvs.map fun c => .agg c.toArray).toArray (caps.toList.map a.eval).toArray) ?_ h R (.one _ _ ⟨fvs, caps.toList.map a.eval, rfl, e2, e3, e5, e4, e6⟩)
    have e1' : first.map a.eval = (fvs.map fun c => Value.agg c.toArray).toArray := by rw [← e1, ← Array.toList_map]
    have e2' : caps.map a.eval = (caps.toList.map a.eval).toArray := by rw [← Array.toList_map]
    simp only [execOp, ho, Instr.makeFunc, e1', e2']
    simp
  · exact h.elim

end Go.TL

/- TlK -/
namespace Go.TL
open Go

variable {P : Program} {E : Env P} {ok : Nat → Prop} {hd : HF} {tm : Nat → Option A} {ob : OF} {w : World} {a : Act} {K : A → Obs → Prop} {o : Oper} {tab : TF} {cl : Nat → List A → Obs → (A → Obs → Prop) → Prop} {tmps : Array Value}

def frzO (ob : OF) (ns : List Nat) : OF := fun m => if m ∈ ns then (ob m).map frOb else ob m
def frzH (hd : HF) (ns : List Nat) : HF := fun m => if m ∈ ns then ⟨(hd m).v, []⟩ else hd m
def frzK (ok : Nat → Prop) (hd : HF) (ob : OF) (ns : List Nat) : Nat → Prop := fun b => ok b ∨ ∃ n, n ∈ ns ∧ ob n ≠ none ∧ b ∈ (hd n).own

theorem look_append {α : Type} (l m : List (Nat × α)) (n : Nat) : look (l ++ m) n = match look l n with | some x => some x | none => look m n := by
  induction l with
  | nil => rfl
  | cons p l ih =>
    obtain ⟨i, x⟩ := p
    by_cases h : i = n
    · simp [look, h]
    · simp [look, h, ih]
theorem look_frz (ob : OF) (ns : List Nat) (m : Nat) : look (frz ob ns).reverse m = if m ∈ ns then (ob m).map frOb else none := by
  induction ns with
  | nil => simp [frz, look]
  | cons n ns ih =>
    unfold frz
    cases h : ob n with
    | none =>
      simp only []
      rw [ih]
      by_cases e : m = n
      · subst e; simp [h]
      · simp [e]
    | some x =>
      simp only [List.reverse_cons, look_append, ih]
      by_cases e : m = n
      · subst e
        by_cases hm : m ∈ ns
        · simp [h, hm]
        · simp [h, hm, look]
      · by_cases hm : m ∈ ns
        · cases hb : ob m <;> simp [e, hm, look, Ne.symm e]
        · simp [e, hm, look, Ne.symm e]
theorem updO_frz (ob : OF) (ns : List Nat) : updO ob (frz ob ns) = frzO ob ns := by
  funext m
  simp only [updO, look_frz, frzO]
  by_cases e : m ∈ ns
  · simp only [e, if_true]
    cases h : ob m <;> rfl
  · simp [e]

theorem frOb_row {o : Ob} : ∀ {sz es cur tags fz}, frOb o = .row sz es cur tags fz → ∃ fz', o = .row sz es cur tags fz' ∧ fz = true := by
  intro sz es cur tags fz h
  cases o with
  | box => cases h
  | row => injection h with h1 h2 h3 h4 h5; subst h1; subst h2; subst h3; subst h4; exact ⟨_, rfl, h5.symm⟩

theorem le_frz (ns : List Nat) : Le hd ob (frzH hd ns) (frzO ob ns) where
  box m cs fz h := by
    by_cases e : m ∈ ns
    · exact ⟨cs, true, by simp [frzO, e, h, frOb], by simp [frzH, e]⟩
    · exact ⟨cs, fz, by simp [frzO, e, h], by simp [frzH, e]⟩
  row m sz es cur tags fz h := by
    by_cases e : m ∈ ns
    · exact ⟨es, cur, tags, true, by simp [frzO, e, h, frOb], fun _ h => h, .inl ⟨rfl, by simp [frzH, e]⟩⟩
    · exact ⟨es, cur, tags, fz, by simp [frzO, e, h], fun _ h => h, .inl ⟨rfl, by simp [frzH, e]⟩⟩

theorem frzO_some {ns : List Nat} {m : Nat} (h : frzO ob ns m ≠ none) : ob m ≠ none := by
  intro e
  apply h
  unfold frzO
  split <;> simp [e]

theorem ORel.freeze (R : ORel ok hd ob w) (ns : List Nat) : ORel (frzK ok hd ob ns) (frzH hd ns) (frzO ob ns) w where
  okLt b hb := by
    rcases hb with hb | ⟨n, _, hn, hb⟩
    · exact R.okLt b hb
    · exact (R.own n b hn hb).2
  own m b hm hb := by
    by_cases e : m ∈ ns
    · simp [frzH, e] at hb
    · simp only [frzH, e, if_false] at hb
      have hm' := frzO_some hm
      obtain ⟨h1, h2⟩ := R.own m b hm' hb
      refine ⟨fun hk => ?_, h2⟩
      rcases hk with hk | ⟨n, hn, hno, hk⟩
      · exact h1 hk
      · exact R.disj m n b (fun q => e (q ▸ hn)) hm' hno hb hk
  disj m n b hmn hm hn hb := by
    by_cases e : m ∈ ns
    · simp [frzH, e] at hb
    · simp only [frzH, e, if_false] at hb
      by_cases e' : n ∈ ns
      · simp [frzH, e']
      · simp only [frzH, e', if_false]
        exact R.disj m n b hmn (frzO_some hm) (frzO_some hn) hb
  obs m o' hm := by
    have mono : ∀ {h : Hd} {o : Ob}, ObR w ok hd ob h o → ObR w (frzK ok hd ob ns) (frzH hd ns) (frzO ob ns) h o := fun hh => hh.mono (fun _ h => .inl h) (fun _ _ => rfl) (fun _ _ => rfl) (le_frz ns)
    by_cases e : m ∈ ns
    · simp only [frzO, e, if_true] at hm
      cases ho : ob m with
      | none => rw [ho] at hm; cases hm
      | some o =>
        rw [ho] at hm; injection hm with hm; subst hm
        have ho' := mono (R.obs m o ho)
        have hne : ob m ≠ none := by rw [ho]; simp
        cases o with
        | box cs fz =>
          obtain ⟨b, c, e', fr, h1, h2, h3, h4⟩ := ho'
          refine ⟨b, c, e', fr, by simp [frzH, e, h1], by simp [frzH, e], fun _ => ?_, h4⟩
          cases fz with
          | true => exact h3 rfl
          | false => exact .inr ⟨m, e, hne, by rw [h2]; simp⟩
        | row sz es cur tags fz =>
          obtain ⟨h0, hz, hh⟩ := ho'
          refine ⟨h0, hz, ?_⟩
          rcases hh with ⟨e1, e2, e3⟩ | ⟨b, c, e', fr, cap, h1, h2, h3, h4⟩
          · exact .inl ⟨e1, by simp [frzH, e, e2], by simp [frzH, e]⟩
          · refine .inr ⟨b, c, e', fr, cap, by simp [frzH, e, h1], by simp [frzH, e], fun _ => ?_, h4⟩
            cases fz with
            | true => exact h3 rfl
            | false => exact .inr ⟨m, e, hne, by rw [h2]; simp⟩
    · simp only [frzO, e, if_false] at hm
      have := mono (R.obs m o' hm)
      simp only [frzH, e, if_false]
      exact this

theorem Rel.freeze (R : Rel E ok hd tm ob tmps w) (ns : List Nat) : Rel E (frzK ok hd ob ns) (frzH hd ns) tm (frzO ob ns) tmps w where
  toORel := R.toORel.freeze ns
  fr := R.fr
  ok0 b hb := .inl (R.ok0 b hb)
  okSub b hb := by
    rcases hb with hb | ⟨n, _, hn, hb⟩
    · exact R.okSub b hb
    · exact .inr (R.ownSub n b hn hb)
  ownSub m b hm hb := by
    by_cases e : m ∈ ns
    · simp [frzH, e] at hb
    · simp only [frzH, e, if_false] at hb
      exact R.ownSub m b (frzO_some hm) hb
  nt := R.nt
  kp := R.kp.trans (le_frz ns).keep
  tms t x hx := (R.tms t x hx).mono (fun _ h => .inl h) (fun _ _ => rfl) (le_frz ns)

/-- All objects of the list are frozen. -/
def AllFr (ob : OF) (ns : List Nat) : Prop := ∀ n, n ∈ ns → ∀ o, ob n = some o → frOb o = o
theorem allFr_frzO (ob : OF) (ns : List Nat) : AllFr (frzO ob ns) ns := by
  intro n hn o h
  simp only [frzO, hn, if_true] at h
  cases hb : ob n with
  | none => rw [hb] at h; cases h
  | some x => rw [hb] at h; injection h with h; subst h; cases x <;> rfl

theorem capTree_frz (ns : List Nat) (c : Cap) : c.tree (frzO ob ns) = c.tree ob := by
  cases c with
  | t c => rfl
  | ptr o off =>
    by_cases h : o ∈ ns
    · cases hb : ob o with
      | none => simp [Cap.tree, frzO, h, hb]
      | some x => cases x <;> simp [Cap.tree, frzO, h, hb, frOb]
    · simp [Cap.tree, frzO, h]
theorem capsTree_frz (ns : List Nat) : ∀ l : List Cap, capsTree (frzO ob ns) l = capsTree ob l
  | [] => rfl
  | c :: r => by simp only [capsTree, capTree_frz, capsTree_frz ns r]
/-- What is frozen reads as it did. -/
theorem tree_frz (ns : List Nat) (v : V) : v.tree ob = v.tree (frzO ob ns) := by
  cases v with
  | row o g =>
    by_cases h : o ∈ ns
    · cases hb : ob o with
      | none => simp [V.tree, frzO, h, hb]
      | some x => cases x <;> simp [V.tree, frzO, h, hb, frOb]
    · simp [V.tree, frzO, h]
  | ptr o off => simp only [V.tree, capTree_frz]
  | fn f first caps => simp only [V.tree, capsTree_frz]
  | _ => rfl

theorem CapR.rep {v : Value} {c : Cap} {t : T} (R : ORel ok hd ob w) (h : CapR w ok hd ob v c) (ht : c.tree ob = some t) (hf : AllFr ob (crefs [c])) : Rep w ok v t := by
  cases c with
  | t c => simp [Cap.tree] at ht; subst ht; exact h
  | ptr o off =>
    obtain ⟨cs, fz, b, h1, h2, h3⟩ := h
    simp only [Cap.tree, h1] at ht
    split at ht
    · rename_i l hl
      injection ht with ht; subst ht
      have hfz := hf o (by simp [crefs]) _ h1
      injection hfz with _ hfz
      obtain ⟨b', c, e, fr, g1, g2, g3, g4, g5, g6, g7⟩ := R.obs o _ h1
      rw [h2] at g1; injection g1 with g1; injection g1 with g1; injection g1 with g1; subst g1
      obtain ⟨l1, l2⟩ := treesC_rel (cvs := c.toList) hl (by simpa using g6) (fun i c' x p q => g7 i c' x (by simpa using p) q)
      subst h3
      have := Rep.pt (w := w) (ok := ok) b 0 off l (fun j => c.getD j undef) (g3 hfz.symm) (fun j hj => by
        have hj' : j < c.size := by rw [← l1] at hj; simpa using hj
        rw [cell_of g4]; simp [Array.getD, hj']) (fun j t htj => by
        have hj' : j < l.length := by by_cases q : j < l.length; exact q; rw [List.getElem?_eq_none (by omega)] at htj; cases htj
        have hj2 : j < c.size := by rw [← l1] at hj'; simpa using hj'
        exact l2 j _ t (by simp [Array.getD, hj2]) htj)
      simpa using this
    · cases ht
theorem VR.rep {v : Value} {c : V} {t : T} (R : ORel ok hd ob w) (h : VR w ok hd ob v c) (ht : c.tree ob = some t) (hf : AllFr ob c.refs) : Rep w ok v t := by
  cases c with
  | t c => simp [V.tree] at ht; subst ht; exact h
  | nil => simp [V.tree] at ht; subst ht; cases h; exact .snil
  | row o g =>
    obtain ⟨sz, es, cur, tags, fz, h1, h2, _, h3⟩ := h
    simp only [V.tree, h1] at ht
    by_cases hg : eqB g cur = true
    · rw [hg] at ht; simp at ht; subst ht
      have hfz := hf o (by simp [V.refs]) _ h1
      injection hfz with _ _ _ _ hfz
      rw [h3 (eq_of_eqB hg)]
      obtain ⟨_, _, hR⟩ := R.obs o _ h1
      rcases hR with ⟨he, hv, _⟩ | ⟨b', c, e, fr, cap', g1, g2, g3, g4, g5, g6, g7, g7', g8, g9⟩
      · rw [hv]; subst he; exact .snil
      · rw [g1]
        have hm : ∀ i j, i < es.length → j < sz → i * sz + j < c.size := by
          intro i j hi hj
          have : (i + 1) * sz ≤ cap' * sz := Nat.mul_le_mul_right _ (by omega)
          rw [Nat.succ_mul] at this; omega
        refine .sl b' 0 cap' sz es (fun i j => c.getD (i * sz + j) undef) g7' g7 g8 (g3 hfz.symm) (fun i j hi hj => ?_) (fun i j x t hx ht => ?_)
        · rw [cell_of g4]; have := hm i j hi hj; simp [Array.getD, this]
        · obtain ⟨v, hv, hr⟩ := g9 i j x t hx ht
          simpa [Array.getD_eq_getD_getElem?, hv] using hr
    · rw [Bool.not_eq_true] at hg; rw [hg] at ht; cases ht
  | ptr o off => exact CapR.rep R (c := .ptr o off) h ht (by simpa [V.refs, crefs] using hf)
  | elt o g i j => cases ht
  | fn f first caps =>
    obtain ⟨fvs, cvs, rfl, h2, h3, h4, h5, h6⟩ := h
    simp only [V.tree] at ht
    split at ht
    · rename_i l hl
      injection ht with ht; subst ht
      have key : ∀ (caps : List Cap) (l : List T) (cvs : List Value), capsTree ob caps = some l → cvs.length = caps.length → (∀ (j : Nat) v c, cvs[j]? = some v → caps[j]? = some c → CapR w ok hd ob v c) → AllFr ob (crefs caps) →
          cvs.length = l.length ∧ ∀ (j : Nat) v t, cvs[j]? = some v → l[j]? = some t → Rep w ok v t := by
        intro caps
        induction caps with
        | nil => intro l cvs h hl _ _; simp [capsTree] at h; subst h; simp at hl; subst hl; exact ⟨rfl, by simp⟩
        | cons c r ih =>
          intro l cvs h hl hr hfr
          unfold capsTree at h
          split at h
          · rename_i t l' ht hl'
            injection h with h; subst h
            cases cvs with
            | nil => simp at hl
            | cons cv cvs =>
              have hfc : AllFr ob (crefs [c]) := fun n hn => hfr n (by cases c <;> simp [crefs] at hn ⊢; exact .inl hn)
              have hfr' : AllFr ob (crefs r) := fun n hn => hfr n (by cases c <;> simp [crefs] <;> first | exact hn | exact .inr hn)
              obtain ⟨l1, l2⟩ := ih l' cvs hl' (by simpa using hl) (fun j v c p q => hr (j + 1) v c (by simpa using p) (by simpa using q)) hfr'
              refine ⟨by simp [l1], fun j v t' p q => ?_⟩
              cases j with
              | zero => simp at p q; subst p; subst q; exact CapR.rep R (hr 0 _ _ rfl rfl) ht hfc
              | succ j => exact l2 j v t' (by simpa using p) (by simpa using q)
          · cases h
      obtain ⟨l1, l2⟩ := key caps l cvs hl h4 h6 (by simpa [V.refs] using hf)
      exact .fn f first l fvs cvs h2 h3 l1 h5 l2
    · cases ht
  | bsl o n sz => cases ht
  | part o g i j => cases ht
  | any => cases ht

theorem allFr_append {l m : List Nat} : AllFr ob (l ++ m) ↔ AllFr ob l ∧ AllFr ob m :=
  ⟨fun h => ⟨fun n hn => h n (by simp [hn]), fun n hn => h n (by simp [hn])⟩, fun h n hn => by rcases List.mem_append.1 hn with q | q; exact h.1 n q; exact h.2 n q⟩

theorem trees_rel (R : ORel ok hd ob w) : ∀ {vs : List V} {ts : List T} {cvs : List Value}, trees ob vs = some ts → cvs.length = vs.length → (∀ (i : Nat) c x, cvs[i]? = some c → vs[i]? = some x → VR w ok hd ob c x) → AllFr ob (vrefs vs) →
    cvs.length = ts.length ∧ ∀ (j : Nat) v t, cvs[j]? = some v → ts[j]? = some t → Rep w ok v t := by
  intro vs
  induction vs with
  | nil => intro ts cvs h hl _ _; simp [trees] at h; subst h; simp at hl; subst hl; exact ⟨rfl, by simp⟩
  | cons v vs ih =>
    intro ts cvs h hl hr hfr
    unfold trees at h
    split at h
    · rename_i c r hc hr'
      injection h with h; subst h
      cases cvs with
      | nil => simp at hl
      | cons cv cvs =>
        obtain ⟨f1, f2⟩ := allFr_append.1 (show AllFr ob (v.refs ++ vrefs vs) from hfr)
        obtain ⟨l1, l2⟩ := ih hr' (by simpa using hl) (fun j v c p q => hr (j + 1) v c (by simpa using p) (by simpa using q)) f2
        refine ⟨by simp [l1], fun j v t' p q => ?_⟩
        cases j with
        | zero => simp at p q; subst p; subst q; exact VR.rep R (hr 0 _ _ rfl rfl) hc f1
        | succ j => exact l2 j v t' (by simpa using p) (by simpa using q)
    · cases h

theorem AR.rep (R : ORel ok hd ob w) {v : Value} {x y : A} (h : AR w ok hd ob v x) : x.tree ob = some y → AllFr ob x.refs → AR w ok hd ob v y := by
  induction h generalizing y with
  | one v c h =>
    intro ht hf
    unfold A.tree at ht
    split at ht
    · rename_i t hc; injection ht with ht; subst ht; exact .one _ _ (VR.rep R h hc hf)
    · cases ht
  | agg cs vs hl h =>
    intro ht hf
    unfold A.tree at ht
    split at ht
    · rename_i l hc
      injection ht with ht; subst ht
      obtain ⟨l1, l2⟩ := trees_rel R hc hl h hf
      refine .agg cs _ (by simp [l1]) fun i c x p q => ?_
      rw [List.getElem?_map] at q
      cases hx : l[i]? with
      | none => rw [hx] at q; cases q
      | some t => rw [hx] at q; injection q with q; subst q; exact l2 i c t p hx
    · cases ht
  | tup xs as hl h ih =>
    intro ht hf
    unfold A.tree at ht
    split at ht
    · rename_i r hr
      injection ht with ht; subst ht
      have key : ∀ (as : List A) (xs : List Value) (r : List A), A.tree.go ob as = some r → xs.length = as.length → (∀ (i : Nat) x a, xs[i]? = some x → as[i]? = some a → ∀ {y : A}, a.tree ob = some y → AllFr ob a.refs → AR w ok hd ob x y) → AllFr ob (A.refs.go as) →
          xs.length = r.length ∧ ∀ (i : Nat) x a, xs[i]? = some x → r[i]? = some a → AR w ok hd ob x a := by
        intro as
        induction as with
        | nil => intro xs r h hl _ _; simp [A.tree.go] at h; subst h; simp at hl; subst hl; exact ⟨rfl, by simp⟩
        | cons a as iha =>
          intro xs r h hl hr hfr
          unfold A.tree.go at h
          split at h
          · rename_i c r' hc hr'
            injection h with h; subst h
            cases xs with
            | nil => simp at hl
            | cons cv cvs =>
              obtain ⟨f1, f2⟩ := allFr_append.1 (show AllFr ob (a.refs ++ A.refs.go as) from hfr)
              obtain ⟨l1, l2⟩ := iha cvs r' hr' (by simpa using hl) (fun j v c p q => hr (j + 1) v c (by simpa using p) (by simpa using q)) f2
              refine ⟨by simp [l1], fun j v t' p q => ?_⟩
              cases j with
              | zero => simp at p q; subst p; subst q; exact hr 0 _ _ rfl rfl hc f1
              | succ j => exact l2 j v t' (by simpa using p) (by simpa using q)
          · cases h
      obtain ⟨l1, l2⟩ := key as xs r hr hl (fun i x a p q => ih i x a p q) hf
      exact .tup xs r l1 l2
    · cases ht

end Go.TL

/- TlL -/
namespace Go.TL
open Go

variable {P : Program} {E : Env P} {ok : Nat → Prop} {hd : HF} {tm : Nat → Option A} {ob : OF} {w : World} {a : Act} {K : A → Obs → Prop} {o : Oper} {tab : TF} {cl : Nat → List A → Obs → (A → Obs → Prop) → Prop} {tmps : Array Value}

theorem Rel.turn {n : Nat} {x x' : Ob} {h' : Hd} {w' : World} (R : Rel E ok hd tm ob tmps w) (hx : ob n = some x) (hf : Fr (hd n).own w w')
    (hown : ∀ b, b ∈ h'.own → (b ∈ (hd n).own ∨ w.heap.size ≤ b) ∧ b < w'.heap.size) (le : Le hd ob (setF hd n h') (setF ob n (some x')))
    (hO : ObR w' ok (setF hd n h') (setF ob n (some x')) h' x') : Rel E ok (setF hd n h') tm (setF ob n (some x')) tmps w' := by
  have hne : ob n ≠ none := by rw [hx]; simp
  have hok : ∀ b, ok b → w'.heap[b]? = w.heap[b]? := fun b hb => hf.block b (R.okLt b hb) fun q => (R.own n b hne q).1 hb
  have hne' : ∀ m, m ≠ n → setF ob n (some x') m ≠ none → ob m ≠ none := fun m hm h => by rwa [setF_ne _ _ _ _ hm] at h
  refine { okLt := fun b hb => Nat.lt_of_lt_of_le (R.okLt b hb) hf.size, own := ?_, disj := ?_, obs := ?_, fr := ?_, ok0 := R.ok0, okSub := R.okSub, ownSub := ?_, nt := R.nt, kp := R.kp.trans le.keep, tms := ?_ }
  · intro m b hm hb
    by_cases e : m = n
    · subst e
      rw [setF_same] at hb
      obtain ⟨h1, h2⟩ := hown b hb
      refine ⟨fun hk => ?_, h2⟩
      rcases h1 with h1 | h1
      · exact (R.own m b hne h1).1 hk
      · have := R.okLt b hk; omega
    · rw [setF_ne _ _ _ _ e] at hb
      obtain ⟨h1, h2⟩ := R.own m b (hne' m e hm) hb
      exact ⟨h1, Nat.lt_of_lt_of_le h2 hf.size⟩
  · intro m k b hmk hm hk hb
    by_cases e : m = n
    · subst e
      have ek : k ≠ m := fun q => hmk q.symm
      rw [setF_same] at hb
      rw [setF_ne _ _ _ _ ek]
      rcases (hown b hb).1 with h1 | h1
      · exact R.disj m k b hmk hne (hne' k ek hk) h1
      · intro h2; have := (R.own k b (hne' k ek hk) h2).2; omega
    · rw [setF_ne _ _ _ _ e] at hb
      by_cases e' : k = n
      · subst e'
        rw [setF_same]
        intro h2
        rcases (hown b h2).1 with h1 | h1
        · exact R.disj m k b hmk (hne' m e hm) hne hb h1
        · have := (R.own m b (hne' m e hm) hb).2; omega
      · rw [setF_ne _ _ _ _ e']
        exact R.disj m k b hmk (hne' m e hm) (hne' k e' hk) hb
  · intro m o' hm
    by_cases e : m = n
    · subst e
      rw [setF_same] at hm ⊢
      injection hm with hm; subst hm
      exact hO
    · rw [setF_ne _ _ _ _ e] at hm ⊢
      refine (R.obs m o' hm).mono (fun _ h => h) hok (fun b hb => ?_) le
      have hm' : ob m ≠ none := by rw [hm]; simp
      exact hf.block b (R.own m b hm' hb).2 fun q => R.disj m n b e hm' hne hb q
  · exact ⟨hf.os.trans R.fr.os, hf.tape.trans R.fr.tape, hf.output.trans R.fr.output, Nat.le_trans R.fr.size hf.size, fun b hb hn =>
      (hf.block b (Nat.lt_of_lt_of_le hb R.fr.size) fun q' => by
        rcases R.ownSub n b hne q' with h | h
        · omega
        · exact hn h).trans (R.fr.block b hb hn)⟩
  · intro m b hm hb
    by_cases e : m = n
    · subst e
      rw [setF_same] at hb
      rcases (hown b hb).1 with h1 | h1
      · exact R.ownSub m b hne h1
      · have := R.fr.size; exact .inl (by omega)
    · rw [setF_ne _ _ _ _ e] at hb
      exact R.ownSub m b (hne' m e hm) hb
  · exact fun t x hx => (R.tms t x hx).mono (fun _ h => h) hok le

theorem setCell_block {w : World} {b i : Nat} {v : Value} {c : Array Value} {e : TypeId} {fr : Nat × Nat} (h : w.heap[b]? = some (.cells c e fr)) :
    (w.setCell ⟨b, i, none⟩ v).heap[b]? = some (.cells (c.setIfInBounds i v) e fr) := by
  simp [World.setCell, Array.getElem?_modify, h]
theorem setCell_fr (w : World) (b i : Nat) (v : Value) : Fr [b] w (w.setCell ⟨b, i, none⟩ v) :=
  ⟨rfl, rfl, rfl, by simp [World.setCell], fun k _ hk => by
    have : b ≠ k := fun e => hk (by simp [e])
    simp [World.setCell, Array.getElem?_modify, this]⟩
theorem setCells_block : ∀ (vs : List Value) {w : World} {b o : Nat} {c : Array Value} {e : TypeId} {fr : Nat × Nat}, w.heap[b]? = some (.cells c e fr) → o + vs.length ≤ c.size →
    ∃ c', (w.setCells b o vs).heap[b]? = some (.cells c' e fr) ∧ c'.size = c.size ∧ (∀ j, c'[j]? = if o ≤ j ∧ j < o + vs.length then vs[j - o]? else c[j]?) ∧ Fr [b] w (w.setCells b o vs)
  | [], w, b, o, c, e, fr, h, hl => ⟨c, h, rfl, fun j => by rw [if_neg (by intro h; simp at h; omega)], Fr.refl _ _⟩
  | v :: r, w, b, o, c, e, fr, h, hl => by
    have h1 := setCell_block (i := o) (v := v) h
    obtain ⟨c', h2, h3, h4, h5⟩ := setCells_block r (o := o + 1) h1 (by simp at hl ⊢; omega)
    refine ⟨c', h2, by simpa using h3, fun j => ?_, (setCell_fr w b o v).trans h5⟩
    rw [h4 j]
    simp only [List.length_cons] at hl ⊢
    by_cases e1 : o + 1 ≤ j ∧ j < o + 1 + r.length
    · rw [if_pos e1, if_pos (by omega), show j - o = (j - (o + 1)) + 1 by omega]; simp
    · rw [if_neg e1]
      by_cases e2 : j = o
      · subst e2
        rw [if_pos (by omega), Array.getElem?_setIfInBounds]
        simp; omega
      · rw [if_neg (by omega), Array.getElem?_setIfInBounds_ne (Ne.symm e2)]

theorem getElem?_setAt {α : Type} : ∀ (l : List α) (off : Nat) (r : List α) (j : Nat), off + r.length ≤ l.length → (setAt l off r)[j]? = if off ≤ j ∧ j < off + r.length then r[j - off]? else l[j]?
  | l, off, [], j, h => by
    have : setAt l off ([] : List α) = l := by cases l <;> cases off <;> rfl
    rw [this, if_neg (by intro h; simp at h; omega)]
  | [], off, x :: r, j, h => by simp at h
  | y :: l, 0, x :: r, j, h => by
    show (x :: setAt l 0 r)[j]? = _
    cases j with
    | zero => simp
    | succ j =>
      have ih := getElem?_setAt l 0 r j (by simp at h ⊢; omega)
      simp only [List.getElem?_cons_succ, ih, List.length_cons]
      by_cases e : j < r.length
      · rw [if_pos (by omega), if_pos (by omega)]; simp
      · rw [if_neg (by omega), if_neg (by omega)]
  | y :: l, off + 1, x :: r, j, h => by
    show (y :: setAt l off (x :: r))[j]? = _
    cases j with
    | zero => rw [if_neg (by omega)]; rfl
    | succ j =>
      have ih := getElem?_setAt l off (x :: r) j (by simp at h ⊢; omega)
      simp only [List.getElem?_cons_succ, ih]
      by_cases e : off ≤ j ∧ j < off + (x :: r).length
      · rw [if_pos e, if_pos (by omega), show j + 1 - (off + 1) = j - off by omega]
      · rw [if_neg e, if_neg (by omega)]
theorem length_setAt {α : Type} : ∀ (l : List α) (off : Nat) (r : List α), (setAt l off r).length = l.length
  | [], _, [] => rfl
  | _ :: _, 0, [] => rfl
  | _ :: _, _ + 1, [] => rfl
  | [], _, _ :: _ => rfl
  | _ :: l, 0, _ :: r => by show (setAt l 0 r).length + 1 = _; rw [length_setAt]; rfl
  | _ :: l, off + 1, x :: r => by show (setAt l off (x :: r)).length + 1 = _; rw [length_setAt]; rfl

theorem Rep.oneCell {v : Value} {t : T} (h : Rep w ok v t) : v.oneCell' = true := by cases h <;> rfl
theorem VR.oneCell {v : Value} {c : V} (h : VR w ok hd ob v c) (hc : c ≠ .any) : v.oneCell' = true := by
  cases c with
  | t c => exact Rep.oneCell h
  | nil => cases h; rfl
  | row o g => obtain ⟨_, _, _, _, _, _, _, ⟨_, _, _, rfl⟩, _⟩ := h; rfl
  | ptr o off => obtain ⟨_, _, _, _, _, rfl⟩ := h; rfl
  | elt o g i j => obtain ⟨_, _, _, _, _, _, _, ⟨_, rfl⟩, _⟩ := h; rfl
  | fn f first caps => obtain ⟨_, _, rfl, _⟩ := h; rfl
  | bsl o n sz => obtain ⟨_, _, _, _, _, rfl, _⟩ := h; rfl
  | part o g i j => obtain ⟨_, _, _, _, _, _, _, ⟨_, _, _, rfl⟩, _⟩ := h; rfl
  | any => exact absurd rfl hc
theorem noAny_mem : ∀ {vs : List V}, noAny vs = true → ∀ (j : Nat) x, vs[j]? = some x → x ≠ .any
  | [], _, j, x, h => by simp at h
  | v :: vs, hn, j, x, h => by
    cases j with
    | zero => simp at h; subst h; intro e; subst e; cases hn
    | succ j => exact noAny_mem (vs := vs) (by cases v <;> first | exact hn | cases hn) j x (by simpa using h)

/-- A store into a variable. -/
theorem op_storeBox {t n off : Nat} {x y : Operand} {ti : TI} {cs vs : List V} {av : A} (ho : o.op = .store t x y) (hT : TabOk P tab) (R : Rel E ok hd tm ob a.tmps w) (hx : ev tm x = some (.one (.ptr n off))) (hy : ev tm y = some av)
    (hti : tab t = some ti) (hob : ob n = some (.box cs false)) (hvs : av.cells = some vs) (hl : vs.length = ti.size) (hle : off + ti.size ≤ cs.length) (hna : noAny vs = true)
    (hk : K (.one .any) [(n, .box (setAt cs off vs) false)]) : Goes P E tm ob a.tmps K o a w := by
  obtain ⟨cs', fz', b, h1, h2, h3⟩ := (ev_rel R hx).one_inv
  rw [hob] at h1; injection h1 with h1; injection h1 with h1 h1'; subst h1; subst h1'
  obtain ⟨b', c, e, fr, g1, g2, g3, g4, g5, g6, g7⟩ := R.obs n _ hob
  rw [h2] at g1; injection g1 with g1; injection g1 with g1; injection g1 with g1; subst g1
  obtain ⟨k1, k2⟩ := (ev_rel R hy).cells hvs
  obtain ⟨i, hi, hsz, _, _⟩ := (hT t ti hti).info
  have hone : ∀ v ∈ (a.eval y).cells.toList, v.oneCell' = true := by
    intro v hv
    obtain ⟨j, hj⟩ := List.getElem?_of_mem hv
    have hj' : (a.eval y).cells[j]? = some v := by simpa using hj
    have hlt : j < vs.length := by
      rw [← k1]
      by_cases q : j < (a.eval y).cells.size
      · exact q
      · rw [Array.getElem?_eq_none (by omega)] at hj'; cases hj'
    exact (k2 j v _ hj' (List.getElem?_eq_getElem hlt)).oneCell (noAny_mem hna j _ (List.getElem?_eq_getElem hlt))
  have hrun : (storeVar t ⟨b, off, none⟩ (a.eval y)).run P w = .ok () (w.setCells b off (a.eval y).cells.toList) := by
    have := run_storeCells_cells (P := P) b off (a.eval y).cells.toList 0 w (fun j hj => by
        rw [cell_of g4]; simp at hj; simp; omega) (fun j hj => by
        have := g5.at (off + 0 + j) (by simp at hj; omega)
        simp only [World.frozen?, g4]
        simp only [Bool.and_eq_false_iff, decide_eq_false_iff_not]
        omega) hone
    simp only [Nat.add_zero] at this
    simp [storeVar, sizeOf, typeInfo, hi, hsz, k1, hl, this]
  obtain ⟨c', m1, m2, m3, m4⟩ := setCells_block (a.eval y).cells.toList (o := off) g4 (by simp; omega)
  refine goes_skip (w' := w.setCells b off (a.eval y).cells.toList) (ok' := ok) (hd' := setF hd n (hd n)) (by simp [execOp, ho, h3, Instr.storeAt, Instr.sureAddr, hrun]) hk ?_
  rw [updO_one]
  have le : Le hd ob (setF hd n (hd n)) (setF ob n (some (.box (setAt cs off vs) false))) := by
    have hsame : setF hd n (hd n) = hd := by funext m; unfold setF; split <;> simp_all
    rw [hsame]
    refine ⟨fun m cs2 fz2 hm => ?_, fun m sz es cur tags fz2 hm => ?_⟩
    · by_cases q : m = n
      · subst q; exact ⟨_, _, setF_same _ _ _, rfl⟩
      · exact ⟨_, _, by rw [setF_ne _ _ _ _ q]; exact hm, rfl⟩
    · have q : m ≠ n := fun q => by subst q; rw [hob] at hm; cases hm
      exact ⟨_, _, _, _, by rw [setF_ne _ _ _ _ q]; exact hm, fun _ h => h, .inl ⟨rfl, rfl⟩⟩
  have hown : (hd n).own = [b] := by simpa using g2
  refine R.turn hob (by rw [hown]; exact m4) (fun b2 hb2 => ⟨.inl hb2, Nat.lt_of_lt_of_le (R.own n b2 (by rw [hob]; simp) hb2).2 m4.size⟩) le ?_
  have hokb : ∀ k, ok k → (w.setCells b off (a.eval y).cells.toList).heap[k]? = w.heap[k]? := fun k hk => m4.block k (R.okLt k hk) fun q => by
    have : k = b := by simpa using q
    subst this
    exact (R.own n k (by rw [hob]; simp) (by rw [hown]; simp)).1 hk
  refine ⟨b, c', e, fr, h2, by simpa using hown, by simp, m1, by rw [m2]; exact g5, by rw [m2, g6, length_setAt], fun j v x hj hx => ?_⟩
  rw [m3 j] at hj
  rw [getElem?_setAt _ _ _ _ (by omega)] at hx
  simp only [Array.length_toList, k1] at hj
  by_cases q : off ≤ j ∧ j < off + vs.length
  · rw [if_pos q] at hj hx
    exact (k2 (j - off) v x (by simpa using hj) hx).mono (fun _ h => h) hokb le
  · rw [if_neg q] at hj hx
    exact (g7 j v x hj hx).mono (fun _ h => h) hokb le

theorem modify_get {es : List (List T)} {i k : Nat} {f : List T → List T} : (es.modify i f)[k]? = if i = k then es[k]?.map f else es[k]? := by
  rw [List.getElem?_modify]
  split <;> rename_i h
  · subst h; cases es[i]? <;> simp
  · cases es[k]? <;> simp

theorem le_row {n sz : Nat} {es es' : List (List T)} {cur : Nat} {tags : List Nat} {fz fz' : Bool} (hob : ob n = some (.row sz es cur tags fz)) {h : Hd} (hh : h.v = (hd n).v) :
    Le hd ob (setF hd n h) (setF ob n (some (.row sz es' cur tags fz'))) where
  box m cs2 fz2 hm := by
    have q : m ≠ n := fun q => by subst q; rw [hob] at hm; cases hm
    exact ⟨_, _, by rw [setF_ne _ _ _ _ q]; exact hm, by rw [setF_ne _ _ _ _ q]⟩
  row m sz2 es2 cur2 tags2 fz2 hm := by
    by_cases q : m = n
    · subst q
      rw [hob] at hm; injection hm with hm; injection hm with q1 q2 q3 q4 q5; subst q1; subst q3; subst q4
      exact ⟨_, _, _, _, setF_same _ _ _, fun _ h => h, .inl ⟨rfl, by rw [setF_same, hh]⟩⟩
    · exact ⟨_, _, _, _, by rw [setF_ne _ _ _ _ q]; exact hm, fun _ h => h, .inl ⟨rfl, by rw [setF_ne _ _ _ _ q]⟩⟩

/-- A store into an element of an own row. -/
theorem op_storeElt {t n g j sz : Nat} {i : Int} {x y : Operand} {ti : TI} {vs : List V} {l : List T} {es : List (List T)} {cur : Nat} {tags : List Nat} {av : A} (ho : o.op = .store t x y) (hT : TabOk P tab) (R : Rel E ok hd tm ob a.tmps w)
    (hx : ev tm x = some (.one (.elt n g i j))) (hy : ev tm y = some av) (hti : tab t = some ti) (hob : ob n = some (.row sz es cur tags false)) (hvs : av.cells = some vs) (hts : treesC vs = some l)
    (hg : g = cur) (hl : l.length = ti.size) (hle : j + ti.size ≤ sz) (hin : std.inb i es) (hk : K (.one .any) [(n, .row sz (std.setc es i j l) cur tags false)]) : Goes P E tm ob a.tmps K o a w := by
  obtain ⟨h0, h1⟩ := index_inv hin
  obtain ⟨sz', es', cur', tags', fz', p1, p2, _, p3⟩ := (ev_rel R hx).one_inv
  rw [hob] at p1; injection p1 with p1; injection p1 with q1 q2 q3 q4 q5; subst q1; subst q2; subst q3; subst q4; subst q5
  obtain ⟨_, b, len, cap, p4, p5⟩ := p3 hg
  obtain ⟨hcur, hz, hR⟩ := R.obs n _ hob
  rcases hR with ⟨he, _⟩ | ⟨b', c, e, fr, cap', g1, g2, g3, g4, g5, g6, g7, g7', g8, g9⟩
  · subst he; simp at h1; omega
  rw [p4] at g1; injection g1 with g1 g1' g1''; injection g1 with g1; injection g1 with g1; subst g1; subst g1'; subst g1''
  obtain ⟨k1, k2⟩ := (ev_rel R hy).cells hvs
  have k1' : (a.eval y).cells.toList.length = vs.length := by simpa using k1
  obtain ⟨l1, l2⟩ := treesC_rel hts k1' (fun i c x p q => k2 i c x (by simpa using p) q)
  obtain ⟨ii, hi, hsz, _, _⟩ := (hT t ti hti).info
  have hone : ∀ v ∈ (a.eval y).cells.toList, v.oneCell' = true := by
    intro v hv
    obtain ⟨jj, hj⟩ := List.getElem?_of_mem hv
    have hlt : jj < l.length := by
      rw [← l1]
      by_cases q : jj < (a.eval y).cells.toList.length
      · exact q
      · rw [List.getElem?_eq_none (by omega)] at hj; cases hj
    exact (l2 jj v _ hj (List.getElem?_eq_getElem hlt)).oneCell
  have hmul : (i.toNat + 1) * sz ≤ cap * sz := Nat.mul_le_mul_right _ (by omega)
  rw [Nat.succ_mul] at hmul
  have hrun : (storeVar t ⟨b, i.toNat * sz + j, none⟩ (a.eval y)).run P w = .ok () (w.setCells b (i.toNat * sz + j) (a.eval y).cells.toList) := by
    have := run_storeCells_cells (P := P) b (i.toNat * sz + j) (a.eval y).cells.toList 0 w (fun jj hj => by
        rw [cell_of g4]; simp at hj; simp; omega) (fun jj hj => by
        have := g5.at (i.toNat * sz + j + 0 + jj) (by simp at hj; omega)
        simp only [World.frozen?, g4]
        simp only [Bool.and_eq_false_iff, decide_eq_false_iff_not]
        omega) hone
    simp only [Nat.add_zero] at this
    have e1 : (a.eval y).cells.size = ti.size := by rw [k1, ← k1', l1, hl]
    simp [storeVar, sizeOf, typeInfo, hi, hsz, e1, this]
  obtain ⟨c', m1, m2, m3, m4⟩ := setCells_block (a.eval y).cells.toList (o := i.toNat * sz + j) g4 (by omega)
  refine goes_skip (w' := w.setCells b (i.toNat * sz + j) (a.eval y).cells.toList) (ok' := ok) (hd' := setF hd n (hd n)) (by simp [execOp, ho, p5, Instr.storeAt, Instr.sureAddr, hrun]) hk ?_
  rw [updO_one]
  have hown : (hd n).own = [b] := by simpa using g2
  refine R.turn hob (by rw [hown]; exact m4) (fun b2 hb2 => ⟨.inl hb2, Nat.lt_of_lt_of_le (R.own n b2 (by rw [hob]; simp) hb2).2 m4.size⟩) (le_row hob rfl) ?_
  have hokb : ∀ k, ok k → (w.setCells b (i.toNat * sz + j) (a.eval y).cells.toList).heap[k]? = w.heap[k]? := fun k hk => m4.block k (R.okLt k hk) fun q => by
    have : k = b := by simpa using q
    subst this
    exact (R.own n k (by rw [hob]; simp) (by rw [hown]; simp)).1 hk
  have hlen : (std.setc es i j l).length = es.length := by simp [std]
  have hmem : ∀ k (x : List T), (std.setc es i j l)[k]? = some x → ∃ x0, es[k]? = some x0 ∧ x.length = x0.length ∧ (if i.toNat = k then x = setAt x0 j l else x = x0) := by
    intro k x hx
    have hx : (es.modify i.toNat fun e => setAt e j l)[k]? = some x := hx
    rw [modify_get] at hx
    by_cases q : i.toNat = k
    · rw [if_pos q] at hx
      cases hq : es[k]? with
      | none => rw [hq] at hx; cases hx
      | some x0 => rw [hq] at hx; injection hx with hx; subst hx; exact ⟨x0, rfl, length_setAt _ _ _, by rw [if_pos q]⟩
    · rw [if_neg q] at hx; exact ⟨x, hx, rfl, by rw [if_neg q]⟩
  refine ⟨hcur, hz, .inr ⟨b, c', e, fr, cap, by rw [hlen]; exact p4, by simpa using hown, by simp, m1, by rw [m2]; exact g5, by rw [m2]; exact g6, by rw [hlen]; exact g7, by rw [hlen]; exact g7', ?_, ?_⟩⟩
  · intro x hx
    obtain ⟨k, hk⟩ := List.getElem?_of_mem hx
    obtain ⟨x0, h2, h3, _⟩ := hmem k x hk
    rw [h3]; exact g8 x0 (List.mem_of_getElem? h2)
  · intro i' j' x t' hx ht'
    obtain ⟨x0, h2, h3, h4⟩ := hmem i' x hx
    have hx0 : x0.length = sz := g8 x0 (List.mem_of_getElem? h2)
    have hj' : j' < sz := by
      by_cases q : j' < sz
      · exact q
      · rw [List.getElem?_eq_none (by omega)] at ht'; cases ht'
    rw [m3]
    by_cases q : i.toNat = i'
    · rw [if_pos q] at h4
      subst h4; subst q
      rw [getElem?_setAt _ _ _ _ (by omega)] at ht'
      by_cases q2 : j ≤ j' ∧ j' < j + l.length
      · rw [if_pos q2] at ht'
        rw [if_pos (by omega), show i.toNat * sz + j' - (i.toNat * sz + j) = j' - j by omega]
        have hlt : j' - j < (a.eval y).cells.toList.length := by omega
        exact ⟨_, List.getElem?_eq_getElem hlt, (l2 (j' - j) _ t' (List.getElem?_eq_getElem hlt) ht').mono (fun _ h => h) hokb⟩
      · rw [if_neg q2] at ht'
        rw [if_neg (by omega)]
        obtain ⟨v, hv, hr⟩ := g9 i.toNat j' x0 t' h2 ht'
        exact ⟨v, hv, hr.mono (fun _ h => h) hokb⟩
    · rw [if_neg q] at h4
      subst h4
      have hne : ¬ (i.toNat * sz + j ≤ i' * sz + j' ∧ i' * sz + j' < i.toNat * sz + j + (a.eval y).cells.toList.length) := by
        rcases Nat.lt_or_ge i' i.toNat with q2 | q2
        · have : (i' + 1) * sz ≤ i.toNat * sz := Nat.mul_le_mul_right _ q2
          rw [Nat.succ_mul] at this; omega
        · have : (i.toNat + 1) * sz ≤ i' * sz := Nat.mul_le_mul_right _ (by omega)
          rw [Nat.succ_mul] at this; omega
      rw [if_neg hne]
      obtain ⟨v, hv, hr⟩ := g9 i' j' x t' h2 ht'
      exact ⟨v, hv, hr.mono (fun _ h => h) hokb⟩

theorem op_store {t : Nat} {x y : Operand} (ho : o.op = .store t x y) (hT : TabOk P tab) (R : Rel E ok hd tm ob a.tmps w) (h : (sStore std tab t ob (ev tm x) (ev tm y)).holds std cl K) : Goes P E tm ob a.tmps K o a w := by
  unfold sStore at h
  split at h
  · rename_i n off av hx hy
    split at h
    · rename_i ti cs vs hti hob hvs
      obtain ⟨hb, h'⟩ := bif_inv h
      rw [Bool.and_eq_true, Bool.and_eq_true] at hb
      exact op_storeBox ho hT R hx hy hti hob hvs (eq_of_eqB hb.1.1) (le_of_leB hb.1.2) hb.2 h'
    · exact h.elim
  · rename_i n g i j av hx hy
    split at h
    · rename_i ti sz es cur tags vs hti hob hvs
      split at h
      · rename_i l hl
        obtain ⟨hb, h'⟩ := bif_inv h
        rw [Bool.and_eq_true, Bool.and_eq_true] at hb
        exact op_storeElt ho hT R hx hy hti hob hvs hl (eq_of_eqB hb.1.1) (eq_of_eqB hb.1.2) (le_of_leB hb.2) h'.1 h'.2
      · exact h.elim
    · exact h.elim
  · exact h.elim

end Go.TL

/- TlM -/
namespace Go.TL
open Go

variable {P : Program} {E : Env P} {ok : Nat → Prop} {hd : HF} {tm : Nat → Option A} {ob : OF} {w : World} {a : Act} {K : A → Obs → Prop} {o : Oper} {tab : TF} {cl : Nat → List A → Obs → (A → Obs → Prop) → Prop} {tmps : Array Value}

/-- Cells that read as a list of elements, one behind the other. -/
structure Flat (w : World) (ok : Nat → Prop) (sz : Nat) (es : List (List T)) (cells : List Value) : Prop where
  len : cells.length = es.length * sz
  wid : ∀ x, x ∈ es → x.length = sz
  rep : ∀ (i j : Nat) x t, es[i]? = some x → x[j]? = some t → ∃ v, cells[i * sz + j]? = some v ∧ Rep w ok v t
theorem Flat.one {sz : Nat} {es : List (List T)} {cells : List Value} (h : Flat w ok sz es cells) (hz : 0 < sz) : ∀ u ∈ cells, u.oneCell' = true := by
  intro u hu
  obtain ⟨k, hk⟩ := List.getElem?_of_mem hu
  have hlt : k < es.length * sz := by
    rw [← h.len]
    by_cases q : k < cells.length
    · exact q
    · rw [List.getElem?_eq_none (by omega)] at hk; cases hk
  have h1 : k / sz < es.length := Nat.div_lt_of_lt_mul (by rwa [Nat.mul_comm] at hlt)
  have hx := List.getElem?_eq_getElem h1
  have hl := h.wid _ (List.mem_of_getElem? hx)
  have h2 : k % sz < (es[k / sz]).length := by rw [hl]; exact Nat.mod_lt _ hz
  obtain ⟨v, hv, hr⟩ := h.rep (k / sz) (k % sz) _ _ hx (List.getElem?_eq_getElem h2)
  rw [show k / sz * sz + k % sz = k by rw [Nat.mul_comm]; exact Nat.div_add_mod k sz, hk] at hv
  injection hv with hv; subst hv
  exact hr.oneCell
theorem Flat.append {sz : Nat} {es ys : List (List T)} {c d : List Value} (h : Flat w ok sz es c) (k : Flat w ok sz ys d) : Flat w ok sz (es ++ ys) (c ++ d) where
  len := by simp [h.len, k.len, Nat.add_mul]
  wid x hx := by rcases List.mem_append.1 hx with q | q; exact h.wid x q; exact k.wid x q
  rep i j x t hx ht := by
    by_cases q : i < es.length
    · rw [List.getElem?_append_left q] at hx
      obtain ⟨v, hv, hr⟩ := h.rep i j x t hx ht
      have hlt : i * sz + j < c.length := by
        by_cases q2 : i * sz + j < c.length
        · exact q2
        · rw [List.getElem?_eq_none (by omega)] at hv; cases hv
      exact ⟨v, by rw [List.getElem?_append_left hlt]; exact hv, hr⟩
    · rw [List.getElem?_append_right (by omega)] at hx
      obtain ⟨v, hv, hr⟩ := k.rep (i - es.length) j x t hx ht
      have e : i * sz + j = c.length + ((i - es.length) * sz + j) := by
        have : i * sz = es.length * sz + (i - es.length) * sz := by rw [← Nat.add_mul, Nat.add_sub_cancel' (by omega)]
        rw [h.len]; omega
      refine ⟨v, ?_, hr⟩
      rw [e, List.getElem?_append_right (by omega), Nat.add_sub_cancel_left]
      exact hv
theorem Flat.nil (sz : Nat) : Flat w ok sz [] [] := ⟨by simp, by simp, by simp⟩
theorem Flat.mono {w' : World} {ok' : Nat → Prop} {sz : Nat} {es : List (List T)} {c : List Value} (h : Flat w ok sz es c) (hok : ∀ b, ok b → ok' b) (hw : ∀ b, ok b → w'.heap[b]? = w.heap[b]?) : Flat w' ok' sz es c :=
  ⟨h.len, h.wid, fun i j x t hx ht => let ⟨v, hv, hr⟩ := h.rep i j x t hx ht; ⟨v, hv, hr.mono hok hw⟩⟩

theorem rowR_flat {sz : Nat} {es : List (List T)} {c : Array Value} {cap : Nat} (g6 : c.size = cap * sz) (g7 : es.length ≤ cap) (g8 : ∀ x ∈ es, x.length = sz)
    (g9 : ∀ (i j : Nat) x t, es[i]? = some x → x[j]? = some t → ∃ v, c[i * sz + j]? = some v ∧ Rep w ok v t) : Flat w ok sz es (c.toList.take (es.length * sz)) where
  len := by
    have : es.length * sz ≤ cap * sz := Nat.mul_le_mul_right _ g7
    simp; omega
  wid := g8
  rep i j x t hx ht := by
    obtain ⟨v, hv, hr⟩ := g9 i j x t hx ht
    refine ⟨v, ?_, hr⟩
    have hi : i < es.length := by by_cases q : i < es.length; exact q; rw [List.getElem?_eq_none (by omega)] at hx; cases hx
    have hj : j < sz := by
      have := g8 x (List.mem_of_getElem? hx)
      by_cases q : j < sz; exact q; rw [List.getElem?_eq_none (by omega)] at ht; cases ht
    have : (i + 1) * sz ≤ es.length * sz := Nat.mul_le_mul_right _ hi
    rw [Nat.succ_mul] at this
    rw [List.getElem?_take_of_lt (by omega)]
    simpa using hv

theorem Flat.sub {sz : Nat} {es : List (List T)} {cells : List Value} (hF : Flat w ok sz es cells) {l h : Nat} (h1 : l ≤ h) (h2 : h ≤ es.length) : Flat w ok sz ((es.take h).drop l) ((cells.drop (l * sz)).take ((h - l) * sz)) where
  len := by
    have hle : l * sz + (h - l) * sz ≤ es.length * sz := by rw [← Nat.add_mul]; exact Nat.mul_le_mul_right _ (by omega)
    have := hF.len
    have e : ((es.take h).drop l).length = h - l := by simp; omega
    rw [e]; simp; omega
  wid x hx := hF.wid x (List.mem_of_mem_take (List.mem_of_mem_drop hx))
  rep i j x t hx ht := by
    have hi : i < h - l := by
      by_cases q : i < h - l
      · exact q
      · rw [List.getElem?_eq_none (by simp; omega)] at hx; cases hx
    rw [List.getElem?_drop, List.getElem?_take_of_lt (by omega)] at hx
    obtain ⟨v, hv, hr⟩ := hF.rep (l + i) j x t hx ht
    refine ⟨v, ?_, hr⟩
    have hj : j < sz := by
      rw [← hF.wid x (List.mem_of_getElem? hx)]
      by_cases q : j < x.length
      · exact q
      · rw [List.getElem?_eq_none (by omega)] at ht; cases ht
    have hle : (i + 1) * sz ≤ (h - l) * sz := Nat.mul_le_mul_right _ hi
    rw [Nat.succ_mul] at hle
    rw [List.getElem?_take_of_lt (by omega), List.getElem?_drop]
    rw [Nat.add_mul] at hv
    rwa [show l * sz + (i * sz + j) = l * sz + i * sz + j by omega]

theorem kind_of (hT : TabOk P tab) {u : Nat} (h : (isSlice tab u || isStr tab u) = true) : (∃ e', P.underlying u = some (.slice e')) ∨ P.underlying u = some .string := by
  rw [Bool.or_eq_true] at h
  rcases h with h | h
  · exact .inl (isSlice_und hT h)
  · exact .inr (isStr_und hT h)

theorem src_flat {sz u : Nat} {x : Value} {n c : Nat} {b off : Nat} {es : List (List T)} {cells : List Value} (hk : (∃ e', P.underlying u = some (.slice e')) ∨ P.underlying u = some .string) (hz : 0 < sz)
    (hx : x = .slice (some ⟨b, off, none⟩) n c) (hn : n = es.length) (hF : Flat w ok sz es cells) (hc : ∀ j v, cells[j]? = some v → w.cell? ⟨b, off + j, none⟩ = some v) : Src P sz u x es.length cells w := by
  subst hx; subst hn
  have hc' : ∀ j v, cells[j]? = some v → w.cell? ((⟨b, off, none⟩ : Addr).add j) = some v := fun j v h => by rw [Addr.add_mid]; exact hc j v h
  exact ⟨hk, fun _ => rfl, run_firstCells_some w sz es.length _ _ c cells hF.len hc', run_firstCells_some w.drew sz es.length _ _ c cells hF.len (by simpa using hc'), hF.len, hF.one hz⟩

theorem encB_len (l : List UInt8) : (encB l).length = l.length := by simp [encB]
theorem encB_wid {l : List UInt8} : ∀ x, x ∈ encB l → x.length = 1 := by
  intro x hx
  simp [encB] at hx
  obtain ⟨b, _, rfl⟩ := hx; rfl
theorem flat_bytes (s : ByteArray) : Flat w ok 1 (encB s.data.toList) (byteCells s) where
  len := by rw [byteCells_length, encB_len]; simp
  wid := encB_wid
  rep i j x t hx ht := by
    have hx' := hx
    simp only [encB, List.getElem?_map] at hx
    cases hb : s.data.toList[i]? with
    | none => rw [hb] at hx; cases hx
    | some b =>
      rw [hb] at hx; injection hx with hx; subst hx
      cases j with
      | succ j => simp at ht
      | zero =>
        simp at ht; subst ht
        refine ⟨.int .u8 b.toNat, ?_, ?_⟩
        · simp only [byteCells, List.getElem?_map, Nat.mul_one, Nat.add_zero, hb]; rfl
        · have := b.toNat_lt
          exact .int _ _ (by simp [IntKind.has, IntKind.min, IntKind.max, IntKind.signed, IntKind.bits]; omega)

theorem src_rel {sz u : Nat} {y : Operand} {yv : A} {ys : List (List T)} (R : Rel E ok hd tm ob a.tmps w) (hy : ev tm y = some yv) (hs : srcOf std ob (some yv) = some ys) (hw : ∀ x, x ∈ ys → x.length = sz) (hz : 0 < sz)
    (hk : (∃ e', P.underlying u = some (.slice e')) ∨ P.underlying u = some .string) : ∃ cells, Src P sz u (a.eval y) ys.length cells w ∧ Flat w ok sz ys cells := by
  have hnil : ∀ c, Src P sz u (.slice none 0 c) ([] : List (List T)).length [] w := fun c => ⟨hk, fun _ => rfl, run_firstCells_none w sz 0 0 c, run_firstCells_none w.drew sz 0 0 c, by simp, fun _ h => by cases h⟩
  unfold srcOf at hs
  split at hs
  · rename_i s heq
    injection heq with heq; subst heq
    injection hs with hs
    obtain ⟨v, hv, rfl, hb⟩ := ev_str R hy
    have hs : encB v.data.toList = ys := hs
    subst hs
    rw [hv, encB_len]
    by_cases hn : v.data.toList = []
    · have : v.size = 0 := by have := congrArg List.length hn; simpa using this
      rw [hn]
      refine ⟨[], ⟨hk, fun _ => by simp [Builtin.lenOf, this], by simp [Builtin.firstCells], by simp [Builtin.firstCells], by simp, fun _ h => by cases h⟩, Flat.nil _⟩
    · have h1 : sz = 1 := by
        cases hl : v.data.toList with
        | nil => exact absurd hl hn
        | cons b l => have := hw [.int .u8 b.toNat] (by rw [hl]; simp [encB]); simpa using this.symm
      subst h1
      have hsz : v.data.toList.length = v.size := by simp
      rw [hsz]
      exact ⟨_, ⟨hk, fun _ => rfl, firstCells_string v w, firstCells_string v w.drew, by rw [byteCells_length, Nat.mul_one], (flat_bytes (w := w) (ok := ok) v).one (by omega)⟩, flat_bytes v⟩
  · rename_i n g i j heq
    injection heq with heq; subst heq
    obtain ⟨sz1, es1, cur, tags, fz, h1, h2, _, h3⟩ := (ev_rel R hy).one_inv
    simp only [h1] at hs
    by_cases hg : eqB g cur = true
    rotate_left
    · rw [Bool.not_eq_true] at hg; rw [hg] at hs; cases hs
    rw [hg] at hs
    have hs : some (std.sub es1 i j) = some ys := hs
    injection hs with hs
    have hs : (es1.take j.toNat).drop i.toNat = ys := hs
    rcases h3 (eq_of_eqB hg) with ⟨_, hi0, hj0, hv⟩ | ⟨b, len, cap, q1, q2, q3, q4, hv⟩
    · subst hi0; subst hj0; simp at hs; subst hs
      rw [hv]; exact ⟨[], hnil 0, Flat.nil _⟩
    · obtain ⟨_, hz1, hR⟩ := R.obs n _ h1
      rcases hR with ⟨he, hv0, _⟩ | ⟨b', c, e, fr, cap', g1, g2, g3, g4, g5, g6, g7, g7', g8, g9⟩
      · rw [hv0] at q1; injection q1 with q1; cases q1
      · rw [g1] at q1
        injection q1 with e1 e2 e3
        injection e1 with e1; injection e1 with e1
        subst e1; subst e2; subst e3
        have hlen : ys.length = j.toNat - i.toNat := by rw [← hs]; simp; omega
        rw [hv]
        by_cases he : ys = []
        · subst he
          have h0 : j.toNat - i.toNat = 0 := by rw [← hlen]; rfl
          rw [h0]
          refine ⟨[], ⟨hk, fun _ => rfl, by simp [Builtin.firstCells, loadCells, loadCellsFrom], by simp [Builtin.firstCells, loadCells, loadCellsFrom], by simp, fun _ h => by cases h⟩, Flat.nil _⟩
        · have hpos : 0 < ys.length := List.length_pos_iff.2 he
          have hsz' : sz1 = sz := by
            have hmem : ∀ x, x ∈ ys → x ∈ es1 := fun x hx => by rw [← hs] at hx; exact List.mem_of_mem_take (List.mem_of_mem_drop hx)
            have hx0 : ys[0] ∈ ys := List.getElem_mem hpos
            rw [← hw _ hx0]
            exact (g8 _ (hmem _ hx0)).symm
          subst hsz'
          have hF := (rowR_flat g6 g7 g8 g9).sub (l := i.toNat) (h := j.toNat) (by omega) (by omega)
          rw [hs] at hF
          rw [if_neg (by omega), ← hlen]
          refine ⟨_, src_flat hk hz rfl rfl hF fun k v hkv => ?_, hF⟩
          rw [cell_of g4]
          have hlt : k < (j.toNat - i.toNat) * sz1 := by
            by_cases q : k < (j.toNat - i.toNat) * sz1
            · exact q
            · rw [List.getElem?_take_eq_none (by omega)] at hkv; cases hkv
          have hle : i.toNat * sz1 + (j.toNat - i.toNat) * sz1 ≤ es1.length * sz1 := by rw [← Nat.add_mul]; exact Nat.mul_le_mul_right _ (by omega)
          rw [List.getElem?_take_of_lt hlt, List.getElem?_drop, List.getElem?_take_of_lt (by omega)] at hkv
          simpa using hkv
  · rename_i v hne1 hne heq
    injection heq with heq; subst heq
    split at hs
    · rename_i es hes
      injection hs with hs; subst hs
      have hv := (ev_rel R hy).one_inv
      cases v with
      | t c =>
        simp only [V.tree] at hes; injection hes with hes; subst hes
        have hv : Rep w ok (a.eval y) (.sl es) := hv
        generalize a.eval y = p at hv
        cases hv with
        | snil => exact ⟨[], hnil 0, Flat.nil _⟩
        | szero x => exact ⟨[], ⟨hk, fun _ => rfl, by simp [Builtin.firstCells, loadCells, loadCellsFrom], by simp [Builtin.firstCells, loadCells, loadCellsFrom], by simp, fun _ h => by cases h⟩, Flat.nil _⟩
        | sl b off cap sz0 _ vs hm hcap hsz hok hc hr =>
          by_cases he : es = []
          · subst he
            refine ⟨[], ⟨hk, fun _ => rfl, by simp [Builtin.firstCells, loadCells, loadCellsFrom], by simp [Builtin.firstCells, loadCells, loadCellsFrom], by simp, fun _ h => by cases h⟩, Flat.nil _⟩
          · have hsz' : sz0 = sz := by
              cases es with
              | nil => exact absurd rfl he
              | cons e es => rw [← hsz e (by simp), hw e (by simp)]
            subst hsz'
            let cells := (List.range (es.length * sz0)).map fun k => vs (k / sz0) (k % sz0)
            have hget : ∀ k, k < es.length * sz0 → cells[k]? = some (vs (k / sz0) (k % sz0)) := fun k hk => by simp [cells, hk]
            have hF : Flat w ok sz0 es cells := ⟨by simp [cells], hw, fun i j x t hx ht => by
              have hi : i < es.length := by by_cases q : i < es.length; exact q; rw [List.getElem?_eq_none (by omega)] at hx; cases hx
              have hj : j < sz0 := by
                have := hw x (List.mem_of_getElem? hx)
                by_cases q : j < sz0; exact q; rw [List.getElem?_eq_none (by omega)] at ht; cases ht
              have hlt : (i + 1) * sz0 ≤ es.length * sz0 := Nat.mul_le_mul_right _ hi
              rw [Nat.succ_mul] at hlt
              refine ⟨_, hget (i * sz0 + j) (by omega), ?_⟩
              have e1 : (i * sz0 + j) / sz0 = i := by rw [Nat.mul_comm, Nat.mul_add_div hz, Nat.div_eq_of_lt hj]; simp
              have e2 : (i * sz0 + j) % sz0 = j := by rw [Nat.mul_comm, Nat.mul_add_mod, Nat.mod_eq_of_lt hj]
              rw [e1, e2]
              exact hr i j x t hx ht⟩
            refine ⟨cells, src_flat hk hz rfl rfl hF fun k v hkv => ?_, hF⟩
            have hlt : k < es.length * sz0 := by
              by_cases q : k < es.length * sz0
              · exact q
              · rw [List.getElem?_eq_none (by simp [cells]; omega)] at hkv; cases hkv
            rw [hget k hlt] at hkv
            injection hkv with hkv; subst hkv
            have h1 : k / sz0 < es.length := Nat.div_lt_of_lt_mul (by rwa [Nat.mul_comm] at hlt)
            have := hc (k / sz0) (k % sz0) h1 (Nat.mod_lt _ hz)
            rwa [show off + k / sz0 * sz0 + k % sz0 = off + k by rw [Nat.add_assoc, Nat.mul_comm (k / sz0), Nat.div_add_mod]] at this
      | nil =>
        simp only [V.tree] at hes; injection hes with hes; injection hes with hes; subst hes
        have hv : a.eval y = .slice none 0 0 := hv
        rw [hv]
        exact ⟨[], hnil 0, Flat.nil _⟩
      | row n g =>
        obtain ⟨sz1, es1, cur, tags, fz, h1, h2, _, h3⟩ := hv
        simp only [V.tree, h1] at hes
        by_cases hg : eqB g cur = true
        · rw [hg] at hes; simp at hes; subst hes
          rw [h3 (eq_of_eqB hg)]
          obtain ⟨_, hz1, hR⟩ := R.obs n _ h1
          rcases hR with ⟨he, hv, _⟩ | ⟨b', c, e, fr, cap', g1, g2, g3, g4, g5, g6, g7, g7', g8, g9⟩
          · rw [hv]; subst he; exact ⟨[], hnil 0, Flat.nil _⟩
          · rw [g1]
            by_cases he : es1 = []
            · subst he
              refine ⟨[], ⟨hk, fun _ => rfl, by simp [Builtin.firstCells, loadCells, loadCellsFrom], by simp [Builtin.firstCells, loadCells, loadCellsFrom], by simp, fun _ h => by cases h⟩, Flat.nil _⟩
            · have hsz' : sz1 = sz := by
                cases es1 with
                | nil => exact absurd rfl he
                | cons e es => rw [← g8 e (by simp), hw e (by simp)]
              subst hsz'
              have hF := rowR_flat g6 g7 g8 g9
              refine ⟨_, src_flat hk hz rfl rfl hF fun k v hkv => ?_, hF⟩
              rw [cell_of g4, Nat.zero_add]
              have hlt : k < es1.length * sz1 := by
                by_cases q : k < es1.length * sz1
                · exact q
                · rw [List.getElem?_take_eq_none (by omega)] at hkv; cases hkv
              rw [List.getElem?_take_of_lt hlt] at hkv
              simpa using hkv
        · rw [Bool.not_eq_true] at hg; rw [hg] at hes; cases hes
      | ptr n off =>
        simp only [V.tree, Cap.tree] at hes
        split at hes
        · split at hes
          · injection hes with hes; cases hes
          · cases hes
        · cases hes
      | elt n g i j => cases hes
      | fn f first caps =>
        simp only [V.tree] at hes
        split at hes
        · injection hes with hes; cases hes
        · cases hes
      | bsl n m k => cases hes
      | part n g i j => cases hes
      | any => cases hes
    · cases hs
  · cases hs

theorem flat_row {sz : Nat} {es : List (List T)} {cells rest : List Value} (hF : Flat w ok sz es cells) : ∀ (i j : Nat) x t, es[i]? = some x → x[j]? = some t → ∃ v, (cells.toArray ++ rest.toArray)[i * sz + j]? = some v ∧ Rep w ok v t := by
  intro i j x t hx ht
  obtain ⟨v, hv, hr⟩ := hF.rep i j x t hx ht
  have hlt : i * sz + j < cells.length := by
    by_cases q : i * sz + j < cells.length
    · exact q
    · rw [List.getElem?_eq_none (by omega)] at hv; cases hv
  exact ⟨v, by rw [Array.getElem?_append_left (by simpa using hlt)]; simpa using hv, hr⟩

/-- A new row. -/
theorem rel_row {n sz cap : Nat} {es : List (List T)} {cur : Nat} {tags : List Nat} {cells rest : List Value} {e : TypeId} {w0 : World} (R : Rel E ok hd tm ob tmps w) (hn : ob n = none) (hw0 : Ext w w0) (hs0 : w0.heap.size = w.heap.size)
    (hcur : cur ∈ tags) (hz : 0 < sz) (hF : Flat w ok sz es cells) (hsz : cells.length + rest.length = cap * sz) (hcap : es.length ≤ cap) (hm : es.length ≤ 2 ^ 63 - 1) :
    Rel E ok (setF hd n ⟨.slice (some ⟨w.heap.size, 0, none⟩) es.length cap, [w.heap.size]⟩) tm (setF ob n (some (.row sz es cur tags false))) tmps (w0.alloc (.cells (cells.toArray ++ rest.toArray) e (0, 0))) := by
  have hx := hw0.trans (alloc_ext w0 (.cells (cells.toArray ++ rest.toArray) e (0, 0)))
  refine R.newOb hn hx (fun b hb => by simp at hb; subst hb; simp; omega) ?_
  have hb := alloc_new w0 (.cells (cells.toArray ++ rest.toArray) e (0, 0))
  rw [hs0] at hb
  refine ⟨hcur, hz, .inr ⟨w.heap.size, _, e, (0, 0), cap, rfl, rfl, by simp, hb, .inl rfl, by simpa using hsz, hcap, hm, hF.wid, ?_⟩⟩
  exact flat_row (hF.mono (fun _ h => h) fun b hb => hx.block b (R.okLt b hb))
theorem ref_row {n sz g : Nat} {es : List (List T)} {cur : Nat} {tags : List Nat} {v : Value} {h : Hd} {x : Option Addr} {l c : Nat} (hg : g ∈ tags) (hv : h.v = v) (hs : v = .slice x l c) :
    VR w ok (setF hd n h) (setF ob n (some (.row sz es cur tags false))) v (.row n g) :=
  ⟨sz, es, cur, tags, false, setF_same _ _ _, hg, ⟨x, l, c, hs⟩, fun _ => by rw [setF_same]; exact hv.symm⟩

theorem rel_vrow {n sz : Nat} {cur : Nat} {tags : List Nat} (R : Rel E ok hd tm ob tmps w) (hn : ob n = none) (hcur : cur ∈ tags) (hz : 0 < sz) :
    Rel E ok (setF hd n ⟨.slice none 0 0, []⟩) tm (setF ob n (some (.row sz [] cur tags false))) tmps w :=
  R.newOb hn (Ext.refl w) (fun b hb => by cases hb) ⟨hcur, hz, .inl ⟨rfl, rfl, rfl⟩⟩

theorem run_appendOp {c : Call} {x y : Operand} {t u : Nat} {v : Value} {w' : World} (ho : o.op = .call c) (hc : c.callee = .builtin .append) (hx : c.args.toList = [x, y]) (ht : c.argTypes.toList = [t, u])
    (h : (Builtin.append_ #[t, u] o.type #[a.eval x, a.eval y]).run P w = .ok v w') : (execOp a.eval o).run P w = .ok (.value v) w' := by
  have hx' : c.args = #[x, y] := by rw [← hx]
  have ht' : c.argTypes = #[t, u] := by rw [← ht]
  simp only [execOp, ho, resolve, hc, hx', ht', invoke, builtin, Sem.run_bind, Sem.run_pure, Result.andThen_ok]
  simp [h]

theorem le_tag {n sz : Nat} {es es' : List (List T)} {cur : Nat} {tags : List Nat} {fz fz' : Bool} {g : Nat} (hob : ob n = some (.row sz es cur tags fz)) {h : Hd} (hg : g ∉ tags ∧ g ≠ 7) :
    Le hd ob (setF hd n h) (setF ob n (some (.row sz es' g (g :: tags) fz'))) where
  box m cs2 fz2 hm := by
    have q : m ≠ n := fun q => by subst q; rw [hob] at hm; cases hm
    exact ⟨_, _, by rw [setF_ne _ _ _ _ q]; exact hm, by rw [setF_ne _ _ _ _ q]⟩
  row m sz2 es2 cur2 tags2 fz2 hm := by
    by_cases q : m = n
    · subst q
      rw [hob] at hm; injection hm with hm; injection hm with q1 q2 q3 q4 q5; subst q1; subst q3; subst q4
      exact ⟨_, _, _, _, setF_same _ _ _, fun _ h => by simp [h], .inr hg⟩
    · exact ⟨_, _, _, _, by rw [setF_ne _ _ _ _ q]; exact hm, fun _ h => h, .inl ⟨rfl, by rw [setF_ne _ _ _ _ q]⟩⟩

theorem room_le {b : Nat} {es : List (List T)} (h : std.room b es) : es.length ≤ 2 ^ 46 ∧ es.length * b ≤ 2 ^ 46 := by
  have h : es.length * (b + 1) ≤ 2 ^ 46 := h
  rw [Nat.mul_add] at h
  omega

theorem zlen (z : Array Value) (n : Nat) : (Builtin.zeroCells z n).toList.length = n * z.size := by
  rw [Array.length_toList, size_zeroCells]

theorem append_nil {c : Call} {x y : Operand} {t u n m e : Nat} {i : TypeInfo} {zv : Value} {te : TI} {ys es : List (List T)} {cur : Nat} {tags : List Nat} {z : List V} {cells : List Value} (ho : o.op = .call c) (hc : c.callee = .builtin .append) (hx : c.args.toList = [x, y]) (ht : c.argTypes.toList = [t, u])
    (hu : P.underlying t = some (.slice e)) (hk : (∃ e', P.underlying u = some (.slice e')) ∨ P.underlying u = some .string) (hi : P.info? e = some i) (hzv : i.zero = some zv) (hsz : i.size = te.size) (hby : i.bytes = te.bytes) (hzs : zv.cells.size = z.length) (hzl : z.length = te.size) (hz : 0 < te.size)
    (R : Rel E ok hd tm ob a.tmps w) (hob : ob m = some (.row te.size es cur tags false)) (hnt : n ∉ tags ∧ n ≠ 7) (hS : Src P te.size u (a.eval y) ys.length cells w) (hF : Flat w ok te.size ys cells)
    (hxv : a.eval x = .slice none 0 0) (r1 : ([] : List (List T)).length + ys.length ≤ 2 ^ 46) (r2 : (([] : List (List T)).length + ys.length) * te.bytes ≤ 2 ^ 46) (h : K (.one (.row m n)) [(m, .row te.size (std.app [] ys) n (n :: tags) false)]) : Goes P E tm ob a.tmps K o a w := by
  have happ : std.app [] ys = ys := rfl
  rw [happ] at h
  by_cases hl : ys.length = 0
  · have hy0 : ys = [] := List.eq_nil_of_length_eq_zero hl
    subst hy0
    refine goes_value (ok' := ok) (v := .slice none 0 0) (w' := w) (hd' := setF hd m ⟨.slice none 0 0, []⟩) (run_appendOp ho hc hx ht ?_) h ?_ ?_
    · rw [hxv]
      rw [← hsz] at hS
      have hcell := hS.cells
      rcases hk with ⟨e', hk⟩ | hk <;> simp [Builtin.append_, run_underlying hu, run_underlying hk, sizeOf, typeInfo, hi, hS.len, show (Builtin.firstCells i.size 0 (a.eval y)).run P w = .ok cells.toArray w from hcell]
    · rw [updO_one]
      exact R.turn hob (Fr.refl _ _) (fun b hb => by cases hb) (le_tag hob hnt) ⟨by simp, hz, .inl ⟨rfl, rfl, rfl⟩⟩
    · rw [updO_one]; exact .one _ _ (ref_row (by simp) rfl rfl)
  · have hold : (Builtin.firstCells i.size 0 (.slice none 0 0)).run P w.drew = .ok (([] : List Value)).toArray w.drew := run_firstCells_none w.drew i.size 0 0 0
    have hrun := run_append_grow_src (P := P) w t u o.type e i zv hu hi hzv none 0 0 [] hold (a.eval y) ys.length cells (by rw [hsz]; exact hS) (by omega) (by omega) (by
      refine growslice_fits (by omega) ?_
      rw [hby]; simp at r2 ⊢; omega)
    simp only [Nat.zero_add, List.nil_append] at hrun
    have hcz : (Builtin.zeroCells zv.cells (grownCap w ys.length 0 e - ys.length)) = (Builtin.zeroCells zv.cells (grownCap w ys.length 0 e - ys.length)).toList.toArray := by simp
    rw [hcz] at hrun
    have hge := grownCap_ge w ys.length 0 e
    have hx1 := (drew_ext w).trans (alloc_ext w.drew (.cells (cells.toArray ++ (Builtin.zeroCells zv.cells (grownCap w ys.length 0 e - ys.length)).toList.toArray) e (0, 0)))
    refine goes_value (ok' := ok) (hd' := setF hd m ⟨.slice (some ⟨w.heap.size, 0, none⟩) ys.length (grownCap w ys.length 0 e), [w.heap.size]⟩) (run_appendOp ho hc hx ht (by rw [hxv]; exact hrun)) h ?_ ?_
    · rw [updO_one]
      refine R.turn hob (hx1.fr _) (fun b hb => by simp at hb; subst hb; simp) (le_tag hob hnt) ⟨by simp, hz, .inr ⟨w.heap.size, _, e, (0, 0), grownCap w ys.length 0 e, rfl, rfl, by simp, alloc_new w.drew _, .inl rfl, ?_, hge, by omega, hF.wid, flat_row (hF.mono (fun _ h => h) fun b hb => hx1.block b (R.okLt b hb))⟩⟩
      rw [Array.size_append, List.size_toArray, List.size_toArray, hF.len, zlen, hzs, hzl, ← Nat.add_mul]; congr 1; omega
    · rw [updO_one]; exact .one _ _ (ref_row (by simp) rfl rfl)

theorem append_mem {c : Call} {x y : Operand} {t u n m e : Nat} {i : TypeInfo} {zv : Value} {te : TI} {ys es es0 : List (List T)} {cur : Nat} {tags : List Nat} {z : List V} {cells : List Value} (ho : o.op = .call c) (hc : c.callee = .builtin .append) (hx : c.args.toList = [x, y]) (ht : c.argTypes.toList = [t, u])
    (hu : P.underlying t = some (.slice e)) (hk : (∃ e', P.underlying u = some (.slice e')) ∨ P.underlying u = some .string) (hi : P.info? e = some i) (hzv : i.zero = some zv) (hsz : i.size = te.size) (hby : i.bytes = te.bytes) (hzs : zv.cells.size = z.length) (hzl : z.length = te.size) (hz : 0 < te.size)
    (R : Rel E ok hd tm ob a.tmps w) (hob : ob m = some (.row te.size es cur tags false)) (hnt : n ∉ tags ∧ n ≠ 7) (hS : Src P te.size u (a.eval y) ys.length cells w) (hF : Flat w ok te.size ys cells) {b : Nat} {cb : Array Value} {eb : TypeId} {fr : Nat × Nat} {cap : Nat}
    (hxv : a.eval x = .slice (some ⟨b, 0, none⟩) es0.length cap) (hown : (hd m).own = [b]) (g4 : w.heap[b]? = some (.cells cb eb fr)) (g5 : Free cb.size fr) (g6 : cb.size = cap * te.size) (g7 : es0.length ≤ cap) (g8 : ∀ x ∈ es0, x.length = te.size)
    (g9 : ∀ (i j : Nat) x t, es0[i]? = some x → x[j]? = some t → ∃ v, cb[i * te.size + j]? = some v ∧ Rep w ok v t)
    (r1 : es0.length + ys.length ≤ 2 ^ 46) (r2 : (es0.length + ys.length) * te.bytes ≤ 2 ^ 46) (h : K (.one (.row m n)) [(m, .row te.size (std.app es0 ys) n (n :: tags) false)]) : Goes P E tm ob a.tmps K o a w := by
  have hne : ob m ≠ none := by rw [hob]; simp
  have hla : (std.app es0 ys).length = es0.length + ys.length := by show (es0 ++ ys).length = _; simp
  have hF0 := rowR_flat g6 g7 g8 g9
  have hFa := hF0.append hF
  by_cases hroom2 : es0.length + ys.length ≤ cap
  · -- room
    have hmul : (es0.length + ys.length) * te.size ≤ cap * te.size := Nat.mul_le_mul_right _ hroom2
    rw [Nat.add_mul] at hmul
    have hcl := hF.len
    have hrun := run_append_room_src (P := P) w t u o.type e i hu hi b 0 es0.length cap (a.eval y) ys.length cells (by rw [hsz]; exact hS) hroom2
      (fun j hj => by rw [cell_of g4]; rw [hsz]; simp; omega)
      (fun j hj => by
        have := g5.at (0 + es0.length * i.size + j) (by rw [hsz]; omega)
        simp only [World.frozen?, g4, Bool.and_eq_false_iff, decide_eq_false_iff_not]
        omega)
    rw [hsz, Nat.zero_add] at hrun
    obtain ⟨c', m1, m2, m3, m4⟩ := setCells_block cells (o := es0.length * te.size) g4 (by omega)
    have hokb : ∀ k, ok k → (w.setCells b (es0.length * te.size) cells).heap[k]? = w.heap[k]? := fun k hk => m4.block k (R.okLt k hk) fun q => by
      have : k = b := by simpa using q
      subst this
      exact (R.own m k hne (by rw [hown]; simp)).1 hk
    refine goes_value (ok' := ok) (hd' := setF hd m ⟨.slice (some ⟨b, 0, none⟩) (es0.length + ys.length) cap, [b]⟩) (run_appendOp ho hc hx ht (by rw [hxv]; exact hrun)) h ?_ ?_
    · rw [updO_one]
      refine R.turn hob (by rw [hown]; exact m4) (fun b2 hb2 => ⟨.inl (by rw [hown]; exact hb2), by
        simp at hb2; subst hb2
        exact Nat.lt_of_lt_of_le (R.own m b2 hne (by rw [hown]; simp)).2 m4.size⟩) (le_tag hob hnt)
        ⟨by simp, hz, .inr ⟨b, c', eb, fr, cap, by rw [hla], rfl, by simp, m1, by rw [m2]; exact g5, by rw [m2]; exact g6, by rw [hla]; exact hroom2, by rw [hla]; omega, hFa.wid, ?_⟩⟩
      intro i' j' x' t' hx' ht'
      obtain ⟨v, hv, hr⟩ := hFa.rep i' j' x' t' hx' ht'
      refine ⟨v, ?_, hr.mono (fun _ h => h) hokb⟩
      rw [m3]
      have hl0 : (cb.toList.take (es0.length * te.size)).length = es0.length * te.size := by simp; omega
      by_cases q : i' * te.size + j' < es0.length * te.size
      · rw [if_neg (by omega)]
        rw [List.getElem?_append_left (by omega), List.getElem?_take_of_lt q] at hv
        simpa using hv
      · rw [List.getElem?_append_right (by omega), hl0] at hv
        have hlt : i' * te.size + j' - es0.length * te.size < cells.length := by
          by_cases q2 : i' * te.size + j' - es0.length * te.size < cells.length
          · exact q2
          · rw [List.getElem?_eq_none (by omega)] at hv; cases hv
        rw [if_pos (by omega)]; exact hv
    · rw [updO_one]; exact .one _ _ (ref_row (by simp) rfl rfl)
  · -- none
    have hold : (Builtin.firstCells i.size es0.length (.slice (some ⟨b, 0, none⟩) es0.length cap)).run P w.drew = .ok (cb.toList.take (es0.length * te.size)).toArray w.drew :=
      run_firstCells_some w.drew i.size es0.length _ _ _ _ (by rw [hsz]; exact hF0.len) (fun j v hj => by
        rw [Addr.add_mid, Nat.zero_add]
        have : w.drew.cell? ⟨b, j, none⟩ = w.cell? ⟨b, j, none⟩ := rfl
        rw [this, cell_of g4]
        have hlt : j < es0.length * te.size := by
          by_cases q : j < es0.length * te.size
          · exact q
          · rw [List.getElem?_take_eq_none (by omega)] at hj; cases hj
        rw [List.getElem?_take_of_lt hlt] at hj
        simpa using hj)
    have hrun := run_append_grow_src (P := P) w t u o.type e i zv hu hi hzv (some ⟨b, 0, none⟩) es0.length cap _ hold (a.eval y) ys.length cells (by rw [hsz]; exact hS) (by omega) (by omega) (by
      refine growslice_fits (by omega) ?_
      rw [hby]; omega)
    have hcz : (Builtin.zeroCells zv.cells (grownCap w (es0.length + ys.length) cap e - (es0.length + ys.length))) = (Builtin.zeroCells zv.cells (grownCap w (es0.length + ys.length) cap e - (es0.length + ys.length))).toList.toArray := by simp
    rw [hcz] at hrun
    have hge := grownCap_ge w (es0.length + ys.length) cap e
    have hx1 := (drew_ext w).trans (alloc_ext w.drew (.cells ((cb.toList.take (es0.length * te.size) ++ cells).toArray ++ (Builtin.zeroCells zv.cells (grownCap w (es0.length + ys.length) cap e - (es0.length + ys.length))).toList.toArray) e (0, 0)))
    refine goes_value (ok' := ok) (hd' := setF hd m ⟨.slice (some ⟨w.heap.size, 0, none⟩) (es0.length + ys.length) (grownCap w (es0.length + ys.length) cap e), [w.heap.size]⟩) (run_appendOp ho hc hx ht (by rw [hxv]; exact hrun)) h ?_ ?_
    · rw [updO_one]
      refine R.turn hob (hx1.fr _) (fun b hb => by simp at hb; subst hb; simp) (le_tag hob hnt) ⟨by simp, hz, .inr ⟨w.heap.size, _, e, (0, 0), grownCap w (es0.length + ys.length) cap e, by rw [hla], rfl, by simp, alloc_new w.drew _, .inl rfl, ?_, by rw [hla]; exact hge, by rw [hla]; omega, hFa.wid, flat_row (hFa.mono (fun _ h => h) fun b hb => hx1.block b (R.okLt b hb))⟩⟩
      rw [Array.size_append, List.size_toArray, List.size_toArray, hFa.len, zlen, hzs, hzl, ← Nat.add_mul, List.length_append]; congr 1; omega
    · rw [updO_one]; exact .one _ _ (ref_row (by simp) rfl rfl)

theorem op_append {c : Call} {x y : Operand} {t u n : Nat} (ho : o.op = .call c) (hc : c.callee = .builtin .append) (hx : c.args.toList = [x, y]) (ht : c.argTypes.toList = [t, u]) (hT : TabOk P tab) (R : Rel E ok hd tm ob a.tmps w)
    (h7 : n ≠ 7) (h : (sAppend std tab t u n ob (ev tm x) (ev tm y)).holds std cl K) : Goes P E tm ob a.tmps K o a w := by
  unfold sAppend at h
  split at h
  rotate_left
  · exact h.elim
  rename_i e he
  have hu := sliceOf_und hT he
  split at h
  rotate_left
  · exact h.elim
  rename_i te ys hte hys
  obtain ⟨hb, h⟩ := bif_inv h
  rw [Bool.and_eq_true, Bool.and_eq_true] at hb
  have hk := kind_of hT hb.1.1
  have hz : 0 < te.size := le_of_leB hb.1.2
  obtain ⟨z, hzz⟩ := Option.isSome_iff_exists.1 hb.2
  obtain ⟨i, hi, hsz, hby, hzero⟩ := (hT e te hte).info
  obtain ⟨zv, hzv, hzs, hzl, _⟩ := hzero z hzz
  have hyv : ∃ yv, ev tm y = some yv := by
    cases hq : ev tm y with
    | none => rw [hq] at hys; cases hys
    | some yv => exact ⟨yv, rfl⟩
  obtain ⟨yv, hyv⟩ := hyv
  rw [hyv] at hys
  split at h
  · -- onto nil
    rename_i hxn
    obtain ⟨⟨hroom, hwid⟩, h⟩ := h
    obtain ⟨cells, hS, hF⟩ := src_rel (u := u) R hyv hys hwid hz hk
    obtain ⟨r1, r2⟩ := room_le hroom
    have hxv : a.eval x = .slice none 0 0 := (ev_rel R hxn).one_inv
    unfold SR.new at h
    split at h
    rotate_left
    · exact h.elim
    rename_i hn
    by_cases hl : ys.length = 0
    · have hy0 : ys = [] := List.eq_nil_of_length_eq_zero hl
      subst hy0
      refine goes_value (v := .slice none 0 0) (w' := w) (run_appendOp ho hc hx ht ?_) h (by rw [updO_one]; exact rel_vrow R hn (by simp) hz) (by rw [updO_one]; exact .one _ _ (ref_row (by simp) rfl rfl))
      rw [hxv]
      rw [← hsz] at hS
      have hcell := hS.cells
      have hnl : cells = [] := by have := hS.newsLen; simpa using this
      rcases hk with ⟨e', hk⟩ | hk <;> simp [Builtin.append_, run_underlying hu, run_underlying hk, sizeOf, typeInfo, hi, hS.len, show (Builtin.firstCells i.size 0 (a.eval y)).run P w = .ok cells.toArray w from hcell]
    · have hold : (Builtin.firstCells i.size 0 (.slice none 0 0)).run P w.drew = .ok (([] : List Value)).toArray w.drew := run_firstCells_none w.drew i.size 0 0 0
      have hrun := run_append_grow_src (P := P) w t u o.type e i zv hu hi hzv none 0 0 [] hold (a.eval y) ys.length cells (by rw [hsz]; exact hS) (by omega) (by omega) (by
        refine growslice_fits (by omega) ?_
        rw [hby]; simp; omega)
      simp only [Nat.zero_add, List.nil_append] at hrun
      have hcz : (Builtin.zeroCells zv.cells (grownCap w ys.length 0 e - ys.length)) = (Builtin.zeroCells zv.cells (grownCap w ys.length 0 e - ys.length)).toList.toArray := by simp
      rw [hcz] at hrun
      have hge := grownCap_ge w ys.length 0 e
      have R' := rel_row (n := n) (cap := grownCap w ys.length 0 e) (cur := n) (tags := [n]) (rest := (Builtin.zeroCells zv.cells (grownCap w ys.length 0 e - ys.length)).toList) (e := e) (w0 := w.drew) R hn (drew_ext w) rfl (by simp) hz hF
        (by rw [hF.len, zlen, hzs, hzl, ← Nat.add_mul]; congr 1; omega) hge (by omega)
      exact goes_value (run_appendOp ho hc hx ht (by rw [hxv]; exact hrun)) h (by rw [updO_one]; exact R') (by rw [updO_one]; exact .one _ _ (ref_row (by simp) rfl rfl))
  · -- onto an own row
    rename_i m g hxn
    split at h
    rotate_left
    · exact h.elim
    rename_i sz es cur tags hob
    obtain ⟨hb2, h⟩ := bif_inv h
    rw [Bool.and_eq_true, Bool.and_eq_true] at hb2
    have hg := eq_of_eqB hb2.1.1
    have hse := eq_of_eqB hb2.1.2
    have hnt : n ∉ tags ∧ n ≠ 7 := ⟨by have := hb2.2; simpa using this, h7⟩
    obtain ⟨⟨hroom, hwid⟩, h⟩ := h
    obtain ⟨cells, hS, hF⟩ := src_rel (u := u) R hyv hys hwid hz hk
    obtain ⟨r1, r2⟩ := room_le hroom
    have hla : (std.app es ys).length = es.length + ys.length := by show (es ++ ys).length = _; simp
    rw [hla] at r1 r2
    obtain ⟨sz', es', cur', tags', fz', p1, p2, _, p3⟩ := (ev_rel R hxn).one_inv
    rw [hob] at p1; injection p1 with p1; injection p1 with q1 q2 q3 q4 q5; subst q1; subst q2; subst q3; subst q4; subst q5
    have hxv := p3 hg
    obtain ⟨hcur, hz0, hR⟩ := R.obs m _ hob
    have hne : ob m ≠ none := by rw [hob]; simp
    subst hse
    rcases hR with ⟨hes, hv0, hown0⟩ | ⟨b, cb, eb, fr, cap, g1, g2, g3, g4, g5, g6, g7, g7', g8, g9⟩
    · -- no memory as yet
      subst hes
      rw [hv0] at hxv
      exact append_nil (es := []) ho hc hx ht hu hk hi hzv hsz hby hzs hzl hz R hob hnt hS hF hxv (by simpa using r1) (by simpa using r2) h
    · -- a row in memory
      rw [g1] at hxv
      exact append_mem (es := es) ho hc hx ht hu hk hi hzv hsz hby hzs hzl hz R hob hnt hS hF hxv (by simpa using g2) g4 g5 g6 g7 g8 g9 r1 r2 h
  · -- onto a part of an own row
    rename_i m g pi pj hxn
    split at h
    rotate_left
    · exact h.elim
    rename_i sz es cur tags hob
    obtain ⟨hb2, h'⟩ := bif_inv h
    clear h
    rw [Bool.and_eq_true, Bool.and_eq_true, Bool.and_eq_true] at hb2
    have hg := eq_of_eqB hb2.1.1.1
    have hse := eq_of_eqB hb2.1.1.2
    have hnt : n ∉ tags ∧ n ≠ 7 := ⟨by have := hb2.1.2; simpa using this, h7⟩
    have hpi : pi = 0 := of_decide_eq_true hb2.2
    subst hpi
    obtain ⟨⟨hroom, hwid⟩, h⟩ := h'
    obtain ⟨cells, hS, hF⟩ := src_rel (u := u) R hyv hys hwid hz hk
    obtain ⟨r1, r2⟩ := room_le hroom
    obtain ⟨sz', es', cur', tags', fz', p1, p2, _, p3⟩ := (ev_rel R hxn).one_inv
    rw [hob] at p1; injection p1 with p1; injection p1 with q1 q2 q3 q4 q5; subst q1; subst q2; subst q3; subst q4; subst q5
    obtain ⟨hcur, hz0, hR⟩ := R.obs m _ hob
    subst hse
    have hla : (std.app (std.sub es 0 pj) ys).length = (std.sub es 0 pj).length + ys.length := by show (_ ++ ys).length = _; simp
    rw [hla] at r1 r2
    rcases p3 hg with ⟨hv0, _, hj0, hxv⟩ | ⟨b, len, cap, q1, q2, q3, q4, hxv⟩
    · subst hj0
      have he : std.sub es 0 0 = [] := by show (es.take 0).drop 0 = []; simp
      rw [he] at h r1 r2
      exact append_nil (es := es) ho hc hx ht hu hk hi hzv hsz hby hzs hzl hz R hob hnt hS hF hxv r1 r2 h
    · rcases hR with ⟨hes, hv0, hown0⟩ | ⟨b', cb, eb, fr, cap', g1, g2, g3, g4, g5, g6, g7, g7', g8, g9⟩
      · rw [hv0] at q1; injection q1 with q1; cases q1
      · rw [g1] at q1
        injection q1 with e1 e2 e3
        injection e1 with e1; injection e1 with e1
        subst e1; subst e2; subst e3
        have he : std.sub es 0 pj = es.take pj.toNat := by show (es.take pj.toNat).drop 0 = _; simp
        have hel : (es.take pj.toNat).length = pj.toNat := by simp; omega
        rw [he] at h r1 r2
        have hxv2 : a.eval x = .slice (some ⟨b', 0, none⟩) (es.take pj.toNat).length cap' := by
          rw [hxv, hel]
          by_cases q : cap' = 0
          · subst q; simp
          · rw [if_neg (by simpa using q)]; simp
        exact append_mem (es := es) ho hc hx ht hu hk hi hzv hsz hby hzs hzl hz R hob hnt hS hF hxv2 (by simpa using g2) g4 g5 g6 (by omega) (fun x hx => g8 x (List.mem_of_mem_take hx)) (fun i j x t hx ht => by
          have hi : i < pj.toNat := by
            by_cases q : i < pj.toNat
            · exact q
            · rw [List.getElem?_eq_none (by omega)] at hx; cases hx
          rw [List.getElem?_take_of_lt hi] at hx
          exact g9 i j x t hx ht) r1 r2 h
  · exact h.elim

end Go.TL

/- TlN -/
namespace Go.TL
open Go

variable {P : Program} {E : Env P} {ok : Nat → Prop} {hd : HF} {tm : Nat → Option A} {ob : OF} {w : World} {a : Act} {K : A → Obs → Prop} {o : Oper} {tab : TF} {cl : Nat → List A → Obs → (A → Obs → Prop) → Prop} {tmps : Array Value}

/-- A new row in a world that has its block. -/
theorem rel_rowAt {n sz cap : Nat} {es : List (List T)} {cur : Nat} {tags : List Nat} {c : Array Value} {e : TypeId} {fr : Nat × Nat} {w' : World} (R : Rel E ok hd tm ob tmps w) (hn : ob n = none) (hx : Ext w w') (hlt : w.heap.size < w'.heap.size)
    (hb : w'.heap[w.heap.size]? = some (.cells c e fr)) (hfr : Free c.size fr) (hcur : cur ∈ tags) (hz : 0 < sz) (hsz : c.size = cap * sz) (hcap : es.length ≤ cap) (hm : es.length ≤ 2 ^ 63 - 1) (hw : ∀ x ∈ es, x.length = sz)
    (hr : ∀ (i j : Nat) x t, es[i]? = some x → x[j]? = some t → ∃ v, c[i * sz + j]? = some v ∧ Rep w ok v t) :
    Rel E ok (setF hd n ⟨.slice (some ⟨w.heap.size, 0, none⟩) es.length cap, [w.heap.size]⟩) tm (setF ob n (some (.row sz es cur tags false))) tmps w' := by
  refine R.newOb hn hx (fun b hb => by simp at hb; subst hb; omega) ?_
  refine ⟨hcur, hz, .inr ⟨w.heap.size, c, e, fr, cap, rfl, rfl, by simp, hb, hfr, hsz, hcap, hm, hw, fun i j x t p q => ?_⟩⟩
  obtain ⟨v, hv, hr⟩ := hr i j x t p q
  exact ⟨v, hv, hr.mono (fun _ h => h) fun b hb => hx.block b (R.okLt b hb)⟩

theorem zeroR.rep {v : Value} {x : V} {t : T} (h : zeroR v x) (ht : treesC [x] = some [t]) : Rep w ok v t := by
  have hv := h.vr w ok (fun _ => ⟨undef, []⟩) (fun _ => none)
  obtain ⟨_, h2⟩ := treesC_rel (cvs := [v]) ht rfl (fun i c y p q => by
    cases i with
    | zero => simp at p q; subst p; subst q; exact hv
    | succ i => simp at p)
  exact h2 0 v t rfl rfl

theorem op_makeSlice {t n : Nat} {x y : Operand} (ho : o.op = .makeSlice t x y) (hT : TabOk P tab) (R : Rel E ok hd tm ob a.tmps w)
    (h : (sMake std tab t n ob (ev tm x) (ev tm y)).holds std cl K) : Goes P E tm ob a.tmps K o a w := by
  unfold sMake at h
  split at h
  rotate_left
  · exact h.elim
  rename_i l c hxl hyc
  split at h
  rotate_left
  · exact h.elim
  rename_i ti hti
  split at h
  rotate_left
  · exact h.elim
  rename_i e hk
  split at h
  rotate_left
  · exact h.elim
  rename_i te hte
  split at h
  rotate_left
  · exact h.elim
  rename_i z hz
  split at h
  rotate_left
  · exact h.elim
  rename_i zt hzt
  obtain ⟨h1', h'⟩ := bif_inv h
  clear h
  have h1 : 0 < te.size := le_of_leB h1'
  obtain ⟨⟨hlc, hroom⟩, h⟩ := h'
  subst hlc
  obtain ⟨hl0, hl1⟩ : 0 ≤ l ∧ l * ((te.bytes : Int) + 1) ≤ 2 ^ 46 := hroom
  unfold SR.new at h
  split at h
  rotate_left
  · exact h.elim
  rename_i hn
  obtain ⟨d, hu, hkd, _⟩ := (hT t ti hti).kd
  rw [hk] at hkd
  have hkd : d = .slice e := hkd
  subst hkd
  obtain ⟨i, hi, hsz, hby, hzero⟩ := (hT e te hte).info
  obtain ⟨zv, hzv, hzs, hzl, hzr⟩ := hzero z hz
  obtain ⟨ex, _⟩ := ev_int R hxl
  obtain ⟨ey, _⟩ := ev_int R hyc
  have hlb : l * (te.bytes : Int) ≤ 2 ^ 46 := by rw [Int.mul_add] at hl1; omega
  have hl2 : l ≤ 2 ^ 46 := by
    have : 0 ≤ l * (te.bytes : Int) := Int.mul_nonneg hl0 (by omega)
    rw [Int.mul_add] at hl1; omega
  have hrun := run_make (P := P) w t e i zv hu hi hzv .i64 .i64 l l hl0 (Int.le_refl _) (by rw [hby, Int.mul_comm]; omega) (by omega)
  have hzt' : zt.length = te.size := by
    have := treesC_rel (w := w) (ok := ok) (hd := hd) (ob := ob) (cvs := zv.cells.toList) hzt (by simpa using hzs) (fun i c x p q => (hzr i c x (by simpa using p) q).vr _ _ _ _)
    rw [← this.1]; simp; omega
  have hRep : ∀ (j : Nat) t, zt[j]? = some t → ∃ v, zv.cells[j]? = some v ∧ Rep w ok v t := by
    intro j t ht
    obtain ⟨h2, h3⟩ := treesC_rel (w := w) (ok := ok) (hd := hd) (ob := ob) (cvs := zv.cells.toList) hzt (by simpa using hzs) (fun i c x p q => (hzr i c x (by simpa using p) q).vr _ _ _ _)
    have hj : j < zt.length := by by_cases q : j < zt.length; exact q; rw [List.getElem?_eq_none (by omega)] at ht; cases ht
    have : zv.cells.toList[j]? = some (zv.cells.toList[j]'(by omega)) := List.getElem?_eq_getElem (by omega)
    exact ⟨_, by simp, h3 j _ t this ht⟩
  have R' := rel_rowAt (n := n) (sz := te.size) (cap := l.toNat) (es := std.rep l zt) (cur := n) (tags := [n]) R hn (alloc_ext w _) (by simp) (alloc_new w (.cells (madeCells zv.cells (l.toNat * i.size)) e (0, 0))) (.inl rfl) (by simp) h1
    (by rw [size_madeCells, hsz]) (by simp [std]) (by simp [std]; omega) (by intro x hx; simp [std] at hx; rw [hx.2]; exact hzt') (by
      intro i' j x t hx ht
      have hi' : i' < l.toNat := by
        by_cases q : i' < l.toNat
        · exact q
        · rw [List.getElem?_eq_none (by simp [std]; omega)] at hx; cases hx
      have hx' : x = zt := by simp [std, hi'] at hx; exact hx.symm
      subst hx'
      have hj : j < te.size := by by_cases q : j < te.size; exact q; rw [List.getElem?_eq_none (by omega)] at ht; cases ht
      obtain ⟨v, hv, hr⟩ := hRep j t ht
      refine ⟨v, ?_, hr⟩
      have hlt : (i' + 1) * te.size ≤ l.toNat * te.size := Nat.mul_le_mul_right _ hi'
      rw [Nat.succ_mul] at hlt
      have e2 : (i' * te.size + j) % te.size = j := by rw [Nat.mul_comm, Nat.mul_add_mod, Nat.mod_eq_of_lt hj]
      simp only [madeCells, hsz, Array.getElem?_map]
      rw [Array.getElem?_range, if_pos (by omega)]
      simp only [Option.map_some, hzs, hzl, e2]
      rw [getElem!_def, hv])
  have hlen : (std.rep l zt).length = l.toNat := by simp [std]
  rw [hlen] at R'
  refine goes_value (v := .slice (some ⟨w.heap.size, 0, none⟩) l.toNat l.toNat) ?_ h (by rw [updO_one]; exact R') (by rw [updO_one]; exact .one _ _ (ref_row (by simp) rfl rfl))
  simp [execOp, ho, ex, ey, hrun]

theorem zerosV_get {k : IntKind} : ∀ {z : List V}, zerosV k z = true → ∀ (j : Nat) x, z[j]? = some x → x = .t (.int k 0)
  | [], _, j, x, h => by simp at h
  | v :: r, hb, j, x, h => by
    unfold zerosV at hb
    split at hb
    · rename_i heq; cases heq
    · rename_i k' n r' heq
      injection heq with e1 e2
      subst e1; subst e2
      obtain ⟨h1, h2⟩ : (decide (k' = k) && decide (n = 0)) = true ∧ zerosV k r = true := by
        cases hq : (decide (k' = k) && decide (n = 0)) with
        | true => rw [hq] at hb; exact ⟨rfl, hb⟩
        | false => rw [hq] at hb; cases hb
      rw [Bool.and_eq_true, decide_eq_true_eq, decide_eq_true_eq] at h1
      cases j with
      | zero => simp at h; rw [← h, h1.1, h1.2]
      | succ j => exact zerosV_get h2 j x (by simpa using h)
    · cases hb
theorem op_allocArr {t n : Nat} (ho : o.op = .alloc t) (hT : TabOk P tab) (R : Rel E ok hd tm ob a.tmps w)
    (h : (sAllocArr std tab t n ob).holds std cl K) : Goes P E tm ob a.tmps K o a w := by
  unfold sAllocArr at h
  split at h
  rotate_left
  · exact h.elim
  rename_i ti hti
  split at h
  rotate_left
  · exact h.elim
  rename_i m e z hk hz
  split at h
  rotate_left
  · exact h.elim
  rename_i te hte
  split at h
  rotate_left
  · exact h.elim
  rename_i k hkk
  obtain ⟨hb, h'⟩ := bif_inv h
  clear h
  simp only [Bool.and_eq_true] at hb
  have hm1 := le_of_leB hb.2.1
  have hm2 := le_of_leB hb.2.2.1
  have hzl := eq_of_eqB hb.2.2.2.1
  have hzz := hb.2.2.2.2
  unfold SR.new at h'
  split at h'
  rotate_left
  · exact h'.elim
  rename_i hn
  obtain ⟨zv, h1, h2, h3, h4⟩ := tz (w := w) hT hti hz
  have hlen : (std.rep (Int.ofNat m) [T.int k 0]).length = m := by simp [std]
  have R' := rel_rowAt (n := n) (sz := 1) (cap := m) (es := std.rep (Int.ofNat m) [.int k 0]) (cur := n) (tags := [n]) R hn (alloc_ext w _) (by simp) (alloc_new w (.cells zv.cells t (0, 0))) (.inl rfl) (by simp) (by decide)
    (by rw [h2, hzl, Nat.mul_one]) (by rw [hlen]; exact Nat.le_refl _) (by rw [hlen]; omega) (by intro x hx; simp [std] at hx; rw [hx.2]; rfl) (by
      intro i j x t hx ht
      have hi : i < m := by
        by_cases q : i < m
        · exact q
        · rw [List.getElem?_eq_none (by rw [hlen]; omega)] at hx; cases hx
      have hx' : x = [.int k 0] := by simp [std, hi] at hx; exact hx.symm
      subst hx'
      have hj : j = 0 := by
        cases j with
        | zero => rfl
        | succ j => simp at ht
      subst hj
      have ht : T.int k 0 = t := by simpa using ht
      subst ht
      have hv : zv.cells[i]? = some (zv.cells[i]'(by omega)) := Array.getElem?_eq_getElem (by omega)
      have hzi : z[i]? = some (z[i]'(by omega)) := List.getElem?_eq_getElem (by omega)
      have hzr := h4 i _ _ hv hzi
      rw [zerosV_get hzz i _ hzi] at hzr
      refine ⟨_, by rw [Nat.mul_one, Nat.add_zero]; exact hv, ?_⟩
      exact (zeroR.vr hzr w ok hd ob))
  rw [hlen] at R'
  refine goes_value (ok' := ok) (w' := w.alloc (.cells zv.cells t (0, 0))) (v := .pointer (some ⟨w.heap.size, 0, none⟩)) ?_ h' (by rw [updO_one]; exact R') ?_
  · simp [execOp, ho, Instr.alloc, h1, newVar, newRow]
  · rw [updO_one]
    exact .one _ _ ⟨1, _, n, [n], false, setF_same _ _ _, by simp, ⟨_, rfl⟩, fun _ => ⟨Int.le_refl _, w.heap.size, m, m, by rw [setF_same], by simp⟩⟩

theorem op_min {c : Call} {x y : Operand} {m n : Int} (ho : o.op = .call c) (hc : c.callee = .builtin .min) (hx : c.args.toList = [x, y]) (R : Rel E ok hd tm ob a.tmps w)
    (h1 : ev tm x = some (.one (.t (.int .i64 m)))) (h2 : ev tm y = some (.one (.t (.int .i64 n)))) (h : IntKind.i64.has m ∧ IntKind.i64.has n → K (.one (.t (.int .i64 (std.imin m n)))) []) : Goes P E tm ob a.tmps K o a w := by
  obtain ⟨e1, b1⟩ := ev_int R h1
  obtain ⟨e2, b2⟩ := ev_int R h2
  have hx' : c.args = #[x, y] := by rw [← hx]
  refine goes_t R (v := .int .i64 (std.imin m n)) ?_ (h ⟨b1, b2⟩) (.int _ _ (by simp only [std]; split <;> assumption))
  simp only [execOp, ho, resolve, hc, hx', invoke, builtin, Sem.run_bind, Sem.run_pure, Result.andThen_ok]
  simp [Builtin.min_, e1, e2, Builtin.min2, std]
theorem op_max {c : Call} {x y : Operand} {m n : Int} (ho : o.op = .call c) (hc : c.callee = .builtin .max) (hx : c.args.toList = [x, y]) (R : Rel E ok hd tm ob a.tmps w)
    (h1 : ev tm x = some (.one (.t (.int .i64 m)))) (h2 : ev tm y = some (.one (.t (.int .i64 n)))) (h : IntKind.i64.has m ∧ IntKind.i64.has n → K (.one (.t (.int .i64 (std.imax m n)))) []) : Goes P E tm ob a.tmps K o a w := by
  obtain ⟨e1, b1⟩ := ev_int R h1
  obtain ⟨e2, b2⟩ := ev_int R h2
  have hx' : c.args = #[x, y] := by rw [← hx]
  refine goes_t R (v := .int .i64 (std.imax m n)) ?_ (h ⟨b1, b2⟩) (.int _ _ (by simp only [std]; split <;> assumption))
  simp only [execOp, ho, resolve, hc, hx', invoke, builtin, Sem.run_bind, Sem.run_pure, Result.andThen_ok]
  simp [Builtin.max_, e1, e2, Builtin.max2, std]

end Go.TL

/- TlO -/
namespace Go.TL
open Go

variable {P : Program} {E : Env P} {ok : Nat → Prop} {hd : HF} {tm : Nat → Option A} {ob : OF} {w : World} {a : Act} {K : A → Obs → Prop} {o : Oper} {tab : TF} {cl : Nat → List A → Obs → (A → Obs → Prop) → Prop} {tmps : Array Value}

/-- A bound that is given, or the one that stands for it. -/
theorem bnd_rel (R : Rel E ok hd tm ob a.tmps w) {x : Option Operand} {d i : Int} (h : bnd (ev tm) x d = some i) : (x = none ∧ i = d) ∨ ∃ y k, x = some y ∧ a.eval y = .int k i := by
  unfold bnd at h
  split at h
  · injection h with h; exact .inl ⟨rfl, h.symm⟩
  · rename_i y
    split at h
    · rename_i k i' hy
      injection h with h; subst h
      exact .inr ⟨y, k, rfl, (ev_int R hy).1⟩
    · cases h

theorem run_bound {k : IntKind} {i : Int} {m : Nat} {c : BoundsCode} (h0 : 0 ≤ i) (h1 : i ≤ m) : (Instr.sliceBound (.int k i) m c).run P w = .ok i.toNat w := by
  simp [Instr.sliceBound, asIntOf, h0, h1]

/-- The bounds of a slice's piece. -/
theorem run_bounds (R : Rel E ok hd tm ob a.tmps w) {lo hi mx : Option Operand} {l h : Int} {len cap : Nat} (hl : bnd (ev tm) lo 0 = some l) (hh : bnd (ev tm) hi len = some h) (h0 : 0 ≤ l) (h1 : l ≤ h) (h2 : h ≤ len) (hc : len ≤ cap)
    (hm : mx = none ∨ ∃ x m, mx = some x ∧ (∃ y, hi = some y) ∧ bnd (ev tm) (some x) 0 = some m ∧ h ≤ m ∧ m ≤ len) :
    ∃ m : Nat, (Instr.sliceBounds true len cap (lo.map a.eval) (hi.map a.eval) (mx.map a.eval)).run P w = .ok (l.toNat, h.toNat, m) w ∧ h.toNat ≤ m ∧ m ≤ cap ∧ (mx = none → m = cap) := by
  have lowRun : ∀ (c : BoundsCode), ∀ x, lo = some x → (Instr.sliceBound (a.eval x) h.toNat c).run P w = .ok l.toNat w := by
    intro c x e
    rcases bnd_rel R hl with ⟨e2, _⟩ | ⟨y, k, e2, ev⟩
    · rw [e] at e2; cases e2
    · rw [e] at e2; injection e2 with e2; subst e2; rw [ev]; exact run_bound h0 (by omega)
  have lowNone : lo = none → l = 0 := by
    intro e
    rcases bnd_rel R hl with ⟨_, e3⟩ | ⟨y, k, e2, ev⟩
    · exact e3
    · rw [e] at e2; cases e2
  have hiNone : hi = none → h = len := by
    intro e
    rcases bnd_rel R hh with ⟨_, e3⟩ | ⟨y, k, e2, ev⟩
    · exact e3
    · rw [e] at e2; cases e2
  have hiRun : ∀ (c : BoundsCode) (m : Nat), h ≤ m → ∀ x, hi = some x → (Instr.sliceBound (a.eval x) m c).run P w = .ok h.toNat w := by
    intro c m hm x e
    rcases bnd_rel R hh with ⟨e2, _⟩ | ⟨y, k, e2, ev⟩
    · rw [e] at e2; cases e2
    · rw [e] at e2; injection e2 with e2; subst e2; rw [ev]; exact run_bound (by omega) hm
  rcases hm with rfl | ⟨x, m, rfl, ⟨y, rfl⟩, hmx, hm1, hm2⟩
  · refine ⟨cap, ?_, by omega, Nat.le_refl _, fun _ => rfl⟩
    cases hi with
    | none =>
      have := hiNone rfl
      subst this
      cases lo with
      | none => have := lowNone rfl; subst this; simp [Instr.sliceBounds]
      | some x => have := lowRun .sliceB x rfl; simp at this; simp [Instr.sliceBounds, this]
    | some y =>
      have h3 := hiRun .sliceAcap cap (by omega) y rfl
      cases lo with
      | none => have := lowNone rfl; subst this; simp [Instr.sliceBounds, h3]
      | some x => have := lowRun .sliceB x rfl; simp [Instr.sliceBounds, h3, this]
  · have hmr : (Instr.sliceBound (a.eval x) cap .slice3Acap).run P w = .ok m.toNat w := by
      rcases bnd_rel R hmx with ⟨e2, _⟩ | ⟨y', k, e2, ev⟩
      · cases e2
      · injection e2 with e2; subst e2; rw [ev]; exact run_bound (by omega) (by omega)
    have h3 := hiRun .slice3B m.toNat (by omega) y rfl
    refine ⟨m.toNat, ?_, by omega, by omega, fun h => by cases h⟩
    cases lo with
    | none => have := lowNone rfl; subst this; simp [Instr.sliceBounds, hmr, h3]
    | some x' => have := lowRun .slice3C x' rfl; simp [Instr.sliceBounds, hmr, h3, this]

theorem rep_sub {b off sz : Nat} {es : List (List T)} {vs : Nat → Nat → Value} {l h m : Nat} (hm : es.length ≤ 2 ^ 63 - 1) (hsz : ∀ e ∈ es, e.length = sz) (hok : ok b)
    (hc : ∀ i j, i < es.length → j < sz → w.cell? ⟨b, off + i * sz + j, none⟩ = some (vs i j)) (hr : ∀ (i j : Nat) (e : List T) (t : T), es[i]? = some e → e[j]? = some t → Rep w ok (vs i j) t)
    (h1 : l ≤ h) (h2 : h ≤ es.length) (hm2 : h ≤ m) : Rep w ok (.slice (some (if m = l then ⟨b, off, none⟩ else ⟨b, off + l * sz, none⟩)) (h - l) (m - l)) (.sl ((es.take h).drop l)) := by
  have hlen : ((es.take h).drop l).length = h - l := by simp; omega
  by_cases e : m = l
  · have hl0 : h = l := by omega
    subst hl0
    have he : (es.take h).drop h = [] := by apply List.drop_eq_nil_of_le; simp; omega
    rw [if_pos e, he]
    have := Rep.sl (w := w) (ok := ok) b off (m - h) sz [] (fun _ _ => undef) (by simp) (by simp) (by simp) hok (by simp) (by simp)
    simpa using this
  · rw [if_neg e]
    have hget : ∀ (i : Nat) (x : List T), ((es.take h).drop l)[i]? = some x → es[l + i]? = some x := by
      intro i x hx
      rw [List.getElem?_drop] at hx
      by_cases q : l + i < h
      · rwa [List.getElem?_take_of_lt q] at hx
      · rw [List.getElem?_take_eq_none (by omega)] at hx; cases hx
    have := Rep.sl (w := w) (ok := ok) b (off + l * sz) (m - l) sz ((es.take h).drop l) (fun i j => vs (l + i) j) (by omega) (by omega) (fun x hx => by
      obtain ⟨i, hi⟩ := List.getElem?_of_mem hx
      exact hsz x (List.mem_of_getElem? (hget i x hi))) hok (fun i j hi hj => by
      have := hc (l + i) j (by omega) hj
      rwa [show off + (l + i) * sz + j = off + l * sz + i * sz + j by rw [Nat.add_mul]; omega] at this) (fun i j x t hx ht => hr (l + i) j x t (hget i x hx) ht)
    rwa [hlen] at this

theorem op_sliceT {t : Nat} {x : Operand} {lo hi mx : Option Operand} {es : List (List T)} {wr : Obs} {ok' : Nat → Prop} {hd' : HF} (ho : o.op = .slice t x lo hi mx) (hT : TabOk P tab) (R0 : Rel E ok hd tm ob a.tmps w)
    (R : Rel E ok' hd' tm (updO ob wr) a.tmps w) (hx : Rep w ok' (a.eval x) (.sl es)) (h : (sSliceT std tab t (ev tm) lo hi mx wr es).holds std cl K) : Goes P E tm ob a.tmps K o a w := by
  unfold sSliceT at h
  split at h
  rotate_left
  · exact h.elim
  rename_i e he
  have hu := sliceOf_und hT he
  split at h
  rotate_left
  · exact h.elim
  rename_i te hte
  have hse := cellsOf_size (w := w) hT hte
  revert h
  intro hyp
  have main : ∀ (l h : Int), bnd (ev tm) lo 0 = some l → bnd (ev tm) hi es.length = some h → std.insub l h es → std.wid te.size es →
      (mx = none ∨ ∃ x m, mx = some x ∧ (∃ y, hi = some y) ∧ bnd (ev tm) (some x) 0 = some m ∧ h ≤ m ∧ m ≤ es.length) → K (.one (.t (.sl (std.sub es l h)))) wr → Goes P E tm ob a.tmps K o a w := by
    intro l h hl hh hin hw hm hk
    obtain ⟨h0, h1, h2⟩ : 0 ≤ l ∧ l ≤ h ∧ h ≤ es.length := hin
    generalize hp : a.eval x = p at hx
    cases hx with
    | snil =>
      simp at h2
      have hl0 : l = 0 := by omega
      have hh0 : h = 0 := by omega
      subst hl0; subst hh0
      obtain ⟨m, hrun, hm1, hm2, hm3⟩ := run_bounds (P := P) (w := w) R0 hl hh (by omega) (by omega) (by simp) (Nat.le_refl _) hm
      have hm0 : m = 0 := by simpa using hm2
      subst hm0
      refine goes_value (ok' := ok') (hd' := hd') (v := .slice none 0 0) (w' := w) ?_ hk R (.one _ _ .snil)
      simp [execOp, ho, hp, Instr.sliceAt, Instr.slice, run_underlying hu, show (Instr.sliceBounds true 0 0 (lo.map a.eval) (hi.map a.eval) (mx.map a.eval)).run P w = _ from hrun, hse]
    | szero z =>
      simp at h2
      have hl0 : l = 0 := by omega
      have hh0 : h = 0 := by omega
      subst hl0; subst hh0
      obtain ⟨m, hrun, hm1, hm2, hm3⟩ := run_bounds (P := P) (w := w) R0 hl hh (by omega) (by omega) (by simp) (Nat.le_refl _) hm
      have hm0 : m = 0 := by simpa using hm2
      subst hm0
      refine goes_value (ok' := ok') (hd' := hd') (v := .slice (some z) 0 0) (w' := w) ?_ hk R (.one _ _ (.szero z))
      simp [execOp, ho, hp, Instr.sliceAt, Instr.slice, run_underlying hu, show (Instr.sliceBounds true 0 0 (lo.map a.eval) (hi.map a.eval) (mx.map a.eval)).run P w = _ from hrun, hse]
    | sl b off cap sz _ vs hmm hcap hsz hok hc hr =>
      obtain ⟨m, hrun, hm1, hm2, hm3⟩ := run_bounds (P := P) (w := w) (cap := cap) R0 hl hh h0 h1 h2 hcap hm
      have hsz' : ∀ e ∈ es, e.length = te.size := hw
      have hc' : ∀ i j, i < es.length → j < te.size → w.cell? ⟨b, off + i * te.size + j, none⟩ = some (vs i j) := by
        intro i j hi hj
        have he := List.getElem?_eq_getElem hi
        have e1 : te.size = sz := by rw [← hsz' _ (List.mem_of_getElem? he), hsz _ (List.mem_of_getElem? he)]
        rw [e1] at hj ⊢
        exact hc i j hi hj
      have hrep := rep_sub (w := w) (ok := ok') (l := l.toNat) (h := h.toNat) (m := m) hmm hsz' hok hc' hr (by omega) (by omega) hm1
      refine goes_value (ok' := ok') (hd' := hd') (v := .slice (some (if m = l.toNat then ⟨b, off, none⟩ else ⟨b, off + l.toNat * te.size, none⟩)) (h.toNat - l.toNat) (m - l.toNat)) (w' := w) ?_ hk R (.one _ _ hrep)
      simp only [execOp, ho, hp, Instr.sliceAt, Instr.slice, Sem.run_bind, run_underlying hu, Result.andThen_ok, hrun, hse]
      by_cases q : m = l.toNat
      · simp [q]
      · simp [q, Addr.add_mid]
  split at hyp
  · rename_i l hh' hl hh
    exact main l hh' hl hh hyp.1.1 hyp.1.2 (.inl rfl) hyp.2
  · rename_i l hh' m hl hh
    split at hyp
    · rename_i y k hm
      exact main l hh' hl hh hyp.1.1 hyp.1.2.2 (.inr ⟨m, k, rfl, ⟨y, rfl⟩, hm, hyp.1.2.1.2.1, hyp.1.2.1.2.2⟩) hyp.2
    · exact hyp.elim
  · exact hyp.elim

theorem op_slicePart {t : Nat} {x : Operand} {lo hi mx : Option Operand} (ho : o.op = .slice t x lo hi mx) (hT : TabOk P tab) (R : Rel E ok hd tm ob a.tmps w)
    (h : (sPart std tab t ob (ev tm) lo hi mx (ev tm x)).holds std cl K) : Goes P E tm ob a.tmps K o a w := by
  unfold sPart at h
  split at h
  rotate_left
  · exact h.elim
  rename_i n g hx
  split at h
  rotate_left
  · exact h.elim
  rename_i e sz es cur tags fz he hob
  split at h
  rotate_left
  · exact h.elim
  rename_i te l hh hte hl hhi
  obtain ⟨hb, h'⟩ := bif_inv h
  clear h
  rw [Bool.and_eq_true] at hb
  have hg := eq_of_eqB hb.1
  have hs := eq_of_eqB hb.2
  obtain ⟨⟨h0, h1, h2⟩, hk⟩ := h'
  have h0 : 0 ≤ l := h0
  have h1 : l ≤ hh := h1
  have h2 : hh ≤ (es.length : Int) := h2
  have hhi : bnd (ev tm) hi (es.length : Int) = some hh := hhi
  have hu := sliceOf_und hT he
  have hse := cellsOf_size (w := w) hT hte
  obtain ⟨sz', es', cur', tags', fz', p1, p2, p2', p3⟩ := (ev_rel R hx).one_inv
  rw [hob] at p1; injection p1 with p1; injection p1 with q1 q2 q3 q4 q5; subst q1; subst q2; subst q3; subst q4; subst q5
  have hxv := p3 hg
  obtain ⟨_, _, hR⟩ := R.obs n _ hob
  rcases hR with ⟨hes, hv0, _⟩ | ⟨b', c, e', fr, cap', g1, g2, g3, g4, g5, g6, g7, g7', g8, g9⟩
  · subst hes
    simp at h2
    have hl0 : l = 0 := by omega
    have hh0 : hh = 0 := by omega
    subst hl0; subst hh0
    obtain ⟨m, hrun, hm1, hm2, hm3⟩ := run_bounds (P := P) (w := w) (cap := 0) (mx := none) R hl hhi (by omega) (by omega) (by simp) (Nat.le_refl _) (.inl rfl)
    have hm0 : m = 0 := by simpa using hm2
    subst hm0
    rw [hv0] at hxv
    refine goes_value (v := .slice none 0 0) (w' := w) ?_ hk R (.one _ _ ⟨sz, [], cur, tags, fz, hob, p2, ⟨_, _, _, rfl⟩, fun _ => .inl ⟨hv0, rfl, rfl, rfl⟩⟩)
    simp [execOp, ho, hxv, Instr.sliceAt, Instr.slice, run_underlying hu, show (Instr.sliceBounds true 0 0 (lo.map a.eval) (hi.map a.eval) none).run P w = _ from hrun, hse]
  · rw [g1] at hxv
    obtain ⟨m, hrun, hm1, hm2, hm3⟩ := run_bounds (P := P) (w := w) (cap := cap') (mx := none) R hl hhi h0 h1 h2 g7 (.inl rfl)
    have hm : m = cap' := hm3 rfl
    refine goes_value (v := .slice (some (if m = l.toNat then ⟨b', 0, none⟩ else ⟨b', 0 + l.toNat * te.size, none⟩)) (hh.toNat - l.toNat) (m - l.toNat)) (w' := w) ?_ hk R (.one _ _ ⟨sz, es, cur, tags, fz, hob, p2, ⟨_, _, _, rfl⟩, fun _ => .inr ⟨b', _, cap', g1, h0, h1, h2, ?_⟩⟩)
    · simp only [execOp, ho, hxv, Instr.sliceAt, Instr.slice, Sem.run_bind, run_underlying hu, Result.andThen_ok, Option.map_none]
      rw [show (Instr.sliceBounds true es.length cap' (lo.map a.eval) (hi.map a.eval) none).run P w = _ from hrun]
      simp only [Result.andThen_ok, Sem.run_bind, hse]
      by_cases q : m = l.toNat
      · simp [q]
      · simp [q, Addr.add_mid]
    · rw [hm, hs, Nat.zero_add]

theorem op_slice {t : Nat} {x : Operand} {lo hi mx : Option Operand} (ho : o.op = .slice t x lo hi mx) (hT : TabOk P tab) (R : Rel E ok hd tm ob a.tmps w)
    (h : (sSlice std tab t ob (ev tm) lo hi mx (ev tm x)).holds std cl K) : Goes P E tm ob a.tmps K o a w := by
  unfold sSlice at h
  split at h
  · -- a text
    rename_i s hx
    split at h
    · rename_i l hh hl hhi
      obtain ⟨hs, h'⟩ := bif_inv h
      clear h
      have hu := isStr_und hT hs
      obtain ⟨⟨h0, h1, h2⟩, h⟩ := h'
      obtain ⟨u, hv, rfl, hb⟩ := ev_str R hx
      have h0 : 0 ≤ l := h0
      have h1 : l ≤ hh := h1
      have h2 : hh ≤ (u.data.toList.length : Int) := h2
      have h2' : hh ≤ (u.size : Int) := by simpa using h2
      have hrun : (Instr.sliceBounds false u.size u.size (lo.map a.eval) (hi.map a.eval) none).run P w = .ok (l.toNat, hh.toNat, u.size) w := by
        rcases bnd_rel R hl with ⟨e2, e3⟩ | ⟨y, k, e2, ev⟩ <;> rcases bnd_rel R hhi with ⟨f2, f3⟩ | ⟨z, k', f2, ev'⟩ <;> subst e2 <;> subst f2
        · subst e3; subst f3
          have : (std.slen u.data.toList).toNat = u.size := by simp [std]
          simp [Instr.sliceBounds, this]
        · subst e3
          simp [Instr.sliceBounds, ev', run_bound (P := P) (w := w) (k := k') (c := .sliceAlen) (show 0 ≤ hh by omega) h2']
        · subst f3
          have : std.slen u.data.toList = (u.size : Int) := by simp [std]
          rw [this] at h1 ⊢
          simp [Instr.sliceBounds, ev, run_bound (P := P) (w := w) (k := k) (c := .sliceB) h0 h1]
        · simp [Instr.sliceBounds, ev, ev', run_bound (P := P) (w := w) (k := k') (c := .sliceAlen) (show 0 ≤ hh by omega) h2', run_bound (P := P) (w := w) (k := k) (m := hh.toNat) (c := .sliceB) h0 (by omega)]
      refine goes_t R (v := .string (u.extract l.toNat hh.toNat)) ?_ h ?_
      · simp only [execOp, ho, hv, Instr.sliceAt, Instr.slice, Sem.run_bind, run_underlying hu, Result.andThen_ok, Option.map_none, Option.isSome_none, Bool.false_eq_true, if_false]
        rw [hrun]
        rfl
      · have := Rep.str (w := w) (ok := ok) (u.extract l.toNat hh.toNat) (by simp; omega)
        have e : (u.extract l.toNat hh.toNat).data.toList = std.ssub u.data.toList l hh := by
          show _ = (u.data.toList.take hh.toNat).drop l.toNat
          simp [ByteArray.data_extract, List.extract_eq_take_drop, List.drop_take]
        rwa [e] at this
    · exact h.elim
  · rename_i v hne hx
    split at h
    · rename_i es hes
      have hv := (ev_rel R hx).one_inv
      have R' := R.freeze v.refs
      rw [← updO_frz] at R'
      have hrep : Rep w (frzK ok hd ob v.refs) (a.eval x) (.sl es) := by
        have hv' := hv.mono (ok' := frzK ok hd ob v.refs) (w' := w) (fun _ h => .inl h) (fun _ _ => rfl) (le_frz (hd := hd) (ob := ob) v.refs)
        refine VR.rep (R.toORel.freeze v.refs) hv' ?_ (allFr_frzO ob _)
        rw [← tree_frz]; exact hes
      exact op_sliceT ho hT R R' hrep h
    · exact h.elim
  · exact h.elim

end Go.TL
