/- Own layer, part 26: laws whose arguments are no longer than memory. -/
import Derived.Test.YtgccnkihonmlbaaAp
import Derived.SizedLaws
namespace Go.Proofs.Ytgccnkihonmlbaa
open Go Go.RowKit Go.ChangeShapes Go.WideShapes
set_option linter.unusedSimpArgs false
set_option linter.unusedVariables false

section
variable {H : Type} {enc : TypeId × Value → H} {P : Program} {w : World}

theorem trod_slice {sp : Nat → Bool} {hd : Bool} {base : Nat} {t e : TypeId} {a : Option Addr} {len cap : Nat} {d : DataW H} {ps : List MemPlace} (hu : P.underlying t = some (.slice e)) (h : DataW.Trod enc P w base sp hd t (.slice a len cap) d ps) :
    len = 0 ∨ ∃ elems spare, d = .slice elems spare ∧ elems.length = len := by
  obtain ⟨fuel, h⟩ := h
  cases fuel with
  | zero => simp [DataW.trod] at h
  | succ fuel =>
    unfold DataW.trod at h
    have e1 : (Value.slice a len cap).cells.toList = [.slice a len cap] := rfl
    rw [e1] at h
    simp only [hu] at h
    split at h <;> first | (cases h; done) | (rename_i heq; cases heq; done) | (rename_i heq _; cases heq; done) | (rename_i heq _ _; cases heq; done) | skip
    · rename_i heq; cases heq; exact .inl rfl
    · rename_i e2 a1 len1 cap1 heq
      cases heq
      split at h
      · simp only [Option.bind_eq_some_iff, Option.map_eq_some_iff] at h
        obtain ⟨elems, hel, rest, _, hx⟩ := h
        have hl := (mapM_get hel).1
        cases hx
        exact .inr ⟨_, _, rfl, by simp [hl]⟩
      · cases h

theorem short_all {base : Nat} : ∀ {ts : List TypeId} {vs : List Value} {dds : List (DataW H)} {ps : List MemPlace} {Ds : List D}, (∀ (j : Nat) (t : TypeId) (v : Value), ts[j]? = some t → vs[j]? = some v → Value.okWide P w .any base t v) →
    DataW.TrodAll enc P w 0 (fun _ => true) true ts vs dds ps → RAll (wholeMem w) Ds vs →
    ∀ (j : Nat) (t e : TypeId) (sz : Nat) (rows : List (List D)) (tk : Tok), ts[j]? = some t → P.underlying t = some (.slice e) → Ds[j]? = some (.sl sz rows tk) → rows.length = 0 ∨ ∃ elems spare, dds[j]? = some (.slice elems spare) ∧ elems.length = rows.length
  | t0 :: ts, v :: vs, dd :: dds, ps, d :: Ds, hv, ⟨p, q, h1, h2, _⟩, hr, 0, t, e, sz, rows, tk, ht, hu, hd => by
    simp only [RAll] at hr
    simp only [List.getElem?_cons_zero, Option.some.injEq] at ht hd
    subst ht
    subst hd
    obtain ⟨a, b, c, rfl⟩ := okWide_slice hu (hv 0 t0 v rfl rfl)
    have hr1 := hr.1
    simp only [R] at hr1
    obtain ⟨p1, cap1, e1, -⟩ := hr1
    cases e1
    rcases trod_slice hu h1 with h | ⟨elems, spare, rfl, hl⟩
    · exact .inl h
    · exact .inr ⟨elems, spare, rfl, hl⟩
  | t0 :: ts, v :: vs, dd :: dds, ps, d :: Ds, hv, ⟨p, q, h1, h2, _⟩, hr, j + 1, t, e, sz, rows, tk, ht, hu, hd => by
    simp only [RAll] at hr
    simp only [List.getElem?_cons_succ] at ht hd ⊢
    exact short_all (fun j u x hu hx => hv (j + 1) u x (by simpa using hu) (by simpa using hx)) h2 hr.2 j t e sz rows tk ht hu hd
  | [], _, _, _, _, _, _, _, j, _, _, _, _, _, ht, _, _ => by simp at ht
  | _ :: _, [], _, _, _, _, h, _, _, _, _, _, _, _, _, _, _ => by cases ‹List (DataW H)› <;> exact h.elim
  | _ :: _, _ :: _, [], _, _, _, h, _, _, _, _, _, _, _, _, _, _ => h.elim
  | _ :: _, _ :: _, _ :: _, _, [], _, _, hr, _, _, _, _, _, _, _, _, _ => by simp [RAll] at hr

/-- The arguments' slices are no longer than memory. -/
def Short (P : Program) (ts : List TypeId) (Ds : List D) : Prop := ∀ (j : Nat) (t e : TypeId) (sz : Nat) (rows : List (List D)) (tk : Tok), ts[j]? = some t → P.underlying t = some (.slice e) → Ds[j]? = some (.sl sz rows tk) → rows.length * P.bytesOf e ≤ reachBytes

theorem law_rowS {f : FuncId} {fn : Func} {s : ChangeSpec} {apart fresh handsOn again : Bool} {tb : TypeId} (n : Nat) (hl : laidOutB P = true) (hf : P.funcs[f]? = some fn) (hbody : fn.body.isNone = false) (hname : (fn.name == "runtime.NumGoroutine") = false)
    (hvars : s.vars = []) (hres : fn.resultTypes = #[tb]) (htb : P.underlying tb = some .bool)
    (hps : (fn.params.toList.all fun t => plainT P n t && P.readableRec t && decide (t < P.types.size)) = true) (hsf : ∀ ds : List (DataW H), ds.length = fn.params.toList.length → s.fn H ds = { results := [.lit (.bool true)], args := ds })
    (hlaw : ∀ Ds, ArgSh P n fn.params.toList Ds → Short P fn.params.toList Ds → PCall P (.func f) Ds (.bool true))
    {W : World} {base : Nat} {args : Array Value} {ds gs : List (DataW H)} {before : List MemPlace} (hval : ∀ (j : Nat) t v, fn.params[j]? = some t → args[j]? = some v → Value.okWide P W .any base t v)
    (hW : DataW.Whole enc P fn.params.toList s.vars apart W args.toList ds gs before) {us : List TypeId} (hz : (DataW.weightsEach P (fn.params.toList ++ us) (ds ++ gs)).all (· ≤ reachBytes) = true) :
    Calls P f args W fun e W' => ∃ v, e = .returned v ∧ s.post enc P fn apart fresh handsOn again W args v W' := by
  have hps' : ∀ t ∈ fn.params.toList, plainT P n t = true ∧ P.readableRec t = true ∧ t < P.types.size := fun t ht => by
    rw [List.all_eq_true] at hps
    have := hps t ht
    simp only [Bool.and_eq_true, decide_eq_true_eq] at this
    exact ⟨this.1.1, this.1.2, this.2⟩
  have hW' := hW
  obtain ⟨p, q, hA, hV, hbe, hfz, hnd⟩ := hW
  have hval' : ∀ (j : Nat) (t : TypeId) (v : Value), fn.params.toList[j]? = some t → args.toList[j]? = some v → Value.okWide P W .any base t v := fun j t v ht hv => hval j t v (by simpa using ht) (by simpa using hv)
  obtain ⟨Ds, hR, hS⟩ := args_good (fun t ht => (hps' t ht).1) hval' hA
  have hlen : ds.length = fn.params.toList.length := trodAll_len hA
  have hsh : Short P fn.params.toList Ds := by
    intro j t e sz rows tk ht hu hd
    rcases short_all hval' hA hR j t e sz rows tk ht hu hd with h | ⟨elems, spare, h1, h2⟩
    · rw [h, Nat.zero_mul]; exact Nat.zero_le _
    · have hj : j < fn.params.toList.length := (List.getElem?_eq_some_iff.1 ht).1
      have := sized_slice hz (j := j) (t := t) (e := e) (elems := elems) (spare := spare) (by rw [List.getElem?_append_left hj]; exact ht) (by rw [List.getElem?_append_left (by omega)]; exact h1) hu
      rw [← h2]
      exact Nat.le_trans (Nat.mul_le_mul_right _ (Nat.le_add_right _ _)) this
  have hc := hlaw Ds hS hsh (wholeMem W) W args.toList (Conc.whole W) hR
  rcases hc with ⟨_, hc⟩ | ⟨v, w', hc, _⟩
  · refine (callsIn_wide.1 hc).mono fun e W' ⟨M', σ', r, st, _, hr, e1, e2⟩ => ?_
    subst e1
    cases e with
    | returned v =>
      simp only [ResR, R] at hr
      subst hr
      exact ⟨_, rfl, law_post hl hvars hres htb (fun t ht => (hps' t ht).2) (hsf ds hlen) hW' st.below⟩
    | panicked l => simp [ResR] at hr
    | outgrown => simp [ResR] at hr
  · have := callFunc_enter (w := W) hf hbody hname (List.toArray args.toList)
    rw [this] at hc
    cases hc
end

end Go.Proofs.Ytgccnkihonmlbaa
