/- A law whose first argument is a struct that begins with a slice: that slice is no longer than memory. -/
import Derived.Test.YtinhjbnljbmbcaaGreatY03
namespace Go.Proofs.YtinhjbnljbmbcaaGreat
open Go Go.RowKit Go.ChangeShapes Go.WideShapes
set_option linter.unusedSimpArgs false
set_option linter.unusedVariables false
section
variable {H : Type} {enc : TypeId × Value → H} {P : Program} {w : World}
theorem short_field {ts us : List TypeId} {vs : List Value} {dds gs : List (DataW H)} {ps : List MemPlace} {Ds : List D} {t e : TypeId} {fs : Array Field} {f0 : Field} {fr : List Field} {sz : Nat} {rows : List (List D)} {tk : Tok} {rest : List D}
  (hA : DataW.TrodAll enc P w 0 (fun _ => true) true (t :: ts) vs dds ps) (hR : RAll (wholeMem w) (.ag (.sl sz rows tk :: rest) :: Ds) vs) (hu : P.underlying t = some (.struct fs)) (hf : fs.toList = f0 :: fr) (h0 : f0.offset = 0) (hc : P.cellsOf f0.type = 1) (hu0 : P.underlying f0.type = some (.slice e))
  (hz : (DataW.weightsEach P ((t :: ts) ++ us) (dds ++ gs)).all (· ≤ reachBytes) = true) : rows.length * P.bytesOf e ≤ reachBytes := by
 match vs, dds, hA with
 | v :: vs, dd :: dds, ⟨p, q, h1, h2, _⟩ =>
  simp only [RAll, R] at hR
  obtain ⟨⟨us', rfl, hall⟩, _⟩ := hR
  cases us' with
  | nil => simp [RAll] at hall
  | cons u0 ur =>
   simp only [RAll, R] at hall
   obtain ⟨⟨pp, cap, rfl, _⟩, _⟩ := hall
   obtain ⟨fuel, h1⟩ := h1
   cases fuel with
   | zero => simp [DataW.trod] at h1
   | succ n =>
    unfold DataW.trod at h1
    have e1 : (Value.agg (List.toArray (Value.slice pp rows.length cap :: ur))).cells.toList = Value.slice pp rows.length cap :: ur := rfl
    rw [e1] at h1
    simp only [hu] at h1
    split at h1
    ·simp only [hf, List.mapM_cons, Option.map_eq_some_iff] at h1
     obtain ⟨xs, hxs, hd⟩ := h1
     simp only [Option.bind_eq_bind, Option.bind_eq_some_iff] at hxs
     obtain ⟨x0, hx0, xr, _, hx⟩ := hxs
     cases hx
     cases hd
     rw [h0, hc] at hx0
     have hx0 : DataW.trod enc P w 0 (fun _ => true) true n f0.type [Value.slice pp rows.length cap] = some x0 := hx0
     rcases trod_slice (enc := enc) (sp := fun _ => true) (hd := true) (base := 0) (d := x0.1) (ps := x0.2) hu0 ⟨n, hx0⟩ with h | ⟨elems, spare, hs, hl⟩
     ·rw [h, Nat.zero_mul]; exact Nat.zero_le _
     ·have hm := List.all_eq_true.1 hz _ (DataW.weights_mem_each (j := 0) (t := t) (ts := (t :: ts) ++ us) (ds := _ :: dds ++ gs) rfl rfl ((elems.length + spare.length) * P.bytesOf e) (by
        simp [DataW.weights, DataW.weightsEach, hu, hf, hs, hu0]))
      have hm : (elems.length + spare.length) * P.bytesOf e ≤ reachBytes := of_decide_eq_true hm
      rw [← hl]
      exact Nat.le_trans (Nat.mul_le_mul_right _ (Nat.le_add_right _ _)) hm
    ·cases h1
 | [], _, h => exact (by cases ‹List (DataW H)› <;> exact h.elim)
 | _ :: _, [], h => exact h.elim
theorem law_rowF {f : FuncId} {fn : Func} {s : ChangeSpec} {apart fresh handsOn again : Bool} {tb t e : TypeId} {ts : List TypeId} {fs : Array Field} {f0 : Field} {fr : List Field} (us : List TypeId) (hts : closedT P us = true) (hl : laidOutB P = true) (hf : P.funcs[f]? = some fn) (hbody : fn.body.isNone = false) (hname : (fn.name == "runtime.NumGoroutine") = false)
  (hvars : s.vars = []) (hres : fn.resultTypes = #[tb]) (htb : P.underlying tb = some .bool) (hpt : fn.params.toList = t :: ts) (hu : P.underlying t = some (.struct fs)) (hfs : fs.toList = f0 :: fr) (h0 : f0.offset = 0) (hc0 : P.cellsOf f0.type = 1) (hu0 : P.underlying f0.type = some (.slice e))
  (hps : (fn.params.toList.all fun t => us.contains t && P.readableRec t && decide (t < P.types.size)) = true) (hsf : ∀ ds : List (DataW H), ds.length = fn.params.toList.length → s.fn H ds = { results := [.lit (.bool true)], args := ds })
  (hlaw : ∀ Ds, ArgShC P fn.params.toList Ds → (∀ sz rows tk rest Es, Ds = .ag (.sl sz rows tk :: rest) :: Es → rows.length * P.bytesOf e ≤ reachBytes) → PCall P (.func f) Ds (.bool true))
  {W : World} {base : Nat} {args : Array Value} {ds gs : List (DataW H)} {before : List MemPlace} (hval : ∀ (j : Nat) t v, fn.params[j]? = some t → args[j]? = some v → Value.okWide P W .any base t v)
  (hW : DataW.Whole enc P fn.params.toList s.vars apart W args.toList ds gs before) {vs : List TypeId} (hz : (DataW.weightsEach P (fn.params.toList ++ vs) (ds ++ gs)).all (· ≤ reachBytes) = true) :
  Calls P f args W fun e W' => ∃ v, e = .returned v ∧ s.post enc P fn apart fresh handsOn again W args v W' := by
 have hps' : ∀ t ∈ fn.params.toList, us.contains t = true ∧ P.readableRec t = true ∧ t < P.types.size := fun t ht => by
  rw [List.all_eq_true] at hps
  have := hps t ht
  simp only [Bool.and_eq_true, decide_eq_true_eq] at this
  exact ⟨this.1.1, this.1.2, this.2⟩
 have hW' := hW
 obtain ⟨p, q, hA, hV, hbe, hfz, hnd⟩ := hW
 obtain ⟨Ds, hR, hS⟩ := args_goodC hts (fun t ht => (hps' t ht).1) (fun j t v ht hv => hval j t v (by simpa using ht) (by simpa using hv)) hA
 have hlen : ds.length = fn.params.toList.length := trodAll_len hA
 have hc := hlaw Ds hS (fun sz rows tk rest Es hD => by
   rw [hpt] at hA hz
   rw [hD] at hR
   exact short_field hA hR hu hfs h0 hc0 hu0 hz) (wholeMem W) W args.toList (Conc.whole W) hR
 rcases hc with ⟨_, hc⟩ | ⟨v, w', hc, _⟩
 ·refine (callsIn_wide.1 hc).mono fun e W' ⟨M', σ', r, st, _, hr, e1, e2⟩ => ?_
  subst e1
  cases e with
  | returned v =>
   simp only [ResR, R] at hr
   subst hr
   exact ⟨_, rfl, law_post hl hvars hres htb (fun t ht => (hps' t ht).2) (hsf ds hlen) hW' st.below⟩
  | panicked l => simp [ResR] at hr
  | outgrown => simp [ResR] at hr
 ·have := callFunc_enter (w := W) hf hbody hname (List.toArray args.toList)
  rw [this] at hc
  cases hc
end
end Go.Proofs.YtinhjbnljbmbcaaGreat
