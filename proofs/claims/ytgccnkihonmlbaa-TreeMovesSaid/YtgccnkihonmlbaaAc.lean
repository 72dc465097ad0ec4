/- Own layer, part 12: every operation; regions of operations. -/
import Derived.Test.YtgccnkihonmlbaaAb
import Derived.OrdersIn
namespace Go.Proofs.Ytgccnkihonmlbaa
open Go Go.RowKit
set_option linter.unusedSimpArgs false
set_option linter.unusedVariables false

section
variable {P : Program} {M : Mem} {w : World} {σ : Store} {K X : D → Store → Prop}

theorem call_out (hc : Conc M w σ) {fn : Fn} {args : List D} {vs : List Value} (hv : RAll M args vs) {s : Sem Next}
    (hs1 : ∀ g, fn = .func g → s.run P w = (callFunc g (List.toArray vs)).run P w) (hs2 : ∀ l, fn = .yield l → s.run P w = (Instr.yield l (List.toArray vs)).run P w)
    (h : ACall P fn args σ fun r σ' => match r with | .ret d => K d σ' | .pan d => X d σ') : NOut P M w σ s K X := by
  have h1 := h M w vs hc hv
  cases fn with
  | func g =>
    rcases h1 with ⟨h1, h2⟩ | ⟨v, w', h1, M', σ', r, h2, h3, h4, h5⟩
    · exact .enter g _ ((hs1 g rfl).trans h1) h2
    · cases r with
      | ret d => exact .value M' w' σ' d v ((hs1 g rfl).trans h1) h2 h3 h4 h5
      | pan d => exact h4.elim
  | yield l =>
    obtain ⟨f, t, a, b, h1, h2⟩ := h1
    exact .round l f t a b ((hs2 l rfl).trans h1) h2
  | method _ => exact h1.elim
  | methodOf _ _ => exact h1.elim
  | via _ _ _ _ => exact h1.elim

theorem nev_sound (hc : Conc M w σ) {imm : Bool} {ρ : Operand → D} {e : Operand → Value} (hρ : ∀ x, R M (ρ x) (e x)) (o : Oper) (h : nev P imm σ ρ K X o.op) : NOut P M w σ (execOp e o) K X := by
  obtain ⟨dst, op, ty, pos, after, guard⟩ := o
  cases op <;> try exact h.elim
  case alloc T =>
    simp only [nev] at h
    split at h
    · rename_i cs hz
      obtain ⟨z, h1, h2, h3⟩ := run_zero (P := P) (M := M) (w := w) hz
      refine new_out hc h2 h3 ?_ h (T := T)
      simp only [execOp, Instr.alloc, Sem.run_bind, h1, Result.andThen_ok, newVar_run, Sem.run_pure]
    · exact h.elim
  case box T x =>
    obtain ⟨⟨h1, h2⟩, h⟩ := h
    refine new_out (v := e x) (T := T) hc (R_cells (hρ x) h1) h2 ?_ h
    simp only [execOp, Instr.box, Sem.run_bind, Result.andThen_ok, newVar_run, Sem.run_pure]
  case buildSlice T len parts =>
    simp only [nev] at h
    split at h
    · rename_i el g sz hT
      split at h
      · rename_i z hz
        split at h
        · rename_i cs hf
          obtain ⟨⟨h1, h2, h3, h4, _⟩, h⟩ := h
          refine buildSlice_out (parts := parts.toList.map fun p => (p.1, e p.2)) hc hT hz hf h1 h2 h3 h4 (by simp [Function.comp_def]) ?_ ?_ h
          · have := RAll_map hρ (parts.toList.map Prod.snd)
            simpa [Function.comp_def] using this
          · simp only [execOp, map_toArray]
        · exact h.elim
      · exact h.elim
    · exact h.elim
  case store T a x => exact store_out hc (hρ a) (hρ x) h rfl
  case makeMap T r =>
    cases r with
    | none => exact makeMap_out hc h
    | some _ => exact h.elim
  case mapUpdate T m k x => exact mput_out hc (hρ m) (hρ k) (hρ x) h rfl
  case insert T m k x => exact mput_out hc (hρ m) (hρ k) (hρ x) h rfl
  case range T x =>
    simp only [nev] at h
    split at h
    · rename_i s hs
      have hx := hρ x
      rw [hs] at hx
      exact range_out hc hx h.1 h.2
    · exact h.elim
  case next it isS =>
    cases isS with
    | false => exact h.elim
    | true =>
      simp only [nev] at h
      split at h
      · rename_i b hb
        have hx := hρ it
        rw [hb] at hx
        simp only [R] at hx
        split at h
        · rename_i s pos hg
          simp only [execOp, hx]
          exact next_out hc hg h.1 h.2.1 h.2.2
        · exact h.elim
      · exact h.elim
  case makeSlice T l c =>
    simp only [nev] at h
    split at h
    · rename_i n m el g sz by_ hn hm hT hB
      have hl := hρ l
      have hc' := hρ c
      rw [hn] at hl
      rw [hm] at hc'
      simp only [R] at hl hc'
      split at h
      · rename_i z hz
        obtain ⟨⟨h1, h2, h3, h4, h5, h6⟩, h⟩ := h
        obtain ⟨us, u1, u2, u3⟩ := makeSlice_run (P := P) (M := M) (w := w) hT hB hz h1 h2 h3 h4 h5 h6
        have hnl : n.toNat ≤ lim := by
          have : m * 1 ≤ m * by_ := Int.mul_le_mul_of_nonneg_left (by omega) (by omega)
          unfold capB at h3; unfold lim; omega
        have hrun : (execOp e ⟨dst, .makeSlice T l c, ty, pos, after, guard⟩).run P w = .ok (.value (.slice (some ⟨w.heap.size, 0, none⟩) n.toNat m.toNat)) (w.alloc (.cells (List.toArray us) el (0, 0))) := by
          simp only [execOp, hl.1, hc'.1]
          exact lift_value u3
        cases imm with
        | true =>
          obtain ⟨rfl, h⟩ := h
          obtain ⟨b1, b2, b3⟩ := hc.newBox (o := .cells (List.toArray us) el (0, 0)) (x := .tail sz 0 m.toNat) ⟨⟨_, el, alloc_heap_new w _, by simpa using u1, Nat.zero_le _⟩, fun o _ => hc.mem_none o⟩
          refine NOut.value _ _ _ _ _ hrun b2 b1 ?_ (h _ b3)
          simp only [R, TokR]
          exact ⟨_, _, rfl, by simp, by simp, by simp, rfl, rfl⟩
        | false =>
          obtain ⟨b1, b2, b3⟩ := hc.newBox (o := .cells (List.toArray us) el (0, 0)) (x := .arr sz (List.replicate n.toNat z) m.toNat) ⟨⟨us, el, alloc_heap_new w _, u1, by simp; omega, (by
            rw [List.length_replicate, ← zrep_flat]
            have e1 : zrep z n.toNat = (zrep z m.toNat).take (n.toNat * sz) := by
              rw [zrep_flat, zrep_flat, ← h4]
              have : m.toNat = n.toNat + (m.toNat - n.toNat) := by omega
              rw [this, ← List.replicate_append_replicate, List.flatten_append, List.take_left' (by simp)]
            rw [e1]
            exact u2.take _), fun r hr => by
              obtain ⟨_, rfl⟩ := List.mem_replicate.1 hr
              refine ⟨h4, ?_⟩
              obtain ⟨_, _, _, hz3⟩ := run_zero (P := P) (M := M) (w := w) hz
              exact hz3⟩, hc.mem_none⟩
          refine NOut.value _ _ _ _ _ hrun b2 b1 ?_ (h _ b3)
          simp only [R]
      · exact h.elim
    · exact h.elim
  case call c =>
    obtain ⟨callee, xs, ts⟩ := c
    cases callee with
    | value f =>
      simp only [nev] at h
      split at h
      · rename_i fn fs cs hf
        obtain ⟨hy, h⟩ := h
        have hx := hρ f
        rw [hf] at hx
        simp only [R] at hx
        obtain ⟨vs, us, he, hv, hu⟩ := hx
        have hargs : RAll M (fs ++ xs.toList.map ρ ++ cs) (vs ++ xs.toList.map e ++ us) := (hv.append (RAll_map hρ _)).append hu
        refine call_out hc hargs (fun g hg => ?_) (fun l hl => ?_) (h.elim (fun ⟨d, h1, h2⟩ => (h1.at σ).mono fun r σ' ⟨e1, e2⟩ => by subst e1; subst e2; exact h2) id)
        · subst hg
          simp only [execOp, resolve, he, Deferred.ofValue, Sem.run_bind, Sem.run_pure, Result.andThen_ok, invoke, map_toArray e]
          simp
        · subst hl
          obtain rfl := hy rfl
          have hu0 : us = [] := by cases us with | nil => rfl | cons _ _ => simp [RAll] at hu
          subst hu0
          simp only [execOp, resolve, he, Deferred.ofValue, Sem.run_bind, Sem.run_pure, Result.andThen_ok, invoke, map_toArray e]
          simp
      · exact h.elim
    | invoke r m => exact h.elim
    | builtin b =>
      cases b <;> try exact h.elim
      simp only [nev] at h
      split at h
      · rename_i s x hsx
        have hall := RAll_map hρ xs.toList
        rw [hsx] at hall
        cases hxe : xs.toList.map e with
        | nil => rw [hxe] at hall; simp [RAll] at hall
        | cons sv l =>
          cases l with
          | nil => rw [hxe] at hall; simp [RAll] at hall
          | cons xv l =>
            cases l with
            | cons _ _ => rw [hxe] at hall; simp [RAll] at hall
            | nil =>
              rw [hxe] at hall
              simp only [RAll, and_true] at hall
              have := show NOut P M w σ (builtin .append ts ty (xs.map fun | .const _ => true | _ => false) #[sv, xv]) K X by
                cases imm with
                | true => exact h.elim (fun h => appM_out (P := P) (X := X) hc hall.1 hall.2 h) (fun h => appZ_out (P := P) (X := X) hc hall.1 hall.2 h)
                | false => exact app_out (P := P) (X := X) hc hall.1 hall.2 h
              have er : execOp e ⟨dst, .call ⟨.builtin .append, xs, ts⟩, ty, pos, after, guard⟩ = builtin .append ts ty (xs.map fun | .const _ => true | _ => false) #[sv, xv] := by
                have e2 : xs.map e = #[sv, xv] := by rw [map_toArray, hxe]
                simp only [execOp, resolve, e2]
                rfl
              rw [er]
              exact this
      · exact h.elim
  case panic x =>
    simp only [nev] at h
    split at h
    · rename_i t d hx
      have hr := hρ x
      rw [hx] at hr
      have hr' := hr
      simp only [R] at hr'
      obtain ⟨u, he, hu⟩ := hr'
      refine NOut.pan M w σ _ (e x) ?_ (Step.refl _ _ _) hc hr h
      simp only [execOp, he, Instr.panic, Sem.run_bind, run_goPanic, Result.andThen_halt]
    · exact h.elim

/-- What is done, said of the machine's operation. -/
theorem wpIn_of_out {r : Option Nat} {o : Oper} {a : Act} {nx : Act → World → Prop} {Q : Exit → Act → World → Prop} (hd : ∀ c, o.op ≠ .defer c) (h : NOut P M w σ (execOp a.eval o) K X)
    (hK : ∀ M' w' σ' d v, Step M w σ M' w' σ' → Conc M' w' σ' → R M' d v → K d σ' → nx (a.put o.dst v) w')
    (hX : ∀ M' w' σ' d v, Step M w σ M' w' σ' → Conc M' w' σ' → R M' d v → X d σ' → Q (.panic [{ v, recovered := false }]) a w') : o.wpIn (WF r) 0 P a w nx Q := by
  have post : ∀ (e : Ending) (w' : World), (∃ M' σ' r, Step M w σ M' w' σ' ∧ Conc M' w' σ' ∧ ResR M' r e ∧ (match r with | .ret d => K d σ' | .pan d => X d σ')) →
      (match (motive := Ending → World → Prop) e, w' with
      | .returned v, w'' => nx (a.put o.dst v) w''
      | .panicked chain, w'' => Q (.panic chain) a w''
      | .outgrown, _ => LetsOut Q) := by
    rintro e w' ⟨M', σ', r, h1, h2, h3, h4⟩
    cases r with
    | ret d =>
      cases e with
      | returned v => exact hK M' w' σ' d v h1 h2 h3 h4
      | panicked c => exact h3.elim
      | outgrown => exact h3.elim
    | pan d =>
      cases e with
      | returned v => exact h3.elim
      | outgrown => exact h3.elim
      | panicked c =>
        cases c with
        | nil => exact h3.elim
        | cons c cs =>
          cases cs with
          | cons _ _ => exact h3.elim
          | nil =>
            obtain ⟨v, rfl, h3⟩ := h3
            exact hX M' w' σ' d v h1 h2 h3 h4
  refine ⟨fun _ _ => trivial, ?_⟩
  rw [Oper.semAt_eq _ _ _ hd]
  cases h with
  | value M' w' σ' d v h st c r k => rw [h]; exact hK M' w' σ' d v st c r k
  | skip M' w' σ' h st c k => rw [h]; exact hK M' w' σ' _ undef st c (by simp only [R]) k
  | pan M' w' σ' d v h st c r k => rw [h]; exact hX M' w' σ' d v st c r k
  | enter g args h hc =>
    rw [h]
    exact ⟨fun hh => by simp [Fence.wide] at hh, hc.mono post⟩
  | round l f tmps assign body h hc =>
    rw [h]
    exact ⟨fun hh => by simp [Fence.wide] at hh, hc.mono post⟩

end

end Go.Proofs.Ytgccnkihonmlbaa
