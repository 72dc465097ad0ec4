/- Own layer, part 25: scopes through which no jump goes. -/
import Derived.Test.YtgccnkihonmlbaaAo
namespace Go.Proofs.Ytgccnkihonmlbaa
open Go Go.RowKit
set_option linter.unusedSimpArgs false
set_option linter.unusedVariables false

section
variable {F : Fence} {n : Nat} {P : Program} {Q : Exit → Act → World → Prop} {a : Act} {w : World} {b : Frame} {k : List Item} {cs : List Frame}

def sansGo (Q : Exit → Act → World → Prop) : Exit → Act → World → Prop
  | .goto _, _, _ => False
  | e, a, w => Q e a w
theorem stepR_scope {c : Code} : step P (lone (b.atR a (.code (.scope c) :: k)) cs w) = .next (lone (b.atR a (.code c :: .inScope c :: k)) cs w) :=
  step_lone_go (by simp [stepG, stepG.exec, Frame.atR])
theorem stepR_inScope {c : Code} : step P (lone (b.atR a (.inScope c :: k)) cs w) = .next (lone (b.atR a k) cs w) :=
  step_lone_go (by simp [stepG, stepG.exec, Frame.atR])

theorem wpIn_scope {c : Code} (h : c.wpIn F n P (sansGo Q) a w) : (Code.scope c).wpIn F n P Q a w := by
  intro b k cs hro hb hr
  have h0 : (lone (b.atR a (.code (.scope c) :: k)) cs w).fenced P F := fenced_calm hb hr rfl
  obtain ⟨e, a₁, w₁, hq, harr⟩ := h b (.inScope c :: k) cs hro hb hr
  cases e with
  | normal => exact ⟨.normal, a₁, w₁, hq, .head h0 stepR_scope (StepsIn.trans harr (.one (fenced_calm hb hr rfl) stepR_inScope))⟩
  | exit id' =>
    have hx : exitTo id' (.inScope c :: k) = exitTo id' k := by simp [exitTo]
    exact ⟨.exit id', a₁, w₁, hq, fun k' hk => .head h0 stepR_scope (harr.1 k' (by rw [hx]; exact hk)),
      fun hr' hk => let ⟨k₁, h1, h2⟩ := harr.2 hr' (by rw [hx]; exact hk); ⟨k₁, h1, .head h0 stepR_scope h2⟩⟩
  | goto l => exact hq.elim
  | ret => exact ⟨.ret, a₁, w₁, hq, .of_steps (.one h0 stepR_scope) harr⟩
  | panic ch => exact ⟨.panic ch, a₁, w₁, hq, .of_steps (.one h0 stepR_scope) harr⟩
  | outgrown => exact ⟨.outgrown, a₁, w₁, hq, .of_steps (.one h0 stepR_scope) harr⟩
end

section
variable {P : Program} {σ : Store} {r : Option Nat} {nt : Nat}
def noGo (Q : AE → Env → Store → Prop) : AE → Env → Store → Prop
  | .goto _, _, _ => False
  | e, env, σ => Q e env σ
/-- A scope through which no jump goes. -/
theorem sc {c : Code} {env : Env} {Q : AE → Env → Store → Prop} (h : AWp P r nt c env σ (noGo Q)) : AWp P r nt (.scope c) env σ Q := by
  intro M w a B hc he hd
  refine wpIn_scope (wpIn_mono (h M w a B hc he hd) ?_)
  rintro e a' w' ⟨M2, env2, σ2, ae, h1, h2, h3, h4, h5, h6⟩
  cases e with
  | goto l => cases ae <;> simp only [AER] at h5; exact h6.elim
  | normal => cases ae <;> simp only [AER] at h5; exact ⟨M2, env2, σ2, .normal, h1, h2, h3, h4, trivial, h6⟩
  | exit i => cases ae <;> simp only [AER] at h5; exact ⟨M2, env2, σ2, .exit _, h1, h2, h3, h4, h5, h6⟩
  | ret => cases ae <;> simp only [AER] at h5; exact ⟨M2, env2, σ2, .ret, h1, h2, h3, h4, trivial, h6⟩
  | panic ch =>
    cases ae with
    | pan d => exact ⟨M2, env2, σ2, .pan d, h1, h2, h3, h4, h5, h6⟩
    | _ => cases ch <;> simp only [AER] at h5
  | outgrown => cases ae <;> simp only [AER] at h5
theorem lb {l : Nat} {env : Env} {Q : AE → Env → Store → Prop} (h : Q .normal env σ) : AWp P r nt (.label l) env σ Q :=
  fun _ _ _ _ hc he hd => wpIn_label (rgPost.here hc he hd (ae := .normal) trivial h)
end

end Go.Proofs.Ytgccnkihonmlbaa
