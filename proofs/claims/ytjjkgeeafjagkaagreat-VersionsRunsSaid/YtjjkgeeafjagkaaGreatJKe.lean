/- After a range over a map the map is one again. -/
import Derived.Test.YtjjkgeeafjagkaaGreatVd
namespace Go.Proofs.YtjjkgeeafjagkaaGreat
open Go Go.RowKit
section
variable {P : Program} {M : Mem} {σ : Store} {r : Option Nat} {nt : Nat}
theorem EntsR.of_getD : ∀ {es : List (D × D)} {ms : List MapEntry}, es.length = ms.length → (∀ i, i < es.length → R M (es.map Prod.fst)[i]! (ms.map (·.key))[i]! ∧ R M (es.map Prod.snd)[i]! (ms.map (·.val))[i]!) → EntsR M es ms
  | [], [], _, _ => trivial
  | e :: es, m :: ms, hl, h => by
    refine ⟨?_, EntsR.of_getD (by simpa using hl) fun i hi => ?_⟩
    · have := h 0 (by simp)
      exact ⟨by simpa using this.1, by simpa using this.2⟩
    · have := h (i + 1) (by simpa using hi)
      simpa using this
  | [], _ :: _, h, _ => by simp at h
  | _ :: _, [], h, _ => by simp at h
theorem mapBack {c : Code} {env : Env} {Q : AE → Env → Store → Prop} {es : List (D × D)} (it : MIt es) (hm : σ.get it.m = some it.mb) (h : AWp P r nt c env (σ.upd it.m (.map es)) Q) : AWp P r nt c env σ Q := by
  intro M w a B hc he hd
  obtain ⟨h1, h2, h3⟩ := hc.box _ _ (Store.mem_of_get hm)
  have hl := it.len
  have ents : EntsR M es it.ms := by
    refine EntsR.of_getD hl fun i hi => ?_
    have hi2 : i < it.ms.length := by omega
    have a1 := h3 i
    have a2 := h3 (es.length + i)
    simp only [List.getD_eq_getElem?_getD, Array.getD_eq_getD_getElem?, List.getElem?_toArray] at a1 a2
    rw [List.getElem?_append_left (by simpa using hi), List.getElem?_append_left (by simpa using hi2)] at a1
    rw [List.getElem?_append_right (by simp), List.getElem?_append_right (by simp; omega)] at a2
    simp only [List.length_map] at a2
    rw [show es.length + i - es.length = i from by omega, show es.length + i - it.ms.length = i from by omega] at a2
    rw [List.getElem!_eq_getElem?_getD, List.getElem!_eq_getElem?_getD, List.getElem!_eq_getElem?_getD, List.getElem!_eq_getElem?_getD]
    simp only [List.getElem?_map, List.getElem?_eq_getElem hi, List.getElem?_eq_getElem hi2, Option.map_some, Option.getD_some] at a1 a2 ⊢
    exact ⟨a1, a2⟩
  obtain ⟨c1, s1⟩ := hc.turn (y := .map es) (Store.get_mem hm) rfl rfl rfl rfl (fun _ _ => rfl) (fun o v hv => by rw [h2 o] at hv; cases hv) ⟨⟨it.ms, it.clock, h1, ents, it.nodup, it.old⟩, h2⟩
  exact wpIn_mono (h M w a B c1 he (hd.step s1)) (rgPost.trans s1)
end
end Go.Proofs.YtjjkgeeafjagkaaGreat
