/- Contain, plain: boxes. -/
import Derived.Test.YtinhjbnljbmbcaaGreatY14
import Derived.Test.YtinhjbnljbmbcaaGreatY13
import Derived.Test.YtinhjbnljbmbcaaGreatYTe
namespace Go.Proofs.YtinhjbnljbmbcaaGreat
open Go Go.RowKit
set_option linter.unusedSimpArgs false
set_option linter.unusedVariables false
set_option maxRecDepth 100000
section
variable {d : Do} {w s lg : Int}
theorem box_bad {i : Nat} (hd : docB d = true) (hr : rdB w s lg = true) (hi : i < d.nodes.length) (h : (boxC d (nat d.nodes i).id w s lg).2.2.2 ≠ 0) : boxC d (nat d.nodes i).id w s lg = (0, 0, false, 3) := by
 rcases fnd_all hd hr i hi with ⟨h2, hg⟩ | h3
 ·exfalso
  unfold boxC at h
  split at h
  ·exact h h2
  ·exact h rfl
 ·unfold boxC
  rw [h3]
  exact if_pos (.inl (by simp))
theorem box_ok {i : Nat} (hd : docB d = true) (hr : rdB w s lg = true) (hi : i < d.nodes.length) (h : (boxC d (nat d.nodes i).id w s lg).2.2.2 = 0) : (fndR d (nat d.nodes i).id w s lg).2 = 0 := by
 rcases fnd_all hd hr i hi with ⟨h2, hg⟩ | h3
 ·exact h2
 ·exfalso
  have : boxC d (nat d.nodes i).id w s lg = (0, 0, false, 3) := by
   unfold boxC
   rw [h3]
   exact if_pos (.inl (by simp))
  rw [this] at h; simp at h
/-- The box of a node that is reached. -/
theorem box_val {x : Int} (h2 : (fndR d x w s lg).2 = 0) : (boxC d x w s lg).2.2.1 = decide ((fndR d x w s lg).1.box ≠ 0) ∧ ((fndR d x w s lg).1.box ≠ 0 → (boxC d x w s lg).1 = (fndR d x w s lg).1.box ∧ (boxC d x w s lg).2.1 = (fndR d x w s lg).1.wide) := by
 unfold boxC
 by_cases hb : (fndR d x w s lg).1.box = 0
 ·rw [if_pos (.inr hb)]
  exact ⟨by simp [hb], fun h => absurd hb h⟩
 ·rw [if_neg (fun h => h.elim (fun h => h h2) hb)]
  exact ⟨by simp [hb], fun _ => ⟨rfl, rfl⟩⟩
theorem reach_cur (hd : docB d = true) (hr : rdB w s lg = true) {i : Nat} (hi : i < d.nodes.length) (h2 : (fndR d (nat d.nodes i).id w s lg).2 = 0) : ∀ m, m ≤ (chn d.nodes i).length → (fndR d (nat d.nodes (cur d.nodes i m)).id w s lg).2 = 0
 | 0, _ => h2
 | m + 1, hm => by
  have ih := reach_cur hd hr hi h2 m (by omega)
  have hc := cur_pix (l := d.nodes) (i := i) (j := m) (by omega)
  have e : pix d.nodes (cur d.nodes i m) = cur d.nodes i (m + 1) := cur_step (by omega)
  have hu := (up_ok hd hr (i := cur d.nodes i m) (by omega) (by rw [e]; omega) ih).1
  rw [e, Int.toNat_natCast] at hu
  exact hu
/-- One step upwards. -/
theorem cur_up (hd : docB d = true) (hr : rdB w s lg = true) {i m c : Nat} (hi : i < d.nodes.length) (h2 : (fndR d (nat d.nodes i).id w s lg).2 = 0) (hc : (chn d.nodes i)[m]? = some c) :
  cur d.nodes i (m + 1) = c ∧ (fndR d (nat d.nodes c).id w s lg).2 = 0 ∧ (fndR d (nat d.nodes c).id w s lg).1.e = 0 ∧ NG d w s lg c ∧ fndR d (nat d.nodes (cur d.nodes i m)).id w s lg = (plStep d w s lg (plNext (fndR d (nat d.nodes c).id w s lg).1) (nat d.nodes (cur d.nodes i m)).id, 0) := by
 have hm := (List.getElem?_eq_some_iff.1 hc).1
 have hcu := cur_succ hc
 have e : pix d.nodes (cur d.nodes i m) = c := by rw [cur_step hm, hcu]
 have hle := (cur_pix (l := d.nodes) (i := i) (j := m) (by omega)).2
 have hu := up_ok hd hr (i := cur d.nodes i m) (by omega) (by rw [e]; omega) (reach_cur hd hr hi h2 m (by omega))
 rw [e, Int.toNat_natCast] at hu
 exact ⟨hcu, hu⟩
theorem next_box {p : Pl} (h : ¬ (p.own = true ∧ iat p.st 21 = 1)) : (plNext p).box = p.box ∧ (plNext p).wide = p.wide := by
 unfold plNext
 by_cases ho : p.own = true
 ·rw [if_pos ho, if_neg (fun hc => h ⟨ho, hc⟩)]
  exact ⟨rfl, rfl⟩
 ·rw [if_neg ho]
  exact ⟨rfl, rfl⟩
theorem next_own {p : Pl} (h1 : p.own = true) (h2 : iat p.st 21 = 1) : (plNext p).box = p.id ∧ (plNext p).wide = innV p.st p.room := by
 unfold plNext
 rw [if_pos h1, if_pos h2]
 exact ⟨rfl, rfl⟩
theorem parH_any : ∀ (i : Nat), parH d w s lg i = (chn d.nodes i).any (hideB d w s lg) := by
 intro i
 induction i using Nat.strongRecOn with
 | _ i ih =>
  unfold parH
  rw [chn_eq]
  by_cases hp : 0 ≤ pix d.nodes i
  ·rw [if_pos hp, if_pos hp, hidB_eq, List.any_cons, ih _ (pix_lt' hp)]
   cases (chn d.nodes (pix d.nodes i).toNat).any (hideB d w s lg) <;> cases hideB d w s lg (pix d.nodes i).toNat <;> rfl
  ·rw [if_neg hp, if_neg hp]; rfl
theorem chk_all (h : chkC d w s lg = 0) (hd : docB d = true) (hr : rdB w s lg = true) {i : Nat} (hi : i < d.nodes.length) : ckN d w s lg i = 0 := by
 unfold chkC at h
 rw [if_pos ⟨hd, hr⟩] at h
 have key : ∀ (is : List Nat), ckL d w s lg is = 0 → ∀ j ∈ is, ckN d w s lg j = 0 := by
  intro is
  induction is with
  | nil => intro _ j hj; simp at hj
  | cons a is ih =>
   intro h j hj
   rw [ckL] at h
   by_cases h0 : ckN d w s lg a = 0
   ·rw [if_neg (fun hn => hn h0)] at h
    rcases List.mem_cons.1 hj with rfl | hj
    ·exact h0
    ·exact ih h j hj
   ·rw [if_pos h0] at h; exact absurd h h0
 exact key _ h i (List.mem_range.2 hi)
theorem box_fin (hd : docB d = true) (hr : rdB w s lg = true) {i : Nat} (hi : i < d.nodes.length) (h2 : (fndR d (nat d.nodes i).id w s lg).2 = 0) (hc : chkC d w s lg = 0) (hp : (chn d.nodes i).any (hideB d w s lg) = false) :
  styC d (nat d.nodes i).id w s lg = ((fndR d (nat d.nodes i).id w s lg).1.st, 0) ∧ (iat (fndR d (nat d.nodes i).id w s lg).1.st 24 = 1 ∨ iat (fndR d (nat d.nodes i).id w s lg).1.st 21 = 0 ∨ (innC d (nat d.nodes i).id w s lg).2 = 0) := by
 have h0 := chk_all hc hd hr hi
 unfold ckN at h0
 rw [parH_any, hp, if_neg (by simp), if_neg (fun h => h h2)] at h0
 have he : (fndR d (nat d.nodes i).id w s lg).1.e = 0 := by
  by_cases he : (fndR d (nat d.nodes i).id w s lg).1.e = 0
  ·exact he
  ·rw [if_pos he] at h0; exact absurd h0 he
 rw [if_neg (fun h => h he)] at h0
 refine ⟨by rw [styC_of hd hr hi h2, he], ?_⟩
 by_cases h24 : iat (fndR d (nat d.nodes i).id w s lg).1.st 24 = 1
 ·exact .inl h24
 ·by_cases h21 : iat (fndR d (nat d.nodes i).id w s lg).1.st 21 = 0
  ·exact .inr (.inl h21)
  ·right; right
   rcases fnd_all hd hr i hi with ⟨_, hg⟩ | h3
   ·have hpb := (fnd_ok h2).2.2.2.1 he
    have h211 : iat (fndR d (nat d.nodes i).id w s lg).1.st 21 = 1 := by
     have := parB_iff.1 hpb 21 (by decide)
     have e : cutV 21 (iat (fndR d (nat d.nodes i).id w s lg).1.st 21) = if iat (fndR d (nat d.nodes i).id w s lg).1.st 21 = 0 then 0 else 1 := rfl
     rw [e, if_neg h21] at this
     exact this.symm
    cases ho : (fndR d (nat d.nodes i).id w s lg).1.own with
    | false =>
     rw [if_pos ⟨decide_eq_false h24, h211, ho⟩] at h0
     exact absurd h0 (by decide)
    | true => rw [innC_of hd hr hi (hg.own.symm.trans ho) h2 he]
   ·rw [h3] at h2; simp at h2
theorem take_any {l : List Nat} {f : Nat → Bool} {m c : Nat} (h : l[m]? = some c) : (l.take (m + 1)).any f = ((l.take m).any f || f c) := by
 rw [List.take_add_one, h]; simp
theorem cur_end {l : List Nd} (hT : Tree l) {i : Nat} (hi : i < l.length) : cur l i (chn l i).length = 0 := cur_last hT hi
theorem root_box (hd : docB d = true) (hr : rdB w s lg = true) : (fndR d (nat d.nodes 0).id w s lg).1.box = 0 := by
 have hT := treB_true.1 (docB_tre hd).1
 rw [fnd_root hd hr (by have := hT.len; omega) (by have := pix_lt d.nodes 0; omega)]; rfl
end
end Go.Proofs.YtinhjbnljbmbcaaGreat
