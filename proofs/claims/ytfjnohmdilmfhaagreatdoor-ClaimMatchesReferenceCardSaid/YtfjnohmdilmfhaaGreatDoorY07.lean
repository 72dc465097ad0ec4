/- Claim: a group of the parser. Printed by a tool of our own. -/
import Derived.Test.YtfjnohmdilmfhaaGreatDoorY06
import Derived.Test.YtfjnohmdilmfhaaGreatDoorY03
import Derived.RecoverIn
import Derived.Test.YtfjnohmdilmfhaaGreatDoorProg
import Derived.Tactics
import Derived.Tactics2
import Derived.TacticsInMore
import Derived.RegionIn
import Derived.Laws.Pointers
namespace Go.Proofs.YtfjnohmdilmfhaaGreatDoor
open Go Go.RowKit
set_option linter.unusedSimpArgs false
set_option linter.unusedVariables false
set_option maxHeartbeats 4000000
set_option maxRecDepth 100000
attribute [local go_sem] List.length_map rowAt_n nrow rowAt_t trow rowAt_i irow
attribute [local go_sem] rowAt_c rowAt_sn rowAt_bx snrow bxrow
attribute [local go_sem] rowAt_s srow rwz List.append_eq
theorem gr_s (b f : Nat) (hC : ∀ g, g < f + 1 → ∀ ws : List W, 2 * ws.length + 2 ≤ g → nbW ws → ACall Tryz.prog (.func 32) [.ptr b 0] [(b, .cells [.sl 1 (ws.map srow) .no])] (PQ b (omp CF (pcl g ws)))) (ws : List W) (hl : 2 * ws.length + 3 ≤ f + 1) (hnb : nbW ws) : ACall Tryz.prog (.func 66) [.ptr b 0] [(b, .cells [.sl 1 (ws.map srow) .no])] (PQ b (omp CF (pgp (f + 1) ws))) := by
 refine ACall.leQ ?_
 refine fn_ Tryz.func66 (by rfl) (by rfl) (rs := [.cell 2 25]) (by rfl) (by simp [Tryz.f66]) ?_
 refine sr_ [0, 2] [] [] fun κ ξ hκ hξ => ?_
 try simp +decide only [go_sem]
 repeat with_reducible refine an_ ?_
 intro b2 hb2
 try simp +decide only [go_sem, hb2]
 repeat with_reducible refine an_ ?_
 refine hκ _ _ ?_; clear hκ hξ ξ κ
 refine sr_ [0, 2, 3] [] [] fun κ ξ hκ hξ => ?_
 try simp +decide only [go_sem, hb2]
 repeat with_reducible refine an_ ?_
 refine callPm2 [(b2, _)] [] CF (hC f (Nat.lt_succ_self f) ws (by omega) hnb) ?_ (fun hn ws' => hξ _ _ ⟨_, (List.sublist_cons_self _ _), ws', rfl, .inr ⟨(by rw [pgp, hn]; rfl), rfl⟩⟩)
 rintro c r hc
 obtain ⟨hcl, p, hp⟩ := pcl_lt f hc
 have hnr : nbW r := by rw [hp] at hnb; exact hnb.suf
 try simp only [CF, List.cons_append, List.nil_append]
 try simp +decide only [go_sem, hb2]
 repeat with_reducible refine an_ ?_
 intro b3 hb3
 try simp +decide only [go_sem, hb2, hb3]
 repeat with_reducible refine an_ ?_
 refine hκ _ _ ?_; clear hκ hξ ξ κ
 refine sr_ [0, 2, 3, 4] [] [] fun κ ξ hκ hξ => ?_
 try simp +decide only [go_sem, hb2, hb3]
 repeat with_reducible refine an_ ?_
 refine callPm2 [(b3, _), (b2, _)] [] .str (nx_w b r) ?_ (fun hn ws' => hξ _ _ ⟨_, ((List.Sublist.refl _).cons _).cons _, ws', rfl, .inr ⟨(by cases r with | nil => rw [pgp, hc]; rfl | cons w r => cases hn), rfl⟩⟩)
 rintro j r1 hw
 obtain rfl : r = j :: r1 := by
  cases r with
  | nil => cases hw
  | cons x y => cases hw; rfl
 have hn1 := hnr.tl
 simp only [List.length_cons] at hcl
 try simp only [CF, List.cons_append, List.nil_append]
 try simp +decide only [go_sem, hb2, hb3]
 repeat with_reducible refine an_ ?_
 refine hκ _ _ ?_; clear hκ hξ ξ κ
 refine jn (α := Int) (fun _ => mk [(0, .ptr b 0), (2, .ptr b2 0), (3, .ptr b3 0), (4, .str j)]) (fun q => [(b3, .cells [.int .i64 q, .int .i64 0, .int .i64 0, .int .i64 0, .sl 5 [[.int .i64 c.op, .int .i64 c.a, .int .i64 c.b, .int .i64 c.n, .sl 5 (c.kids.map crow) .no]] .full]), (b2, .cells [.int .i64 0, .int .i64 0, .int .i64 0, .int .i64 0, .sl 0 [] .nil]), (b, .cells [.sl 1 (r1.map srow) .no])]) (fun q => q = (if j = kAnd then (6 : Int) else 7) ∧ (j = kAnd ∨ j = kOr)) ?_ ?_
 ·refine sr_ [0, 2, 3, 4, 12] [] [] fun κ ξ hκ hξ => ?_
  try simp +decide only [go_sem, hb2, hb3]
  repeat with_reducible refine an_ ?_
  refine hκ _ _ ?_; clear hκ hξ ξ κ
  refine bl ?_
  refine sr_ [0, 2, 3, 4, 12, 15] [] [] fun κ ξ hκ hξ => ?_
  try simp +decide only [go_sem, hb2, hb3]
  repeat with_reducible refine an_ ?_
  refine hκ _ _ ?_; clear hκ hξ ξ κ
  refine cd_ (fun c0 => ?_) (fun c0 => ?_)
  ·simp only [go_sem] at c0
   have k0 : j = kAnd := c0
   replace c0 : True := trivial
   refine rr_ [0, 2, 3, 4] [] [] fun κ ξ hκ hξ => ?_
   try simp +decide only [go_sem, hb2, hb3, c0]
   repeat with_reducible refine an_ ?_
   refine hκ _ _ ?_; clear hκ hξ ξ κ
   exact ⟨6, ⟨by rw [if_pos (show j = kAnd from k0)], .inl k0⟩, EnvLe.of_l ⟨rfl, rfl, rfl, rfl, trivial⟩, .refl _⟩
  ·simp only [go_sem, decide_eq_false_iff_not] at c0
   refine sr_ [0, 2, 3, 4, 18] [] [] fun κ ξ hκ hξ => ?_
   try simp +decide only [go_sem, hb2, hb3, c0]
   repeat with_reducible refine an_ ?_
   refine hκ _ _ ?_; clear hκ hξ ξ κ
   refine cd_ (fun c1 => ?_) (fun c1 => ?_)
   ·simp only [go_sem] at c1
    have k1 : j = kOr := c1
    replace c1 : True := trivial
    refine rr_ [0, 2, 3, 4] [] [] fun κ ξ hκ hξ => ?_
    try simp +decide only [go_sem, hb2, hb3, c0, c1]
    repeat with_reducible refine an_ ?_
    refine hκ _ _ ?_; clear hκ hξ ξ κ
    exact ⟨7, ⟨by rw [if_neg (show ¬ j = kAnd from c0)], .inr k1⟩, EnvLe.of_l ⟨rfl, rfl, rfl, rfl, trivial⟩, .refl _⟩
   ·simp only [go_sem, decide_eq_false_iff_not] at c1
    refine rr_ [] [] [] fun κ ξ hκ hξ => ?_
    try simp +decide only [go_sem, hb2, hb3, c0, c1]
    repeat with_reducible refine an_ ?_
    refine hξ _ _ ?_
    exact ⟨_, ((List.Sublist.refl _).cons _).cons _, r1, rfl, .inr ⟨by rw [pgp, hc]; simp only; rw [if_neg (show ¬ (j = kAnd ∨ j = kOr) from fun h => h.elim c0 c1)]; rfl, rfl⟩⟩
 ·rintro _ ⟨rfl, jok⟩
  refine sq ?_
  refine sr_ [0, 2, 3, 4, 5] [] [] fun κ ξ hκ hξ => ?_
  try simp +decide only [go_sem, hb2, hb3]
  repeat with_reducible refine an_ ?_
  refine hκ _ _ ?_; clear hκ hξ ξ κ
  refine bl ?_
  refine lpp (α := Nat × List Cl × W × List W × Option (Nat × Nat)) (fun y => mk [(0, .ptr b 0), (2, .ptr b2 0), (3, .ptr b3 0), (4, .str j), (5, .str y.2.2.1)]) (fun y => (b3, .cells [.int .i64 (if j = kAnd then 6 else 7), .int .i64 0, .int .i64 0, .int .i64 0, kD (y.2.1.map crow) y.2.2.2.2]) :: (b2, .cells [.int .i64 0, .int .i64 0, .int .i64 0, .int .i64 0, .sl 0 [] .nil]) :: (b, .cells [.sl 1 (y.2.2.2.1.map srow) .no]) :: kS y.2.1.length y.2.2.2.2) (fun y => pgr f j [c] (j :: r1) = pgr y.1 j y.2.1 (y.2.2.1 :: y.2.2.2.1) ∧ 2 * y.2.2.2.1.length + 3 ≤ y.1 ∧ y.1 ≤ f ∧ nbW y.2.2.2.1 ∧ y.2.1.length ≤ 10 ∧ ∀ b' c', y.2.2.2.2 = some (b', c') → b' ≠ b3 ∧ b' ≠ b2 ∧ b' ≠ b) (fun y => y.1) (f, [c], j, r1, none) ⟨⟨rfl, by simp only; omega, Nat.le_refl _, hn1, by simp, fun _ _ h => by cases h⟩, EnvLe.of_eq rfl, by simp only [kD, kS, List.map_cons, List.map_nil, crow_eq]; exact .refl _⟩ ?_
  rintro ⟨g, ks, w3, r3, o⟩ ⟨hpg, hfl, hgf, hn3, hk10, hbo⟩
  simp only at hpg hfl hgf hn3 hk10 hbo ⊢
  obtain ⟨g, rfl⟩ : ∃ g', g = g' + 1 := ⟨g - 1, by omega⟩
  refine sq ?_
  refine sr_ [0, 2, 3, 4, 5, 23] [] [] fun κ ξ hκ hξ => ?_
  try simp +decide only [go_sem, hb2, hb3]
  repeat with_reducible refine an_ ?_
  refine hκ _ _ ?_; clear hκ hξ ξ κ
  refine cd_ (fun c2 => ?_) (fun c2 => ?_)
  ·simp only [go_sem] at c2
   refine sk ?_
   refine sq ?_
   refine bl ?_
   refine sq ?_
   refine sq ?_
   rcases o with _ | ⟨bt, ct⟩
   ·have hbt3 : True := trivial; have hbt2 : True := trivial; have hbt : True := trivial; have hbk : True := trivial
    change AWp _ _ _ _ _ _ _
    refine weak (mk [(0, .ptr b 0), (2, .ptr b2 0), (3, .ptr b3 0), (4, .str j), (5, .str w3)]) (EnvLe.of_l ⟨rfl, rfl, rfl, rfl, rfl, trivial⟩) (σ' := [(b3, .cells [.int .i64 (if j = kAnd then 6 else 7), .int .i64 0, .int .i64 0, .int .i64 0, .sl 5 (ks.map crow) .full]), (b2, .cells [.int .i64 0, .int .i64 0, .int .i64 0, .int .i64 0, .sl 0 [] .nil]), (b, .cells [.sl 1 (r3.map srow) .no])]) (.refl _) ?_
    refine rr_ [0, 2, 3, 4, 34] [] [(3, 29)] fun κ ξ hκ hξ => ?_
    try simp +decide only [go_sem, hb2, hb3, c2]
    repeat with_reducible refine an_ ?_
    refine hκ _ _ ?_; clear hκ hξ ξ κ
    refine cd_ (fun c3 => ?_) (fun c3 => ?_)
    ·simp only [go_sem] at c3
     have hd2 : w3 ≠ j ∨ ks.length = 10 := by
      rcases c3 with h | h
      ·exact .inl h
      ·exact .inr (by omega)
     refine rr_ [] [] [] fun κ ξ hκ hξ => ?_
     try simp +decide only [go_sem, hb2, hb3, c2, c3]
     repeat with_reducible refine an_ ?_
     refine hξ _ _ ?_
     exact ⟨_, (by first | exact ((List.Sublist.refl _).cons _).cons _ | exact (List.Sublist.cons _ (List.Sublist.cons _ (List.Sublist.cons_cons _ (List.nil_sublist _))))), r3, rfl, .inr ⟨by rw [pgp, hc]; simp only [if_pos jok]; rw [hpg, pgr, if_neg c2, if_pos hd2]; rfl, rfl⟩⟩
    ·simp only [go_sem] at c3
     have hd2 : ¬ (w3 ≠ j ∨ ks.length = 10) := by
      rintro (h | h)
      ·exact h c3.1
      ·exact c3.2 (by omega)
     replace c3 : True := trivial
     refine sk ?_
     change AWp _ _ _ _ _ _ _
     refine rgt2 [0, 2, 3, 4] [] [42, 1000040] [] [0, 2] (.br 1 [3, 4, 5, 6, 7] .fin 3 [1, 4, 5, 6, 7] .fin) (by kernel_rfl) (by kernel_rfl) (Pk.cons rfl (Pk.cons rfl (Pk.nil))) ?_; intro κ ξ hκ hξ
     try simp +decide only [go_sem, hb2, hb3, c2, c3, hbt3, hbt2, hbt, hbk]
     repeat with_reducible refine an_ ?_
     refine SET_br (Pk.cons rfl (Pk.cons rfl (Pk.cons rfl (Pk.cons rfl (Pk.cons rfl (Pk.cons rfl (Pk.nil))))))) (Pk.cons rfl (Pk.cons rfl (Pk.cons rfl (Pk.cons rfl (Pk.cons rfl (Pk.cons rfl (Pk.nil))))))) ?_ ?_
     ·try simp +decide only [go_sem, hb2, hb3, c2, c3, hbt3, hbt2, hbt, hbk]
      repeat with_reducible refine an_ ?_
      first | refine callPm2 [(b3, _), (b2, _)] [] CF (hC g (by omega) r3 (by omega) hn3) ?_ (fun hn ws' => hξ _ _ ⟨_, ((List.Sublist.refl _).cons _).cons _, ws', rfl, .inr ⟨(by rw [pgp, hc]; simp only [if_pos jok]; rw [hpg, pgr, if_neg c2, if_neg hd2, hn]; rfl), rfl⟩⟩) | refine callPm2 [(b3, _), (b2, _)] [(bt, _)] CF (hC g (by omega) r3 (by omega) hn3) ?_ (fun hn ws' => hξ _ _ ⟨_, (List.Sublist.cons _ (List.Sublist.cons _ (List.Sublist.cons_cons _ (List.nil_sublist _)))), ws', rfl, .inr ⟨(by rw [pgp, hc]; simp only [if_pos jok]; rw [hpg, pgr, if_neg c2, if_neg hd2, hn]; rfl), rfl⟩⟩)
      rintro y4 r4 hy
      obtain ⟨hcl4, p4, hp4⟩ := pcl_lt g hy
      have hn4 : nbW r4 := by rw [hp4] at hn3; exact hn3.suf
      try simp only [CF, List.cons_append, List.nil_append]
      try simp +decide only [go_sem, hb2, hb3, c2, c3, hbt3, hbt2, hbt, hbk]
      repeat with_reducible refine an_ ?_
      first | refine napp_fullT (n := ks.length) (List.length_map ..) rfl rfl (by simp +decide only [go_sem, Option.isSome_some]) tf116 tf117 tf129 (by refine ⟨⟨rfl, by decide, by decide⟩, by simp +decide only [go_sem], ?_⟩; simp [capB]; omega) (fun h => by cases h) ?_ | refine napp_ownT (n := ks.length) (List.length_map ..) rfl rfl (by simp +decide only [go_sem, Option.isSome_some]) tf116 tf117 tf129 (by refine ⟨⟨rfl, by decide, by decide⟩, by simp +decide only [go_sem], ?_⟩; simp [capB]; omega) (by simp [Store.get, hbt3, hbt2, hbt]) ?_
      intro b42 c42 hb42
      have hb43 : b42 ≠ b3 ∧ b42 ≠ b2 ∧ b42 ≠ b := by
       first | (rcases hb42 with rfl | hb42; · exact ⟨hbt3, hbt2, hbt⟩) | skip
       simp only [Store.keys, List.map_cons, List.map_nil, List.mem_cons, List.not_mem_nil, or_false, not_or] at hb42
       exact ⟨hb42.1, hb42.2.1, by first | exact hb42.2.2 | exact hb42.2.2.1⟩
      have hb44 := Ne.symm hb43.1
      have hb45 := Ne.symm hb43.2.1
      have hb46 := Ne.symm hb43.2.2
      try simp only [Store.ren, hbt3, hbt2, hbt, if_false, if_true]
      try simp +decide only [go_sem, hb2, hb3, c2, c3, hb43, hb44, hb45, hb46, hbk]
      repeat with_reducible refine an_ ?_
      refine SET_fin ?_
      try simp +decide only [go_sem, hb2, hb3, c2, c3, hb43, hb44, hb45, hb46, hbk]
      repeat with_reducible refine an_ ?_
      refine hκ _ _ ?_; clear hκ hξ ξ κ
      refine weakP (mk [(0, .ptr b 0), (2, .ptr b2 0), (3, .ptr b3 0), (4, .str j)]) (EnvLe.of_l ⟨rfl, rfl, rfl, rfl, trivial⟩) (σ' := [(b3, .cells [.int .i64 (if j = kAnd then 6 else 7), .int .i64 0, .int .i64 0, .int .i64 0, .sl 5 (ks.map crow ++ [[.int .i64 y4.op, .int .i64 y4.a, .int .i64 y4.b, .int .i64 y4.n, .sl 5 (y4.kids.map crow) .no]]) (.own b42 c42)]), (b2, .cells [.int .i64 0, .int .i64 0, .int .i64 0, .int .i64 0, .sl 0 [] .nil]), (b, .cells [.sl 1 (r4.map srow) .no]), (b42, .tail 5 (ks.length + 1) c42)]) (by first | exact .refl _ | exact (List.perm_append_singleton _ _).symm) ?_
      refine rr_ [0, 2, 3, 4, 5] [] [] fun κ ξ hκ hξ => ?_
      try simp +decide only [go_sem, hb2, hb3, c2, c3]
      repeat with_reducible refine an_ ?_
      refine callPm2 [(b3, _), (b2, _)] [(b42, _)] .str (nx_w b r4) ?_ (fun hn ws' => hξ _ _ ⟨_, (List.Sublist.cons _ (List.Sublist.cons _ (List.Sublist.cons_cons _ (List.nil_sublist _)))), ws', rfl, .inr ⟨(by cases r4 with | nil => rw [pgp, hc]; simp only [if_pos jok]; rw [hpg, pgr, if_neg c2, if_neg hd2, hy]; cases g <;> rfl | cons w r => cases hn), rfl⟩⟩)
      rintro w5 r5 hw5
      obtain rfl : r4 = w5 :: r5 := by
       cases r4 with
       | nil => cases hw5
       | cons x y => cases hw5; rfl
      have hn5 := hn4.tl
      simp only [List.length_cons] at hcl4
      try simp only [CF, List.cons_append, List.nil_append]
      try simp +decide only [go_sem, hb2, hb3, c2, c3]
      repeat with_reducible refine an_ ?_
      refine hκ _ _ ?_; clear hκ hξ ξ κ
      refine ⟨(g, ks ++ [y4], w5, r5, some (b42, c42)), ⟨⟨?_, by simp only; omega, by simp only; omega, hn5, ?_, ?_⟩, by simp only; omega⟩, EnvLe.of_l ⟨rfl, rfl, rfl, rfl, rfl, trivial⟩, ?_⟩
      ·rw [hpg, pgr, if_neg c2, if_neg hd2, hy]
      ·simp only [List.length_append, List.length_singleton]; have : ks.length ≠ 10 := fun h => hd2 (.inr h); omega
      ·intro b' c' h; cases h; exact hb43
      ·simp only [kD, kS, List.map_append, List.map_cons, List.map_nil, crow_eq, List.length_append, List.length_singleton]; exact .refl _
     ·try simp +decide only [go_sem, hb2, hb3, c2, c3, hbt3, hbt2, hbt, hbk]
      repeat with_reducible refine an_ ?_
      first | refine callPm2 [(b3, _), (b2, _)] [] CF (hC g (by omega) r3 (by omega) hn3) ?_ (fun hn ws' => hξ _ _ ⟨_, ((List.Sublist.refl _).cons _).cons _, ws', rfl, .inr ⟨(by rw [pgp, hc]; simp only [if_pos jok]; rw [hpg, pgr, if_neg c2, if_neg hd2, hn]; rfl), rfl⟩⟩) | refine callPm2 [(b3, _), (b2, _)] [(bt, _)] CF (hC g (by omega) r3 (by omega) hn3) ?_ (fun hn ws' => hξ _ _ ⟨_, (List.Sublist.cons _ (List.Sublist.cons _ (List.Sublist.cons_cons _ (List.nil_sublist _)))), ws', rfl, .inr ⟨(by rw [pgp, hc]; simp only [if_pos jok]; rw [hpg, pgr, if_neg c2, if_neg hd2, hn]; rfl), rfl⟩⟩)
      rintro y4 r4 hy
      obtain ⟨hcl4, p4, hp4⟩ := pcl_lt g hy
      have hn4 : nbW r4 := by rw [hp4] at hn3; exact hn3.suf
      try simp only [CF, List.cons_append, List.nil_append]
      try simp +decide only [go_sem, hb2, hb3, c2, c3, hbt3, hbt2, hbt, hbk]
      repeat with_reducible refine an_ ?_
      first | refine napp_fullT (n := ks.length) (List.length_map ..) rfl rfl (by simp +decide only [go_sem, Option.isSome_some]) tf116 tf117 tf129 (by refine ⟨⟨rfl, by decide, by decide⟩, by simp +decide only [go_sem], ?_⟩; simp [capB]; omega) (fun h => by cases h) ?_ | refine napp_ownT (n := ks.length) (List.length_map ..) rfl rfl (by simp +decide only [go_sem, Option.isSome_some]) tf116 tf117 tf129 (by refine ⟨⟨rfl, by decide, by decide⟩, by simp +decide only [go_sem], ?_⟩; simp [capB]; omega) (by simp [Store.get, hbt3, hbt2, hbt]) ?_
      intro b42 c42 hb42
      have hb43 : b42 ≠ b3 ∧ b42 ≠ b2 ∧ b42 ≠ b := by
       first | (rcases hb42 with rfl | hb42; · exact ⟨hbt3, hbt2, hbt⟩) | skip
       simp only [Store.keys, List.map_cons, List.map_nil, List.mem_cons, List.not_mem_nil, or_false, not_or] at hb42
       exact ⟨hb42.1, hb42.2.1, by first | exact hb42.2.2 | exact hb42.2.2.1⟩
      have hb44 := Ne.symm hb43.1
      have hb45 := Ne.symm hb43.2.1
      have hb46 := Ne.symm hb43.2.2
      try simp only [Store.ren, hbt3, hbt2, hbt, if_false, if_true]
      try simp +decide only [go_sem, hb2, hb3, c2, c3, hb43, hb44, hb45, hb46, hbk]
      repeat with_reducible refine an_ ?_
      refine SET_fin ?_
      try simp +decide only [go_sem, hb2, hb3, c2, c3, hb43, hb44, hb45, hb46, hbk]
      repeat with_reducible refine an_ ?_
      refine hκ _ _ ?_; clear hκ hξ ξ κ
      refine weakP (mk [(0, .ptr b 0), (2, .ptr b2 0), (3, .ptr b3 0), (4, .str j)]) (EnvLe.of_l ⟨rfl, rfl, rfl, rfl, trivial⟩) (σ' := [(b3, .cells [.int .i64 (if j = kAnd then 6 else 7), .int .i64 0, .int .i64 0, .int .i64 0, .sl 5 (ks.map crow ++ [[.int .i64 y4.op, .int .i64 y4.a, .int .i64 y4.b, .int .i64 y4.n, .sl 5 (y4.kids.map crow) .no]]) (.own b42 c42)]), (b2, .cells [.int .i64 0, .int .i64 0, .int .i64 0, .int .i64 0, .sl 0 [] .nil]), (b, .cells [.sl 1 (r4.map srow) .no]), (b42, .tail 5 (ks.length + 1) c42)]) (by first | exact .refl _ | exact (List.perm_append_singleton _ _).symm) ?_
      refine rr_ [0, 2, 3, 4, 5] [] [] fun κ ξ hκ hξ => ?_
      try simp +decide only [go_sem, hb2, hb3, c2, c3]
      repeat with_reducible refine an_ ?_
      refine callPm2 [(b3, _), (b2, _)] [(b42, _)] .str (nx_w b r4) ?_ (fun hn ws' => hξ _ _ ⟨_, (List.Sublist.cons _ (List.Sublist.cons _ (List.Sublist.cons_cons _ (List.nil_sublist _)))), ws', rfl, .inr ⟨(by cases r4 with | nil => rw [pgp, hc]; simp only [if_pos jok]; rw [hpg, pgr, if_neg c2, if_neg hd2, hy]; cases g <;> rfl | cons w r => cases hn), rfl⟩⟩)
      rintro w5 r5 hw5
      obtain rfl : r4 = w5 :: r5 := by
       cases r4 with
       | nil => cases hw5
       | cons x y => cases hw5; rfl
      have hn5 := hn4.tl
      simp only [List.length_cons] at hcl4
      try simp only [CF, List.cons_append, List.nil_append]
      try simp +decide only [go_sem, hb2, hb3, c2, c3]
      repeat with_reducible refine an_ ?_
      refine hκ _ _ ?_; clear hκ hξ ξ κ
      refine ⟨(g, ks ++ [y4], w5, r5, some (b42, c42)), ⟨⟨?_, by simp only; omega, by simp only; omega, hn5, ?_, ?_⟩, by simp only; omega⟩, EnvLe.of_l ⟨rfl, rfl, rfl, rfl, rfl, trivial⟩, ?_⟩
      ·rw [hpg, pgr, if_neg c2, if_neg hd2, hy]
      ·simp only [List.length_append, List.length_singleton]; have : ks.length ≠ 10 := fun h => hd2 (.inr h); omega
      ·intro b' c' h; cases h; exact hb43
      ·simp only [kD, kS, List.map_append, List.map_cons, List.map_nil, crow_eq, List.length_append, List.length_singleton]; exact .refl _
   ·obtain ⟨hbt3, hbt2, hbt⟩ := hbo bt ct rfl
    have hbk := Ne.symm hbt3
    change AWp _ _ _ _ _ _ _
    refine weak (mk [(0, .ptr b 0), (2, .ptr b2 0), (3, .ptr b3 0), (4, .str j), (5, .str w3)]) (EnvLe.of_l ⟨rfl, rfl, rfl, rfl, rfl, trivial⟩) (σ' := [(b3, .cells [.int .i64 (if j = kAnd then 6 else 7), .int .i64 0, .int .i64 0, .int .i64 0, .sl 5 (ks.map crow) (.own bt ct)]), (b2, .cells [.int .i64 0, .int .i64 0, .int .i64 0, .int .i64 0, .sl 0 [] .nil]), (b, .cells [.sl 1 (r3.map srow) .no]), (bt, .tail 5 ks.length ct)]) (.refl _) ?_
    refine rr_ [0, 2, 3, 4, 34] [] [(3, 29)] fun κ ξ hκ hξ => ?_
    try simp +decide only [go_sem, hb2, hb3, c2]
    repeat with_reducible refine an_ ?_
    refine hκ _ _ ?_; clear hκ hξ ξ κ
    refine cd_ (fun c4 => ?_) (fun c4 => ?_)
    ·simp only [go_sem] at c4
     have hd2 : w3 ≠ j ∨ ks.length = 10 := by
      rcases c4 with h | h
      ·exact .inl h
      ·exact .inr (by omega)
     refine rr_ [] [] [] fun κ ξ hκ hξ => ?_
     try simp +decide only [go_sem, hb2, hb3, c2, c4]
     repeat with_reducible refine an_ ?_
     refine hξ _ _ ?_
     exact ⟨_, (by first | exact ((List.Sublist.refl _).cons _).cons _ | exact (List.Sublist.cons _ (List.Sublist.cons _ (List.Sublist.cons_cons _ (List.nil_sublist _))))), r3, rfl, .inr ⟨by rw [pgp, hc]; simp only [if_pos jok]; rw [hpg, pgr, if_neg c2, if_pos hd2]; rfl, rfl⟩⟩
    ·simp only [go_sem] at c4
     have hd2 : ¬ (w3 ≠ j ∨ ks.length = 10) := by
      rintro (h | h)
      ·exact h c4.1
      ·exact c4.2 (by omega)
     replace c4 : True := trivial
     refine sk ?_
     change AWp _ _ _ _ _ _ _
     refine rgt2 [0, 2, 3, 4] [] [42, 1000040] [] [0, 2] (.br 1 [3, 4, 5, 6, 7] .fin 3 [1, 4, 5, 6, 7] .fin) (by kernel_rfl) (by kernel_rfl) (Pk.cons rfl (Pk.cons rfl (Pk.nil))) ?_; intro κ ξ hκ hξ
     try simp +decide only [go_sem, hb2, hb3, c2, c4, hbt3, hbt2, hbt, hbk]
     repeat with_reducible refine an_ ?_
     refine SET_br (Pk.cons rfl (Pk.cons rfl (Pk.cons rfl (Pk.cons rfl (Pk.cons rfl (Pk.cons rfl (Pk.nil))))))) (Pk.cons rfl (Pk.cons rfl (Pk.cons rfl (Pk.cons rfl (Pk.cons rfl (Pk.cons rfl (Pk.nil))))))) ?_ ?_
     ·try simp +decide only [go_sem, hb2, hb3, c2, c4, hbt3, hbt2, hbt, hbk]
      repeat with_reducible refine an_ ?_
      first | refine callPm2 [(b3, _), (b2, _)] [] CF (hC g (by omega) r3 (by omega) hn3) ?_ (fun hn ws' => hξ _ _ ⟨_, ((List.Sublist.refl _).cons _).cons _, ws', rfl, .inr ⟨(by rw [pgp, hc]; simp only [if_pos jok]; rw [hpg, pgr, if_neg c2, if_neg hd2, hn]; rfl), rfl⟩⟩) | refine callPm2 [(b3, _), (b2, _)] [(bt, _)] CF (hC g (by omega) r3 (by omega) hn3) ?_ (fun hn ws' => hξ _ _ ⟨_, (List.Sublist.cons _ (List.Sublist.cons _ (List.Sublist.cons_cons _ (List.nil_sublist _)))), ws', rfl, .inr ⟨(by rw [pgp, hc]; simp only [if_pos jok]; rw [hpg, pgr, if_neg c2, if_neg hd2, hn]; rfl), rfl⟩⟩)
      rintro y4 r4 hy
      obtain ⟨hcl4, p4, hp4⟩ := pcl_lt g hy
      have hn4 : nbW r4 := by rw [hp4] at hn3; exact hn3.suf
      try simp only [CF, List.cons_append, List.nil_append]
      try simp +decide only [go_sem, hb2, hb3, c2, c4, hbt3, hbt2, hbt, hbk]
      repeat with_reducible refine an_ ?_
      first | refine napp_fullT (n := ks.length) (List.length_map ..) rfl rfl (by simp +decide only [go_sem, Option.isSome_some]) tf116 tf117 tf129 (by refine ⟨⟨rfl, by decide, by decide⟩, by simp +decide only [go_sem], ?_⟩; simp [capB]; omega) (fun h => by cases h) ?_ | refine napp_ownT (n := ks.length) (List.length_map ..) rfl rfl (by simp +decide only [go_sem, Option.isSome_some]) tf116 tf117 tf129 (by refine ⟨⟨rfl, by decide, by decide⟩, by simp +decide only [go_sem], ?_⟩; simp [capB]; omega) (by simp [Store.get, hbt3, hbt2, hbt]) ?_
      intro b42 c42 hb42
      have hb43 : b42 ≠ b3 ∧ b42 ≠ b2 ∧ b42 ≠ b := by
       first | (rcases hb42 with rfl | hb42; · exact ⟨hbt3, hbt2, hbt⟩) | skip
       simp only [Store.keys, List.map_cons, List.map_nil, List.mem_cons, List.not_mem_nil, or_false, not_or] at hb42
       exact ⟨hb42.1, hb42.2.1, by first | exact hb42.2.2 | exact hb42.2.2.1⟩
      have hb44 := Ne.symm hb43.1
      have hb45 := Ne.symm hb43.2.1
      have hb46 := Ne.symm hb43.2.2
      try simp only [Store.ren, hbt3, hbt2, hbt, if_false, if_true]
      try simp +decide only [go_sem, hb2, hb3, c2, c4, hb43, hb44, hb45, hb46, hbk]
      repeat with_reducible refine an_ ?_
      refine SET_fin ?_
      try simp +decide only [go_sem, hb2, hb3, c2, c4, hb43, hb44, hb45, hb46, hbk]
      repeat with_reducible refine an_ ?_
      refine hκ _ _ ?_; clear hκ hξ ξ κ
      refine weakP (mk [(0, .ptr b 0), (2, .ptr b2 0), (3, .ptr b3 0), (4, .str j)]) (EnvLe.of_l ⟨rfl, rfl, rfl, rfl, trivial⟩) (σ' := [(b3, .cells [.int .i64 (if j = kAnd then 6 else 7), .int .i64 0, .int .i64 0, .int .i64 0, .sl 5 (ks.map crow ++ [[.int .i64 y4.op, .int .i64 y4.a, .int .i64 y4.b, .int .i64 y4.n, .sl 5 (y4.kids.map crow) .no]]) (.own b42 c42)]), (b2, .cells [.int .i64 0, .int .i64 0, .int .i64 0, .int .i64 0, .sl 0 [] .nil]), (b, .cells [.sl 1 (r4.map srow) .no]), (b42, .tail 5 (ks.length + 1) c42)]) (by first | exact .refl _ | exact (List.perm_append_singleton _ _).symm) ?_
      refine rr_ [0, 2, 3, 4, 5] [] [] fun κ ξ hκ hξ => ?_
      try simp +decide only [go_sem, hb2, hb3, c2, c4]
      repeat with_reducible refine an_ ?_
      refine callPm2 [(b3, _), (b2, _)] [(b42, _)] .str (nx_w b r4) ?_ (fun hn ws' => hξ _ _ ⟨_, (List.Sublist.cons _ (List.Sublist.cons _ (List.Sublist.cons_cons _ (List.nil_sublist _)))), ws', rfl, .inr ⟨(by cases r4 with | nil => rw [pgp, hc]; simp only [if_pos jok]; rw [hpg, pgr, if_neg c2, if_neg hd2, hy]; cases g <;> rfl | cons w r => cases hn), rfl⟩⟩)
      rintro w5 r5 hw5
      obtain rfl : r4 = w5 :: r5 := by
       cases r4 with
       | nil => cases hw5
       | cons x y => cases hw5; rfl
      have hn5 := hn4.tl
      simp only [List.length_cons] at hcl4
      try simp only [CF, List.cons_append, List.nil_append]
      try simp +decide only [go_sem, hb2, hb3, c2, c4]
      repeat with_reducible refine an_ ?_
      refine hκ _ _ ?_; clear hκ hξ ξ κ
      refine ⟨(g, ks ++ [y4], w5, r5, some (b42, c42)), ⟨⟨?_, by simp only; omega, by simp only; omega, hn5, ?_, ?_⟩, by simp only; omega⟩, EnvLe.of_l ⟨rfl, rfl, rfl, rfl, rfl, trivial⟩, ?_⟩
      ·rw [hpg, pgr, if_neg c2, if_neg hd2, hy]
      ·simp only [List.length_append, List.length_singleton]; have : ks.length ≠ 10 := fun h => hd2 (.inr h); omega
      ·intro b' c' h; cases h; exact hb43
      ·simp only [kD, kS, List.map_append, List.map_cons, List.map_nil, crow_eq, List.length_append, List.length_singleton]; exact .refl _
     ·try simp +decide only [go_sem, hb2, hb3, c2, c4, hbt3, hbt2, hbt, hbk]
      repeat with_reducible refine an_ ?_
      first | refine callPm2 [(b3, _), (b2, _)] [] CF (hC g (by omega) r3 (by omega) hn3) ?_ (fun hn ws' => hξ _ _ ⟨_, ((List.Sublist.refl _).cons _).cons _, ws', rfl, .inr ⟨(by rw [pgp, hc]; simp only [if_pos jok]; rw [hpg, pgr, if_neg c2, if_neg hd2, hn]; rfl), rfl⟩⟩) | refine callPm2 [(b3, _), (b2, _)] [(bt, _)] CF (hC g (by omega) r3 (by omega) hn3) ?_ (fun hn ws' => hξ _ _ ⟨_, (List.Sublist.cons _ (List.Sublist.cons _ (List.Sublist.cons_cons _ (List.nil_sublist _)))), ws', rfl, .inr ⟨(by rw [pgp, hc]; simp only [if_pos jok]; rw [hpg, pgr, if_neg c2, if_neg hd2, hn]; rfl), rfl⟩⟩)
      rintro y4 r4 hy
      obtain ⟨hcl4, p4, hp4⟩ := pcl_lt g hy
      have hn4 : nbW r4 := by rw [hp4] at hn3; exact hn3.suf
      try simp only [CF, List.cons_append, List.nil_append]
      try simp +decide only [go_sem, hb2, hb3, c2, c4, hbt3, hbt2, hbt, hbk]
      repeat with_reducible refine an_ ?_
      first | refine napp_fullT (n := ks.length) (List.length_map ..) rfl rfl (by simp +decide only [go_sem, Option.isSome_some]) tf116 tf117 tf129 (by refine ⟨⟨rfl, by decide, by decide⟩, by simp +decide only [go_sem], ?_⟩; simp [capB]; omega) (fun h => by cases h) ?_ | refine napp_ownT (n := ks.length) (List.length_map ..) rfl rfl (by simp +decide only [go_sem, Option.isSome_some]) tf116 tf117 tf129 (by refine ⟨⟨rfl, by decide, by decide⟩, by simp +decide only [go_sem], ?_⟩; simp [capB]; omega) (by simp [Store.get, hbt3, hbt2, hbt]) ?_
      intro b42 c42 hb42
      have hb43 : b42 ≠ b3 ∧ b42 ≠ b2 ∧ b42 ≠ b := by
       first | (rcases hb42 with rfl | hb42; · exact ⟨hbt3, hbt2, hbt⟩) | skip
       simp only [Store.keys, List.map_cons, List.map_nil, List.mem_cons, List.not_mem_nil, or_false, not_or] at hb42
       exact ⟨hb42.1, hb42.2.1, by first | exact hb42.2.2 | exact hb42.2.2.1⟩
      have hb44 := Ne.symm hb43.1
      have hb45 := Ne.symm hb43.2.1
      have hb46 := Ne.symm hb43.2.2
      try simp only [Store.ren, hbt3, hbt2, hbt, if_false, if_true]
      try simp +decide only [go_sem, hb2, hb3, c2, c4, hb43, hb44, hb45, hb46, hbk]
      repeat with_reducible refine an_ ?_
      refine SET_fin ?_
      try simp +decide only [go_sem, hb2, hb3, c2, c4, hb43, hb44, hb45, hb46, hbk]
      repeat with_reducible refine an_ ?_
      refine hκ _ _ ?_; clear hκ hξ ξ κ
      refine weakP (mk [(0, .ptr b 0), (2, .ptr b2 0), (3, .ptr b3 0), (4, .str j)]) (EnvLe.of_l ⟨rfl, rfl, rfl, rfl, trivial⟩) (σ' := [(b3, .cells [.int .i64 (if j = kAnd then 6 else 7), .int .i64 0, .int .i64 0, .int .i64 0, .sl 5 (ks.map crow ++ [[.int .i64 y4.op, .int .i64 y4.a, .int .i64 y4.b, .int .i64 y4.n, .sl 5 (y4.kids.map crow) .no]]) (.own b42 c42)]), (b2, .cells [.int .i64 0, .int .i64 0, .int .i64 0, .int .i64 0, .sl 0 [] .nil]), (b, .cells [.sl 1 (r4.map srow) .no]), (b42, .tail 5 (ks.length + 1) c42)]) (by first | exact .refl _ | exact (List.perm_append_singleton _ _).symm) ?_
      refine rr_ [0, 2, 3, 4, 5] [] [] fun κ ξ hκ hξ => ?_
      try simp +decide only [go_sem, hb2, hb3, c2, c4]
      repeat with_reducible refine an_ ?_
      refine callPm2 [(b3, _), (b2, _)] [(b42, _)] .str (nx_w b r4) ?_ (fun hn ws' => hξ _ _ ⟨_, (List.Sublist.cons _ (List.Sublist.cons _ (List.Sublist.cons_cons _ (List.nil_sublist _)))), ws', rfl, .inr ⟨(by cases r4 with | nil => rw [pgp, hc]; simp only [if_pos jok]; rw [hpg, pgr, if_neg c2, if_neg hd2, hy]; cases g <;> rfl | cons w r => cases hn), rfl⟩⟩)
      rintro w5 r5 hw5
      obtain rfl : r4 = w5 :: r5 := by
       cases r4 with
       | nil => cases hw5
       | cons x y => cases hw5; rfl
      have hn5 := hn4.tl
      simp only [List.length_cons] at hcl4
      try simp only [CF, List.cons_append, List.nil_append]
      try simp +decide only [go_sem, hb2, hb3, c2, c4]
      repeat with_reducible refine an_ ?_
      refine hκ _ _ ?_; clear hκ hξ ξ κ
      refine ⟨(g, ks ++ [y4], w5, r5, some (b42, c42)), ⟨⟨?_, by simp only; omega, by simp only; omega, hn5, ?_, ?_⟩, by simp only; omega⟩, EnvLe.of_l ⟨rfl, rfl, rfl, rfl, rfl, trivial⟩, ?_⟩
      ·rw [hpg, pgr, if_neg c2, if_neg hd2, hy]
      ·simp only [List.length_append, List.length_singleton]; have : ks.length ≠ 10 := fun h => hd2 (.inr h); omega
      ·intro b' c' h; cases h; exact hb43
      ·simp only [kD, kS, List.map_append, List.map_cons, List.map_nil, crow_eq, List.length_append, List.length_singleton]; exact .refl _
  ·simp only [go_sem] at c2
   refine ex ?_
   refine sq ?_
   rcases o with _ | ⟨bt, ct⟩
   ·have hbt3 : True := trivial; have hbt2 : True := trivial; have hbt : True := trivial; have hbk : True := trivial
    change AWp _ _ _ _ _ _ _
    refine weak (mk [(0, .ptr b 0), (2, .ptr b2 0), (3, .ptr b3 0), (4, .str j), (5, .str w3)]) (EnvLe.of_l ⟨rfl, rfl, rfl, rfl, rfl, trivial⟩) (σ' := [(b3, .cells [.int .i64 (if j = kAnd then 6 else 7), .int .i64 0, .int .i64 0, .int .i64 0, .sl 5 (ks.map crow) .full]), (b2, .cells [.int .i64 0, .int .i64 0, .int .i64 0, .int .i64 0, .sl 0 [] .nil]), (b, .cells [.sl 1 (r3.map srow) .no])]) (.refl _) ?_
    refine rr_ [2] [] [] fun κ ξ hκ hξ => ?_
    try simp +decide only [go_sem, hb2, hb3, c2]
    repeat with_reducible refine an_ ?_
    refine hκ _ _ ?_; clear hκ hξ ξ κ
    refine rt ?_
    have hpr : omp CF (pgp (f + 1) ws) = some (CF (.mk (if j = kAnd then 6 else 7) 0 0 0 ks), r3) := by
     rw [pgp, hc]; simp only [if_pos jok]; rw [hpg, pgr, if_pos c2]; rfl
    refine ret_ (σ' := [(b, .cells [.sl 1 (r3.map srow) .no])]) ?_ (List.Sublist.cons _ (List.Sublist.cons _ (List.Sublist.cons_cons _ (List.nil_sublist _)))) ?_
    ·simp +decide only [go_sem, resD, resV]
    simp +decide only [go_sem, resD, resV]
    refine ⟨r3, rfl, .inl ⟨_, _, hpr, ?_, rfl⟩⟩
    exact DLe.ag ⟨DLe.refl _, DLe.refl _, DLe.refl _, DLe.refl _, DLe.tok _ _ _, trivial⟩
   ·obtain ⟨hbt3, hbt2, hbt⟩ := hbo bt ct rfl
    have hbk := Ne.symm hbt3
    change AWp _ _ _ _ _ _ _
    refine weak (mk [(0, .ptr b 0), (2, .ptr b2 0), (3, .ptr b3 0), (4, .str j), (5, .str w3)]) (EnvLe.of_l ⟨rfl, rfl, rfl, rfl, rfl, trivial⟩) (σ' := [(b3, .cells [.int .i64 (if j = kAnd then 6 else 7), .int .i64 0, .int .i64 0, .int .i64 0, .sl 5 (ks.map crow) (.own bt ct)]), (b2, .cells [.int .i64 0, .int .i64 0, .int .i64 0, .int .i64 0, .sl 0 [] .nil]), (b, .cells [.sl 1 (r3.map srow) .no]), (bt, .tail 5 ks.length ct)]) (.refl _) ?_
    refine rr_ [2] [] [] fun κ ξ hκ hξ => ?_
    try simp +decide only [go_sem, hb2, hb3, c2]
    repeat with_reducible refine an_ ?_
    refine hκ _ _ ?_; clear hκ hξ ξ κ
    refine rt ?_
    have hpr : omp CF (pgp (f + 1) ws) = some (CF (.mk (if j = kAnd then 6 else 7) 0 0 0 ks), r3) := by
     rw [pgp, hc]; simp only [if_pos jok]; rw [hpg, pgr, if_pos c2]; rfl
    refine ret_ (σ' := [(b, .cells [.sl 1 (r3.map srow) .no])]) ?_ (List.Sublist.cons _ (List.Sublist.cons _ (List.Sublist.cons_cons _ (List.nil_sublist _)))) ?_
    ·simp +decide only [go_sem, resD, resV]
    simp +decide only [go_sem, resD, resV]
    refine ⟨r3, rfl, .inl ⟨_, _, hpr, ?_, rfl⟩⟩
    exact DLe.ag ⟨DLe.refl _, DLe.refl _, DLe.refl _, DLe.refl _, DLe.tok _ _ _, trivial⟩
end Go.Proofs.YtfjnohmdilmfhaaGreatDoor
/- Own layer, part 31: functions that defer a call which catches panics. -/
namespace Go.Proofs.YtfjnohmdilmfhaaGreatDoor
open Go Go.RowKit
set_option linter.unusedSimpArgs false
set_option linter.unusedVariables false
section
variable {P : Program} {M : Mem} {w : World} {σ : Store} {r : Option Nat} {nt : Nat} {ops : Array Oper} {imm : List Nat} {gt : List (Nat × Nat)}
theorem vop_agree {o : Oper} {env : Env} {κ : Env → Store → Prop} {X : D → Store → Prop} (h : vop P imm gt o env σ κ X) : vop P imm gt o env σ (fun env' σ' => κ env' σ' ∧ ∀ t, o.dst ≠ some t → env' t = env t) X := by
 have key : ∀ d t, o.dst ≠ some t → env.put o.dst d t = env t := fun d t ht => put_apart fun x hx e => ht (by rw [hx, e])
 unfold vop at h ⊢
 cases hq : quiet o.op with
 | true => simp only [hq, cond_true] at h ⊢; exact ⟨h.1, h.2, key _⟩
 | false => simp only [hq, cond_false] at h ⊢; exact nv_mono (fun d σ' hk => ⟨hk, key _⟩) h
/-- As the region's rule; where a panic leaves it, some places are still known. -/
theorem vops_soundX (hgt : GT ops gt) {Q : AE → Env → Store → Prop} (keep kx : List Nat) {env0 : Env} {M0 : Mem} {w0 : World} {σ0 : Store} {a0 : Act} {B : Nat × List Deferred} : ∀ (l : List Oper) (k : Nat), (∀ j, l[j]? = ops[k + j]?) → l.all (okOp nt) = true → (∀ o ∈ l, ∀ t ∈ kx, o.dst ≠ some t) → ∀ (env : Env) (σ : Store) (M : Mem) (w : World) (a : Act),
  vops P imm gt (fun env σ => Q .normal (prune keep env) σ) (fun d σ => Q (.pan d) (prune kx env0) σ) l env σ → (∀ t ∈ kx, env t = env0 t) →
  Conc M w σ → EnvR M nt env a → DefOK B σ0 w0 a0.defers → a.defers = a0.defers → Step M0 w0 σ0 M w σ → wpOpsIn (WF r) 0 P ops (rgPost M0 w0 σ0 nt B Q) (List.range' k l.length) a w
 | [], k, _, _, _, env, σ, M, w, a, h, _, hc, he, hd, hda, hs => by
  simp only [List.length_nil, List.range'_zero, wpOpsIn]
  exact ⟨M, _, σ, .normal, hs, hc, he.prune keep, hda ▸ hd.step hs, trivial, h⟩
 | o :: l, k, hl, hok, hkx, env, σ, M, w, a, h, hag, hc, he, hd, hda, hs => by
  have h0 : ops[k]? = some o := by simpa using (hl 0).symm
  simp only [List.all_cons, Bool.and_eq_true] at hok
  simp only [List.length_cons, List.range'_succ]
  rw [wpOpsIn_cons]
  unfold wpOpIn
  simp only [h0]
  refine vop_sound (r := r) hgt hc he hok.1 (vop_agree h) ?_ ?_
  ·intro M' w' σ' env' a' s1 c1 e1 d1 k1
   exact vops_soundX hgt keep kx l (k + 1) (fun j => by have := hl (j + 1); simpa [Nat.add_assoc, Nat.add_comm 1 j] using this) hok.2 (fun o' ho' => hkx o' (List.mem_cons_of_mem _ ho')) env' σ' M' w' a' k1.1
    (fun t ht => (k1.2 t (hkx o (List.mem_cons_self ..) t ht)).trans (hag t ht)) c1 e1 hd (d1.trans hda) (hs.trans s1)
  ·intro M' w' σ' d v s1 c1 r1 x1
   refine ⟨M', prune kx env0, σ', .pan d, hs.trans s1, c1, ?_, hda ▸ hd.step (hs.trans s1), ⟨v, rfl, r1⟩, x1⟩
   have e2 : prune kx env0 = prune kx env := by
    unfold prune
    congr 1
    exact List.map_congr_left fun t ht => by rw [hag t ht]
   rw [e2]
   exact (he.mono s1.le).prune kx
def kxOK (l : List Oper) (kx : List Nat) : Bool := l.all fun o => kx.all fun t => o.dst != some t
theorem rgX (kx keep imm : List Nat) (gt : List (Nat × Nat)) {id : Nat} {l : List Oper} {env : Env} {Q : AE → Env → Store → Prop}
  (h : ∀ (κ : Env → Store → Prop) (ξ : D → Store → Prop), (∀ env σ, Q .normal env σ → κ env σ) → (∀ d σ, Q (.pan d) (prune kx env) σ → ξ d σ) → vops P imm gt (fun env σ => κ (prune keep env) σ) ξ l env σ)
  (hok : rgOK nt l.toArray gt = true := by kernel_rfl) (hk : kxOK l kx = true := by kernel_rfl) : AWp P r nt (.region id l.toArray false) env σ Q := by
 intro M w a B hc he hd
 refine wpIn_region ?_
 unfold rgOK at hok
 simp only [Bool.and_eq_true] at hok
 have hkx : ∀ o ∈ l, ∀ t ∈ kx, o.dst ≠ some t := fun o ho t ht => by
  have := List.all_eq_true.1 (List.all_eq_true.1 hk o ho) t ht
  simpa using this
 have := vops_soundX (P := P) (r := r) (imm := imm) (ops := l.toArray) (Q := Q) (GT.of hok.2) keep kx l 0 (by simp) (by simpa using hok.1) hkx env σ M w a (h (fun env σ => Q .normal env σ) (fun d σ => Q (.pan d) (prune kx env) σ) (fun _ _ h => h) (fun _ _ h => h)) (fun _ _ => rfl) hc he hd rfl (Step.refl _ _ _)
 rw [List.range_eq_range', show l.toArray.size = l.length from by simp]
 exact this
/-! ### What is deferred -/
/-- A deferred call of a function that returns. -/
def DCallR (P : Program) (fc : Nat) (ds : List D) (σ : Store) (Q : Store → Prop) : Prop := ∀ M w vs, Conc M w σ → RAll M ds vs →
 CallsDIn (WF none) 0 P fc (List.toArray vs) .returning w fun e u' w' => ∃ v M' σ', e = .returned v ∧ u' = .returning ∧ Step M w σ M' w' σ' ∧ Conc M' w' σ' ∧ Q σ'
/-- A deferred call of a function that panics, which catches this. -/
def DCallP (P : Program) (fc : Nat) (ds : List D) (σ : Store) (d : D) (Q : Store → Prop) : Prop := ∀ M w vs x, Conc M w σ → RAll M ds vs → R M d x →
 CallsDIn (WF none) 0 P fc (List.toArray vs) (.panicking [{ v := x, recovered := false }]) w fun e u' w' => ∃ v M' σ', e = .returned v ∧ u' = .panicking [{ v := x, recovered := true }] ∧ Step M w σ M' w' σ' ∧ Conc M' w' σ' ∧ Q σ'
def endD (P : Program) (rs : List ResultVar) (Q : Res → Store → Prop) (env : Env) (σ' : Store) : Prop := (resD P σ' env rs).1 ∧ ∃ σ2 : Store, σ2.Sublist σ' ∧ Q (.ret (resD P σ' env rs).2) σ2
def defQ (P : Program) (fc : Nat) (ds : List D) (rs : List ResultVar) (Q : Res → Store → Prop) : AE → Env → Store → Prop
 | .normal, env, σ => DCallR P fc ds σ (endD P rs Q env)
 | .ret, env, σ => DCallR P fc ds σ (endD P rs Q env)
 | .pan d, env, σ => DCallP P fc ds σ d (endD P rs Q env)
 | _, _, _ => False
theorem leaves_marks' {fn : Func} {tmps : Array Value} {R' : Ending → World → Prop} {u : FrameMode} (rest : List Deferred) (hu : u ≠ .run) {M0 : Mem} {w0 : World} {σ0 : Store} {n : Nat} (hn0 : n ≤ w0.heap.size) : ∀ (Ds : List Nat) (M : Mem) (w : World) (σ : Store), Step M0 w0 σ0 M w σ → Conc M w σ → Ds.Nodup →
  (∀ D ∈ Ds, w0.heap.size ≤ D ∧ w.heap[D]? = some (.deferred (some [])) ∧ D ∉ σ.keys) →
  (∀ w', (∀ k, k < w0.heap.size → w'.heap[k]? = w.heap[k]?) → Step M0 w0 σ0 M w' σ → Conc M w' σ → LeavesInM (WF none) 0 P fn tmps R' rest u w') →
  LeavesInM (WF none) 0 P fn tmps R' ((Ds.map fun D => { target := .collected D, args := #[] }) ++ rest) u w
 | [], M, w, σ, hs, hc, _, _, h => h w (fun _ _ => rfl) hs hc
 | D :: Ds, M, w, σ, hs, hc, hn, hD, h => by
  simp only [List.nodup_cons] at hn
  obtain ⟨h1, h2, h3⟩ := hD D (by simp)
  have hlt : D < w.heap.size := (Array.getElem?_eq_some_iff.1 h2).1
  have hother : ∀ k, k ≠ D → (w.putObj D (.deferred none)).heap[k]? = w.heap[k]? := fun k hk => World.putObj_heap_other hk
  refine ⟨hu, .inl ⟨D, _, rfl, run_takeDeferred h2, ?_⟩⟩
  have hc' : Conc M (w.putObj D (.deferred none)) σ := by
   refine ⟨fun b o v hv => ?_, hc.nodup, fun b x hb => ?_, hc.glob.other h2 hother⟩
   ·have hcell := hc.mem b o v hv
    have hne : b ≠ D := by
     intro e; subst e
     simp only [World.cell?, h2] at hcell
     cases hcell
    simp only [World.cell?, hother b hne]
    exact hcell
   ·have hne : b ≠ D := fun e => h3 (e ▸ List.mem_map_of_mem (f := Prod.fst) hb)
    exact (hc.box b x hb).mono (Mem.le.refl _) (fun _ _ h => h) (hother b hne)
  refine leaves_marks' rest hu hn0 Ds M _ σ ?_ hc' hn.2 (fun D' hD' => ?_) (fun w' hk hs' hc2 => h w' (fun k hk2 => (hk k hk2).trans (hother k (by omega))) hs' hc2)
  ·exact ⟨hs.le, hs.os, hs.tape, hs.output, (by rw [World.putObj_size]; exact hs.size), fun b hb hk => (hother b (fun e => by omega)).trans (hs.block b hb hk), hs.keys, hs.grow⟩
  ·obtain ⟨e1, e2, e3⟩ := hD D' (List.mem_cons_of_mem _ hD')
   exact ⟨e1, (hother D' (fun e => hn.1 (e ▸ hD'))).trans e2, e3⟩
/-! ### Functions that recover -/
theorem recover_then {id t : Nat} {fn : Func} {c : Code} {ts : Array TypeId} {T : TypeId} {pos : String} {aft : Array Edge} {c₀ : Frame} {cs : List Frame} {R : Ending → FrameMode → World → Prop} {a0 : Act} {w : World} {x : Value}
  (hu : c₀.mode = .panicking [{ v := x, recovered := false }])
  (h : c.wpIn (WF none) 0 P (fun e a' w' => bodyPostS P fn c₀ cs R e a' ({ c₀ with mode := .panicking [{ v := x, recovered := true }] } :: cs) w') (a0.put (some t) x) w) :
  (Code.seq (.region id #[⟨some t, .call ⟨.builtin .recover, #[], ts⟩, T, pos, aft, none⟩] false) c).wpSIn (WF none) 0 P (bodyPostS P fn c₀ cs R) a0 (c₀ :: cs) w := by
 apply wpSIn_seq
 apply wpSIn_region
 show wpOpsSIn (WF none) 0 P _ _ [0] a0 (c₀ :: cs) w
 simp only [wpOpsSIn, List.getElem?_toArray, List.getElem?_cons_zero]
 refine ⟨fun f _ => trivial, ?_⟩
 rw [if_pos (by simp [Region.wanted])]
 have hrun : (execOp a0.eval ⟨some t, .call ⟨.builtin .recover, #[], ts⟩, T, pos, aft, none⟩).run P w = .ok .recover w := rfl
 rw [hrun]
 have hrec : recoverD (c₀ :: cs) = some (x, { c₀ with mode := .panicking [{ v := x, recovered := true }] } :: cs) := by simp [recoverD, hu]
 simp only [hrec]
 exact wpSIn_of_wpIn rfl h
theorem recover_none {id t : Nat} {fn : Func} {c : Code} {ts : Array TypeId} {T : TypeId} {pos : String} {aft : Array Edge} {c₀ : Frame} {cs : List Frame} {R : Ending → FrameMode → World → Prop} {a0 : Act} {w : World}
  (hu : c₀.mode = .returning)
  (h : c.wpIn (WF none) 0 P (fun e a' w' => bodyPostS P fn c₀ cs R e a' (c₀ :: cs) w') (a0.put (some t) .nilIface) w) :
  (Code.seq (.region id #[⟨some t, .call ⟨.builtin .recover, #[], ts⟩, T, pos, aft, none⟩] false) c).wpSIn (WF none) 0 P (bodyPostS P fn c₀ cs R) a0 (c₀ :: cs) w := by
 apply wpSIn_seq
 apply wpSIn_region
 show wpOpsSIn (WF none) 0 P _ _ [0] a0 (c₀ :: cs) w
 simp only [wpOpsSIn, List.getElem?_toArray, List.getElem?_cons_zero]
 refine ⟨fun f _ => trivial, ?_⟩
 rw [if_pos (by simp [Region.wanted])]
 have hrun : (execOp a0.eval ⟨some t, .call ⟨.builtin .recover, #[], ts⟩, T, pos, aft, none⟩).run P w = .ok .recover w := rfl
 rw [hrun]
 have hrec : recoverD (c₀ :: cs) = none := by simp [recoverD, hu]
 simp only [hrec]
 exact wpSIn_of_wpIn rfl h
end
end Go.Proofs.YtfjnohmdilmfhaaGreatDoor
/- claim.caught, at machine level. -/
namespace Go.Proofs.YtfjnohmdilmfhaaGreatDoor
open Go Go.RowKit
set_option linter.unusedSimpArgs false
set_option linter.unusedVariables false
@[go_sem] theorem as66 (v : Value) (W : World) : (Instr.typeAssert (.iface 66 v) 20 66 true).run Tryz.prog W = .ok (.tuple #[v, .bool true]) W := by kernel_rfl
section
variable {P : Program} {r : Option Nat} {nt : Nat} {ops : Array Oper} {imm : List Nat} {gt : List (Nat × Nat)}
/-- A region that does not panic: what is deferred stays. -/
theorem vops_soundN (hgt : GT ops gt) {κ : Env → Store → Prop} {M0 : Mem} {w0 : World} {σ0 : Store} {a0 : Act} : ∀ (l : List Oper) (k : Nat), (∀ j, l[j]? = ops[k + j]?) → l.all (okOp nt) = true → ∀ (env : Env) (σ : Store) (M : Mem) (w : World) (a : Act),
  vops P imm gt κ (fun _ _ => False) l env σ → Conc M w σ → EnvR M nt env a → a.defers = a0.defers → Step M0 w0 σ0 M w σ →
  wpOpsIn (WF r) 0 P ops (fun e a' w' => e = .normal ∧ ∃ M' env' σ', Step M0 w0 σ0 M' w' σ' ∧ Conc M' w' σ' ∧ EnvR M' nt env' a' ∧ a'.defers = a0.defers ∧ κ env' σ') (List.range' k l.length) a w
 | [], k, _, _, env, σ, M, w, a, h, hc, he, hda, hs => by
  simp only [List.length_nil, List.range'_zero, wpOpsIn]
  exact ⟨trivial, M, env, σ, hs, hc, he, hda, h⟩
 | o :: l, k, hl, hok, env, σ, M, w, a, h, hc, he, hda, hs => by
  have h0 : ops[k]? = some o := by simpa using (hl 0).symm
  simp only [List.all_cons, Bool.and_eq_true] at hok
  simp only [List.length_cons, List.range'_succ]
  rw [wpOpsIn_cons]
  unfold wpOpIn
  simp only [h0]
  refine vop_sound (r := r) hgt hc he hok.1 h ?_ ?_
  ·intro M' w' σ' env' a' s1 c1 e1 d1 k1
   exact vops_soundN hgt l (k + 1) (fun j => by have := hl (j + 1); simpa [Nat.add_assoc, Nat.add_comm 1 j] using this) hok.2 env' σ' M' w' a' k1 c1 e1 (d1.trans hda) (hs.trans s1)
  ·intro M' w' σ' d v s1 c1 r1 x1
   exact x1.elim
theorem rgN {κ : Env → Store → Prop} (gt : List (Nat × Nat)) {id : Nat} {l : List Oper} {env : Env} {σ : Store} {M : Mem} {w : World} {a : Act} (hc : Conc M w σ) (he : EnvR M nt env a)
  (h : vops P [] gt κ (fun _ _ => False) l env σ) (hok : rgOK nt l.toArray gt = true := by kernel_rfl) :
  (Code.region id l.toArray false).wpIn (WF r) 0 P (fun e a' w' => e = .normal ∧ ∃ M' env' σ', Step M w σ M' w' σ' ∧ Conc M' w' σ' ∧ EnvR M' nt env' a' ∧ a'.defers = a.defers ∧ κ env' σ') a w := by
 refine wpIn_region ?_
 simp only [rgOK, Bool.and_eq_true] at hok
 have := vops_soundN (P := P) (r := r) (nt := nt) (imm := []) (ops := l.toArray) (κ := κ) (a0 := a) (GT.of hok.2) l 0 (by simp) (by simpa using hok.1) env σ M w a h hc he rfl (Step.refl _ _ _)
 rw [List.range_eq_range', show l.toArray.size = l.length from by simp]
 exact this
end
attribute [local go_sem] List.length_map rowAt_n nrow rowAt_t trow rowAt_i irow
attribute [local go_sem] rowAt_c rowAt_sn rowAt_bx snrow bxrow
set_option maxHeartbeats 4000000 in
set_option maxRecDepth 1000000 in
theorem caught_P {b c : Nat} {d0 d1 d2 d3 d4 y : D} {σ : Store} {Q : Store → Prop} (hbc : b ≠ c) (hx : σ.get b = some (.cells [d0, d1, d2, d3, d4])) (hy : (σ.upd b (.cells [.int .i64 0, .int .i64 0, .int .i64 0, .int .i64 0, .sl 0 [] .nil])).get c = some (.cells [y])) (hy0 : σ.get c = some (.cells [y])) (h : Q ((σ.upd b (.cells [.int .i64 0, .int .i64 0, .int .i64 0, .int .i64 0, .sl 0 [] .nil])).upd c (.cells [.int .i64 8]))) : DCallP Tryz.prog 30 [.ptr b 0, .ptr c 0] σ wrD Q := by
 intro M w vs u hc hr hu
 match vs, hr with
 | [v1, v2], hr =>
  simp only [RAll, R] at hr
  obtain ⟨rfl, rfl, -⟩ := hr
  obtain ⟨v, rfl, h2⟩ := hu
  simp only [R] at h2
  obtain ⟨us, rfl, h3⟩ := h2
  match us, h3 with
  | [], _ =>
   refine callsDIn_of_wpSIn Tryz.func30 rfl trivial fun c₀ cs hu => recover_then hu ?_
   refine wpIn_block ?_
   generalize hr7 : Code.region 7 _ false = r7c
   gi_wp2_with fail
   obtain ⟨c1, s1⟩ := hc.allocOther (.cells #[] 66)
   subst hr7
   refine wpIn_mono (rgN (nt := 18) (env := mk [(0, .ptr b 0), (1, .ptr c 0)]) (κ := fun _ σ' => σ' = (σ.upd b (.cells [.int .i64 0, .int .i64 0, .int .i64 0, .int .i64 0, .sl 0 [] .nil])).upd c (.cells [.int .i64 8])) [] c1 ?_ ?_) ?_
   ·refine ⟨by simp, fun i => ?_⟩
    simp only [mk]
    split
    ·rename_i e; subst e; simp [R]
    ·split
     ·rename_i e; subst e; simp [R]
     ·simp only [R]
   ·try simp +decide only [go_sem, hx, hy]
    repeat with_reducible refine an_ ?_
   ·rintro e a' w' ⟨rfl, M', env', σ', s2, c2, e2, hd2, rfl⟩
    simp only [Exit.inBlock, bodyPostS]
    refine ⟨hd2, _, rfl, .tuple #[], ?_, _, M', _, rfl, rfl, s1.trans s2, c2, h⟩
    simp [results, Tryz.results30]
  | _ :: _, h3 => exact absurd h3 (by simp [RAll])
 | [], hr => exact absurd hr (by simp [RAll])
 | [_], hr => exact absurd hr (by simp [RAll])
 | _ :: _ :: _ :: _, hr => exact absurd hr (by simp [RAll])
set_option maxHeartbeats 4000000 in
set_option maxRecDepth 1000000 in
theorem caught_idle (b c : Nat) (w : World) : CallsDIn (WF none) 0 Tryz.prog 30 #[.pointer (some ⟨b, 0, none⟩), .pointer (some ⟨c, 0, none⟩)] .returning w fun e u' w' =>
   e = .returned (.tuple #[]) ∧ u' = .returning ∧ w' = w := by
 refine callsDIn_of_wpSIn Tryz.func30 rfl trivial fun c₀ cs hu => recover_none hu ?_
 refine wpIn_block ?_
 gi_wp2_with fail
 cases c₀
 simp_all [bodyPostS, results, Tryz.results30]
theorem caught_R {b c : Nat} {σ : Store} {Q : Store → Prop} (h : Q σ) : DCallR Tryz.prog 30 [.ptr b 0, .ptr c 0] σ Q := by
 intro M w vs hc hr
 match vs, hr with
 | [v1, v2], hr =>
  simp only [RAll, R] at hr
  obtain ⟨rfl, rfl, -⟩ := hr
  refine (caught_idle b c w).mono ?_
  rintro e u' w' ⟨rfl, rfl, rfl⟩
  exact ⟨_, M, σ, rfl, rfl, Step.refl M w' σ, hc, h⟩
 | [], hr => exact absurd hr (by simp [RAll])
 | [_], hr => exact absurd hr (by simp [RAll])
 | _ :: _ :: _ :: _, hr => exact absurd hr (by simp [RAll])
end Go.Proofs.YtfjnohmdilmfhaaGreatDoor
/- A function that defers one call behind a question. -/
namespace Go.Proofs.YtfjnohmdilmfhaaGreatDoor
open Go Go.RowKit
set_option linter.unusedSimpArgs false
set_option linter.unusedVariables false
section
variable {P : Program} {M : Mem} {w : World} {σ : Store} {r : Option Nat} {nt : Nat} {ops : Array Oper} {imm : List Nat} {gt : List (Nat × Nat)}
/-- Only a return. -/
def onlyR (P : Program) (rs : List ResultVar) (Q : Res → Store → Prop) : AE → Env → Store → Prop
 | .ret, env, σ => retQ P rs Q .ret env σ
 | _, _, _ => False
/-- A FUNCTION THAT DEFERS ONE CALL behind a question, which catches its panics. -/
theorem fnD2 {f fc i1 : Nat} {fn : Func} {ca cb c1 : Code} {rs : List ResultVar} {args : List D} {Q : Res → Store → Prop} {xs : List Operand} {ts : Array TypeId} {T : TypeId} {pos : String} {aft : Array Edge}
  (hf : P.funcs[f]? = some fn) (hb : fn.body = some (.seq ca (.seq cb (.seq (.region i1 #[⟨none, .defer ⟨.value (.func fc), xs.toArray, ts⟩, T, pos, aft, none⟩] false) c1)))) (hname : (fn.name == "runtime.NumGoroutine") = false)
  (hres : fn.results = List.toArray rs) (hn : args.length ≤ fn.ntmps) (hcf : ∀ (w : World) (vs : Array Value), (callFunc fc vs).run P w = .ok (.enter fc vs) w)
  (h : AWp P none fn.ntmps ca (mk (argEnv args 0)) σ (thenQ (fun env0 σ0 => AWp P none fn.ntmps cb env0 σ0 (thenQ (fun env1 σ1 => AWp P none fn.ntmps c1 env1 σ1 (defQ P fc (xs.map (opd env1)) rs Q)) (onlyR P rs Q))) fun _ _ _ => False)) : ACall P (.func f) args σ Q := by
 intro M w vs hc hr
 have hlen := hr.length
 refine .inl ⟨callFunc_enter hf (by rw [hb]; rfl) hname _, ?_⟩
 have key : CallsIn (WF none) 0 P f (List.toArray vs) w fun e w' => ∃ M' σ' r, Step M w σ M' w' σ' ∧ Conc M' w' σ' ∧ ResR M' r e ∧ Q r σ' := by
  refine callsIn_of_wp_marks hf hb trivial ?_
  have he : EnvR M fn.ntmps (mk (argEnv args 0)) { tmps := List.toArray vs ++ Array.replicate (fn.ntmps - (List.toArray vs).size) undef, defers := [] } := by
   refine ⟨by simp; omega, fun i => argEnv_R args vs 0 i _ hr fun j v hj => ?_⟩
   have hjl := (List.getElem?_eq_some_iff.1 hj).1
   rw [Nat.zero_add, Array.getD_eq_getD_getElem?, Array.getElem?_append_left (by simpa using hjl)]
   simp [hj]
  refine wpIn_seq (wpIn_mono (h M w _ (w.heap.size, []) hc he (DefOK.nil (Nat.le_refl _))) ?_)
  rintro e a0 w0 ⟨M0, env0, σ0, ae, s0, c0', e0, d0, h5, h6⟩
  cases e with
  | exit i => cases ae <;> simp only [AER] at h5; exact h6.elim
  | goto i => cases ae <;> simp only [AER] at h5; exact h6.elim
  | ret => cases ae <;> simp only [AER] at h5; exact h6.elim
  | panic ch => cases ae <;> simp only [AER] at h5; exact h6.elim
  | outgrown => cases ae <;> simp only [AER] at h5
  | normal =>
  cases ae <;> simp only [AER] at h5
  refine wpIn_seq (wpIn_mono (h6 M0 w0 a0 (w.heap.size, []) c0' e0 d0) ?_)
  clear h5 h6
  rintro e a1 w1 ⟨M1, env1, σ1, ae, s1', c1', e1, d1, h5, h6⟩
  have s1 := s0.trans s1'
  cases e with
  | exit i => cases ae <;> simp only [AER] at h5; exact h6.elim
  | goto i => cases ae <;> simp only [AER] at h5; exact h6.elim
  | ret =>
   cases ae <;> simp only [AER] at h5
   obtain ⟨hres1, σ3, s3, hq⟩ := h6
   obtain ⟨_, Ds, hd1, hd2, hd3⟩ := d1
   show LeavesInM _ _ _ _ _ _ a1.defers .returning w1
   rw [hd1, List.append_nil]
   refine leaves_marks (by simp) Ds M1 w1 σ1 s1 c1' hd2 hd3 fun w3 st3 c3 => ?_
   obtain ⟨v, r1, r2⟩ := run_results (P := P) (w := w3) hres c3 e1 hres1
   exact ⟨v, r1, M1, σ3, .ret _, st3.sub s3, c3.sub s3, r2, hq⟩
  | panic ch => cases ae <;> simp only [AER] at h5; exact h6.elim
  | outgrown => cases ae <;> simp only [AER] at h5
  | normal =>
  cases ae <;> simp only [AER] at h5
  have hds : RAll M1 (xs.map (opd env1)) (xs.map a1.eval) := RAll_map (opd_R e1) xs
  obtain ⟨dcall, hdc⟩ : ∃ d : Deferred, d = { target := .fn (.func fc) #[], args := List.toArray (xs.map a1.eval) } := ⟨_, rfl⟩
  refine wpIn_seq (wpIn_region ?_)
  have hrun : (execOp a1.eval ⟨none, .defer ⟨.value (.func fc), xs.toArray, ts⟩, T, pos, aft, none⟩).run P w1 = .ok (.defer dcall) w1 := by
   simp [execOp, resolve, Act.eval, Deferred.ofValue, hdc]
  show wpOpsIn (WF none) 0 P _ _ [0] a1 w1
  simp only [wpOpsIn, List.getElem?_toArray, List.getElem?_cons_zero]
  rw [if_pos (by simp [Region.wanted])]
  refine ⟨fun f _ => trivial, ?_⟩
  have hsem : (Oper.semAt (WF none).round a1.eval ⟨none, .defer ⟨.value (.func fc), xs.toArray, ts⟩, T, pos, aft, none⟩) = execOp a1.eval ⟨none, .defer ⟨.value (.func fc), xs.toArray, ts⟩, T, pos, aft, none⟩ := by
   rfl
  rw [hsem, hrun, Oper.uponIn_defer]
  have he2 : EnvR M1 fn.ntmps env1 ({ a1 with defers := dcall :: a1.defers }.put none undef) := e1
  refine wpIn_mono (h6 M1 w1 ({ a1 with defers := dcall :: a1.defers }.put none undef) (w1.heap.size, dcall :: a1.defers) c1' he2 (DefOK.base (Nat.le_refl _))) ?_
  rintro e a2 w2 ⟨M2, env2, σ2, ae, s2, c2, e2, ⟨_, Ds, hd1, hd2, hd3⟩, h7, h8⟩
  -- the last marks, behind the deferred call
  have tail : ∀ (w3 w4 : World) (M4 : Mem) (σ4 : Store), (∀ k, k < w1.heap.size → w3.heap[k]? = w2.heap[k]?) → Step M1 w1 σ1 M2 w3 σ2 → Step M2 w3 σ2 M4 w4 σ4 → Conc M4 w4 σ4 → endD P rs Q env2 σ4 →
    LeavesInM (WF none) 0 P fn a2.tmps (fun e w' => ∃ M' σ' r, Step M w σ M' w' σ' ∧ Conc M' w' σ' ∧ ResR M' r e ∧ Q r σ') a1.defers .returning w4 := by
   intro w3 w4 M4 σ4 hk3 st3 st4 c4 ⟨hr1, σ5, hsub, hq⟩
   obtain ⟨_, Ds0, g1, g2, g3⟩ := d1.step (st3.trans st4)
   rw [g1, List.append_nil]
   refine leaves_marks (by simp) Ds0 M4 w4 σ4 ((s1.trans st3).trans st4) c4 g2 g3 fun w5 st5 c5 => ?_
   obtain ⟨v, r1, r2⟩ := run_results (P := P) (w := w5) hres c5 (e2.mono st4.le) hr1
   exact ⟨v, r1, M4, σ5, .ret _, st5.sub hsub, c5.sub hsub, r2, hq⟩
  have fin1 : DCallR P fc (xs.map (opd env1)) σ2 (endD P rs Q env2) → LeavesInM (WF none) 0 P fn a2.tmps (fun e w' => ∃ M' σ' r, Step M w σ M' w' σ' ∧ Conc M' w' σ' ∧ ResR M' r e ∧ Q r σ') a2.defers .returning w2 := by
   intro hD
   rw [hd1]
   refine leaves_marks' (dcall :: a1.defers) (by simp) (Nat.le_refl _) Ds M2 w2 σ2 s2 c2 hd2 hd3 fun w3 hk3 st3 c3 => ?_
   refine ⟨by simp, .inr ⟨(by intro h; cases h), _, _, fc, List.toArray (xs.map a1.eval), by rw [hdc], ?_, fun g _ => trivial, ?_⟩⟩
   ·rw [hdc]
    simp only [invoke]
    have := hcf w3 (List.toArray (xs.map a1.eval) ++ #[])
    simpa using this
   ·have hc3 := hD M2 w3 (xs.map a1.eval) c3 (RAll.mono s2.le _ _ hds)
    refine CallsDIn.mono hc3 ?_
    rintro e u' w4 ⟨v, M4, σ4, rfl, rfl, st4, c4, hend⟩
    exact tail w3 w4 M4 σ4 hk3 st3 st4 c4 hend
  cases e with
  | normal => cases ae <;> simp only [AER] at h7; exact fin1 h8
  | ret => cases ae <;> simp only [AER] at h7; exact fin1 h8
  | exit i => cases ae <;> simp only [AER] at h7; exact h8.elim
  | goto i => cases ae <;> simp only [AER] at h7; exact h8.elim
  | outgrown => cases ae <;> simp only [AER] at h7
  | panic ch =>
   cases ch with
   | nil => cases ae <;> simp only [AER] at h7
   | cons p0 ps =>
   cases ps with
   | cons _ _ => cases ae <;> simp only [AER] at h7
   | nil =>
   cases ae <;> simp only [AER] at h7
   obtain ⟨x, rfl, hx⟩ := h7
   show LeavesInM _ _ _ _ _ _ a2.defers (.panicking _) w2
   rw [hd1]
   refine leaves_marks' (dcall :: a1.defers) (by simp) (Nat.le_refl _) Ds M2 w2 σ2 s2 c2 hd2 hd3 fun w3 hk3 st3 c3 => ?_
   refine ⟨by simp, .inr ⟨(by intro h; cases h), _, _, fc, List.toArray (xs.map a1.eval), by rw [hdc], ?_, fun g _ => trivial, ?_⟩⟩
   ·rw [hdc]
    simp only [invoke]
    have := hcf w3 (List.toArray (xs.map a1.eval) ++ #[])
    simpa using this
   ·have hc3 := h8 M2 w3 (xs.map a1.eval) x c3 (RAll.mono s2.le _ _ hds) hx
    refine CallsDIn.mono hc3 ?_
    rintro e u' w4 ⟨v, M4, σ4, rfl, rfl, st4, c4, hend⟩
    exact tail w3 w4 M4 σ4 hk3 st3 st4 c4 hend
 exact key
end
end Go.Proofs.YtfjnohmdilmfhaaGreatDoor
/- Claim: Parse. Printed by a tool of our own. -/
namespace Go.Proofs.YtfjnohmdilmfhaaGreatDoor
open Go Go.RowKit
set_option linter.unusedSimpArgs false
set_option linter.unusedVariables false
set_option maxHeartbeats 4000000
set_option maxRecDepth 100000
theorem fl_ok {w v : W} (h : v ∈ fl w) : v ≠ [] ∧ v.length ≤ w.length := by
 unfold fl at h
 by_cases hw : w = []
 ·rw [if_pos hw] at h; cases h
 ·rw [if_neg hw, List.mem_singleton] at h; subst h; exact ⟨hw, Nat.le_refl _⟩
theorem tok_ok : ∀ (s w v : W), v ∈ tok s w → v ≠ [] ∧ v.length ≤ s.length + w.length
 | [], w, v, h => by
  obtain ⟨a, b⟩ := fl_ok (show v ∈ fl w from h)
  exact ⟨a, by simp only [List.length_nil]; omega⟩
 | c :: s, w, v, h => by
  unfold tok at h
  simp only [List.length_cons]
  split at h
  ·rcases List.mem_append.1 h with h | h
   ·obtain ⟨a, b⟩ := fl_ok h; exact ⟨a, by omega⟩
   ·obtain ⟨a, b⟩ := tok_ok s [] v h; exact ⟨a, by simp only [List.length_nil] at b; omega⟩
  split at h
  ·rcases List.mem_append.1 h with h | h
   ·obtain ⟨a, b⟩ := fl_ok h; exact ⟨a, by omega⟩
   ·rcases List.mem_cons.1 h with rfl | h
    ·exact ⟨by simp, by simp only [List.length_singleton]; omega⟩
    ·obtain ⟨a, b⟩ := tok_ok s [] v h; exact ⟨a, by simp only [List.length_nil] at b; omega⟩
  ·obtain ⟨a, b⟩ := tok_ok s _ v h; exact ⟨a, by simp only [List.length_append, List.length_singleton] at b; omega⟩
theorem wds_nb {s : W} (hs : s.length ≤ 1000000) : nbW (wds s) := fun w hw => by
 rw [wds_eq] at hw
 obtain ⟨a, b⟩ := tok_ok s [] w hw
 exact ⟨a, by simp only [List.length_nil] at b; omega⟩
theorem clm_gr (b : Nat) : ∀ F : Nat, (∀ ws : List W, 2 * ws.length + 2 ≤ F → nbW ws → ACall Tryz.prog (.func 32) [.ptr b 0] [(b, .cells [.sl 1 (ws.map srow) .no])] (PQ b (omp CF (pcl F ws)))) ∧
  (∀ ws : List W, 2 * ws.length + 3 ≤ F → nbW ws → ACall Tryz.prog (.func 66) [.ptr b 0] [(b, .cells [.sl 1 (ws.map srow) .no])] (PQ b (omp CF (pgp F ws)))) := by
 intro F
 induction F using Nat.strongRecOn with
 | ind F ih =>
  cases F with
  | zero => exact ⟨fun ws h => by omega, fun ws h => by omega⟩
  | succ f => exact ⟨fun ws h hn => cl_s b f (ih f (Nat.lt_succ_self f)).1 (ih f (Nat.lt_succ_self f)).2 ws h hn, fun ws h hn => gr_s b f (fun g hg => (ih g hg).1) ws h hn⟩
theorem prsC_pcl (s : W) (h : ¬ 20000 < s.length) : prsC s = (match pcl (2 * (wds s).length + 2) (wds s) with
    | some (c, []) => if clB c = true then c else cl0
    | _ => cl0) ∧ prsE s = (match pcl (2 * (wds s).length + 2) (wds s) with
    | some (c, []) => if clB c = true then 0 else 1
    | _ => 8) := by
 unfold prsC prsE prs
 rw [if_neg h, if_neg h]
 cases pcl (2 * (wds s).length + 2) (wds s) with
 | none => exact ⟨rfl, rfl⟩
 | some x =>
  obtain ⟨c, r⟩ := x
  cases r <;> exact ⟨rfl, rfl⟩
attribute [local go_sem] List.length_map rowAt_n nrow rowAt_t trow rowAt_i irow
attribute [local go_sem] rowAt_c rowAt_sn rowAt_bx snrow bxrow
attribute [local go_sem] rowAt_s srow rwz List.append_eq
theorem prs_w (s : W) : PCall Tryz.prog (.func 16) [.str s] (.tup [CF (prsC s), .int .i64 (prsE s)]) := by
 refine PCall.le ?_
 refine fnD2 Tryz.func16 (by rfl) (by rfl) (rs := [.cell 2 25, .cell 3 28]) (by rfl) (by simp [Tryz.f16]) (fun w vs => callFunc_enter Tryz.func30 (by rfl) (by rfl) vs) ?_
 refine rr_ [0, 2, 3] [] [] fun κ ξ hκ hξ => ?_
 try simp +decide only [go_sem]
 repeat with_reducible refine an_ ?_
 intro b2 hb2
 try simp +decide only [go_sem, hb2]
 repeat with_reducible refine an_ ?_
 intro b3 hb3
 try simp +decide only [go_sem, hb2, hb3]
 repeat with_reducible refine an_ ?_
 refine hκ _ _ ?_; clear hκ hξ ξ κ
 refine sr_ [0, 2, 3, 7] [] [] fun κ ξ hκ hξ => ?_
 try simp +decide only [go_sem, hb2, hb3]
 repeat with_reducible refine an_ ?_
 refine hκ _ _ ?_; clear hκ hξ ξ κ
 refine cd_ (fun c0 => ?_) (fun c0 => ?_)
 ·simp only [go_sem] at c0
  refine sr_ [2, 3] [] [] fun κ ξ hκ hξ => ?_
  try simp +decide only [go_sem, hb2, hb3, c0]
  repeat with_reducible refine an_ ?_
  refine hκ _ _ ?_; clear hκ hξ ξ κ
  refine rt ?_
  have h23 : ¬ b2 = b3 := hb3.1
  refine retL ⟨by simp +decide only [go_sem, resD, resV, h23], ?_⟩
  simp +decide only [go_sem, resD, resV, h23, ↓reduceIte]
  rw [show prsC s = cl0 from if_pos (by omega), show prsE s = 2 from if_pos (by omega)]
  exact DLe.tup ⟨DLe.ag ⟨DLe.refl _, DLe.refl _, DLe.refl _, DLe.refl _, DLe.nil _ _ _, trivial⟩, DLe.refl _, trivial⟩
 ·simp only [go_sem] at c0
  refine sk ?_
  refine sr_ [2, 3, 4] [] [] fun κ ξ hκ hξ => ?_
  try simp +decide only [go_sem, hb2, hb3, c0]
  repeat with_reducible refine an_ ?_
  refine callF (wds_w s (by omega)) ?_
  try simp +decide only [go_sem, hb2, hb3, c0]
  repeat with_reducible refine an_ ?_
  intro b12 hb12
  try simp +decide only [go_sem, hb2, hb3, c0, hb12]
  repeat with_reducible refine an_ ?_
  refine hκ _ _ ?_; clear hκ hξ ξ κ
  refine sq ?_
  have h32 : b3 ≠ b2 := fun h => hb3.1 h.symm
  have h23 : b2 ≠ b3 := fun h => h32 h.symm
  simp only [Store.keys, List.map_cons, List.map_nil, List.mem_cons, List.not_mem_nil, or_false, not_or] at hb12
  have h123 : b12 ≠ b3 := fun h => hb12.1 h.symm
  have h122 : b12 ≠ b2 := fun h => hb12.2.1 h.symm
  have h312 := Ne.symm h123
  have h212 := Ne.symm h122
  refine rgX [2, 3] [2, 3, 4] [] [] fun κ ξ hκ hξ => ?_
  try simp +decide only [go_sem, hb2, hb3, c0, hb12]
  repeat with_reducible refine an_ ?_
  refine callPm2 [] [(b3, _), (b2, _)] CF ((clm_gr b12 _).1 (wds s) (Nat.le_refl _) (wds_nb (by omega))) ?_ ?_
  rotate_left
  ·intro hn ws'
   refine hξ _ _ ?_
   refine caught_P (y := .int .i64 0) h23 (by simp only [List.nil_append, Store.get, h32, h23, h122, h123, h212, h312, ↓reduceIte] <;> rfl) (by simp only [List.nil_append, Store.get, Store.upd, h32, h23, h122, h123, h212, h312, ↓reduceIte] <;> rfl) (by simp only [List.nil_append, Store.get, h32, h23, h122, h123, h212, h312, ↓reduceIte] <;> rfl) ?_
   simp +decide only [go_sem, endD, resD, resV, List.cons_append, List.nil_append, Store.upd, Store.get, h32, h23, h122, h123, h212, h312, ↓reduceIte]
   obtain ⟨e1, e2⟩ := prsC_pcl s (by omega)
   rw [hn] at e1 e2
   rw [e1, e2]
   exact ⟨_, List.nil_sublist _, _, rfl, DLe.tup ⟨DLe.ag ⟨DLe.refl _, DLe.refl _, DLe.refl _, DLe.refl _, DLe.nil _ _ _, trivial⟩, DLe.refl _, trivial⟩, rfl⟩
  rintro c r hc
  try simp only [CF, List.cons_append, List.nil_append]
  try simp +decide only [go_sem, hb2, hb3, c0, hb12, h32, h23, h122, h123, h212, h312]
  repeat with_reducible refine an_ ?_
  refine hκ _ _ ?_; clear hκ hξ ξ κ
  refine sq ?_
  refine sr_ [2, 3, 20] [] [] fun κ ξ hκ hξ => ?_
  try simp +decide only [go_sem, hb2, hb3, c0, hb12]
  repeat with_reducible refine an_ ?_
  refine hκ _ _ ?_; clear hκ hξ ξ κ
  refine cd_ (fun c1 => ?_) (fun c1 => ?_)
  ·try simp only [go_sem] at c1
   refine rgX [2, 3] [] [] [] fun κ ξ hκ hξ => ?_
   try simp +decide only [go_sem, hb2, hb3, c0, hb12, c1]
   repeat with_reducible refine an_ ?_
   refine hξ _ _ ?_
   refine caught_P (y := .int .i64 0) h23 (by simp only [List.nil_append, Store.get, h32, h23, h122, h123, h212, h312, ↓reduceIte] <;> rfl) (by simp only [List.nil_append, Store.get, Store.upd, h32, h23, h122, h123, h212, h312, ↓reduceIte] <;> rfl) (by simp only [List.nil_append, Store.get, h32, h23, h122, h123, h212, h312, ↓reduceIte] <;> rfl) ?_
   simp +decide only [go_sem, endD, resD, resV, List.cons_append, List.nil_append, Store.upd, Store.get, h32, h23, h122, h123, h212, h312, ↓reduceIte]
   obtain ⟨e1, e2⟩ := prsC_pcl s (by omega)
   obtain ⟨w0, r0, rfl⟩ : ∃ w0 r0, r = w0 :: r0 := by
    cases r with
    | nil => simp at c1
    | cons w r => exact ⟨w, r, rfl⟩
   rw [hc] at e1 e2
   simp only at e1 e2
   rw [e1, e2]
   exact ⟨_, List.nil_sublist _, _, rfl, DLe.tup ⟨DLe.ag ⟨DLe.refl _, DLe.refl _, DLe.refl _, DLe.refl _, DLe.nil _ _ _, trivial⟩, DLe.refl _, trivial⟩, rfl⟩
  ·try simp only [go_sem] at c1
   refine sk ?_
   refine sq ?_
   refine sr_ [2, 3, 25] [] [] fun κ ξ hκ hξ => ?_
   try simp +decide only [go_sem, hb2, hb3, c0, hb12, c1]
   repeat with_reducible refine an_ ?_
   refine callF (clv_w _) ?_
   try simp +decide only [go_sem, hb2, hb3, c0, hb12, c1]
   repeat with_reducible refine an_ ?_
   refine hκ _ _ ?_; clear hκ hξ ξ κ
   refine cd_ (fun c2 => ?_) (fun c2 => ?_)
   ·try simp only [go_sem] at c2
    refine sr_ [2, 3] [] [] fun κ ξ hκ hξ => ?_
    try simp +decide only [go_sem, hb2, hb3, c0, hb12, c1, c2]
    repeat with_reducible refine an_ ?_
    refine hκ _ _ ?_; clear hκ hξ ξ κ
    refine rt ?_
    refine caught_R ?_
    simp +decide only [go_sem, endD, resD, resV, Store.upd, Store.get, h32, h23, h122, h123, h212, h312, ↓reduceIte]
    obtain ⟨e1, e2⟩ := prsC_pcl s (by omega)
    rw [hc] at e1 e2
    obtain rfl : r = [] := List.eq_nil_of_length_eq_zero (by omega)
    simp only [c2, Bool.false_eq_true, if_false] at e1 e2
    rw [e1, e2]
    exact ⟨_, List.nil_sublist _, _, rfl, DLe.tup ⟨DLe.ag ⟨DLe.refl _, DLe.refl _, DLe.refl _, DLe.refl _, DLe.nil _ _ _, trivial⟩, DLe.refl _, trivial⟩, rfl⟩
   ·try simp only [go_sem] at c2
    refine sk ?_
    refine sr_ [2, 3] [] [] fun κ ξ hκ hξ => ?_
    try simp +decide only [go_sem, hb2, hb3, c0, hb12, c1, c2]
    repeat with_reducible refine an_ ?_
    refine hκ _ _ ?_; clear hκ hξ ξ κ
    refine rt ?_
    refine caught_R ?_
    simp +decide only [go_sem, endD, resD, resV, Store.upd, Store.get, h32, h23, h122, h123, h212, h312, ↓reduceIte]
    obtain ⟨e1, e2⟩ := prsC_pcl s (by omega)
    rw [hc] at e1 e2
    obtain rfl : r = [] := List.eq_nil_of_length_eq_zero (by omega)
    simp only [c2, if_true] at e1 e2
    rw [e1, e2]
    exact ⟨_, List.nil_sublist _, _, rfl, DLe.refl _, rfl⟩
end Go.Proofs.YtfjnohmdilmfhaaGreatDoor
/- How claims are written, in plain data. -/
namespace Go.Proofs.YtfjnohmdilmfhaaGreatDoor
open Go Go.RowKit Go.Lib
set_option linter.unusedSimpArgs false
set_option linter.unusedVariables false
/-- A part's text, from its kids' texts. -/
def prtO (o a b n : Int) (ps : List W) : W :=
 if o = 1 then [102, 105, 116, 115, 32] ++ itoa a
 else if o = 2 then [97, 112, 97, 114, 116, 32] ++ itoa a ++ [32] ++ itoa b
 else if o = 3 then [97, 98, 111, 118, 101, 32] ++ itoa a ++ [32] ++ itoa n
 else if o = 4 then [111, 114, 100, 101, 114]
 else if o = 5 then [119, 111, 114, 100, 115, 32] ++ itoa a ++ [32] ++ itoa n
 else if o = 6 then [40] ++ join ps [32, 97, 110, 100, 32] ++ [41]
 else if o = 7 then [40] ++ join ps [32, 111, 114, 32] ++ [41]
 else [110, 111, 116, 32] ++ wat ps 0
mutual
def prt : Cl → W
 | .mk o a b n ks => prtO o a b n (prts ks)
def prts : List Cl → List W
 | [] => []
 | e :: es => prt e :: prts es
end
theorem prts_map : ∀ l : List Cl, prts l = l.map prt
 | [] => by simp only [prts, List.map_nil]
 | e :: es => by simp only [prts, List.map_cons, prts_map es]
theorem prt_eq (e : Cl) : prt e = prtO e.op e.a e.b e.n (e.kids.map prt) := by
 cases e with
 | mk o a b n ks => simp only [prt, prts_map, Cl.op, Cl.a, Cl.b, Cl.n, Cl.kids]
theorem opC_rng {o a b n : Int} {k : Nat} (h : opC o a b n k = true) : (0 ≤ a ∧ a ≤ 1000000) ∧ (0 ≤ b ∧ b ≤ 1000000) ∧ (0 ≤ n ∧ n ≤ 1000000000) ∧ (1 ≤ o ∧ o ≤ 8) ∧ (6 ≤ o → 1 ≤ k) ∧ k ≤ 10 := by
 unfold opC at h
 repeat' split at h
 all_goals first | (rw [decide_eq_true_eq] at h; omega) | cases h
theorem cl_rng {e : Cl} (h : clN e = true) : (0 ≤ e.a ∧ e.a ≤ 1000000) ∧ (0 ≤ e.b ∧ e.b ≤ 1000000) ∧ (0 ≤ e.n ∧ e.n ≤ 1000000000) ∧ (1 ≤ e.op ∧ e.op ≤ 8) ∧ (6 ≤ e.op → 1 ≤ e.kids.length) ∧ e.kids.length ≤ 10 := by
 rw [clN_eq, Bool.and_eq_true] at h
 exact opC_rng h.1
theorem clN_kid {e : Cl} (h : clN e = true) {i : Nat} (hi : i < e.kids.length) : clN (cat e.kids i) = true := by
 rw [clN_eq, Bool.and_eq_true] at h
 cases h2 : clN (cat e.kids i) with
 | true => rfl
 | false => rw [clN_at hi h2] at h; cases h.2
theorem icl (sep : W) : ∀ l : List W, (sep.intercalate l).length ≤ (l.map List.length).sum + sep.length * l.length
 | [] => by simp
 | [x] => by simp
 | x :: y :: l => by
  have ih := icl sep (y :: l)
  rw [List.intercalate_cons_cons]
  simp only [List.length_append, List.map_cons, List.sum_cons, List.length_cons] at ih ⊢
  rw [Nat.mul_succ]
  omega
theorem prt_len : ∀ (n : Nat) (e : Cl), clS e ≤ n → clN e = true → (prt e).length + 8 ≤ 64 * clS e
 | 0, e, h, _ => by have := clS_pos e; omega
 | n + 1, e, h, hN => by
  obtain ⟨h1, h2, h3, h4, h5, h6⟩ := cl_rng hN
  have la := itoa_len (n := e.a) (by omega) (by omega)
  have lb := itoa_len (n := e.b) (by omega) (by omega)
  have ln := itoa_len (n := e.n) (by omega) (by omega)
  have hs := clS_pos e
  have key : ∀ l : List Cl, (∀ i, i < l.length → (prt (cat l i)).length + 8 ≤ 64 * clS (cat l i)) → ((l.map prt).map List.length).sum + 8 * l.length ≤ 64 * clSs l := by
   intro l
   induction l with
   | nil => intro _; simp [clSs]
   | cons x l ih =>
    intro hh
    have i1 := hh 0 (by simp)
    have i2 := ih fun i hi => hh (i + 1) (by simp only [List.length_cons]; omega)
    simp only [List.map_cons, List.sum_cons, List.length_cons, clSs]
    have e0 : cat (x :: l) 0 = x := rfl
    rw [e0] at i1
    omega
  have hk := key e.kids fun i hi => prt_len n (cat e.kids i) (by have := kid_lt hi; omega) (clN_kid hN hi)
  rw [clS_eq]
  rw [prt_eq]
  unfold prtO join
  have j1 := icl [32, 97, 110, 100, 32] (e.kids.map prt)
  have j2 := icl [32, 111, 114, 32] (e.kids.map prt)
  simp only [List.length_map, List.length_cons, List.length_nil] at j1 j2
  repeat' split
  all_goals simp only [List.length_append, List.length_cons, List.length_nil]
  all_goals try omega
  have h8 : 1 ≤ e.kids.length := h5 (by omega)
  have e0 : wat (e.kids.map prt) 0 = prt (cat e.kids 0) := by
   cases hq : e.kids with
   | nil => rw [hq] at h8; simp at h8
   | cons x l => rfl
  rw [e0]
  have hk0 := prt_len n (cat e.kids 0) (by have := kid_lt (e := e) (i := 0) h8; omega) (clN_kid hN h8)
  have := clS_at (l := e.kids) (i := 0) h8
  omega
theorem prt_kid {e : Cl} {i : Nat} (hi : i < e.kids.length) : wat (e.kids.map prt) i = prt (cat e.kids i) := by
 unfold wat cat
 simp [hi]
/-! ### Decimals -/
theorem dd_step {r : Nat} {out : W} (hr : r ≠ 0) : decDigits r ++ out = (if r / 10 = 0 then [] else decDigits (r / 10)) ++ (UInt8.ofNat (48 + r % 10) :: out) := by
 rw [decDigits]
 split
 ·rename_i h
  rw [if_pos (by omega), Nat.mod_eq_of_lt h]; rfl
 ·rename_i h
  rw [if_neg (by omega), List.append_assoc]; rfl
end Go.Proofs.YtfjnohmdilmfhaaGreatDoor
/- Claim: source. Printed by a tool of our own. -/
namespace Go.Proofs.YtfjnohmdilmfhaaGreatDoor
open Go Go.RowKit
set_option linter.unusedSimpArgs false
set_option linter.unusedVariables false
set_option maxHeartbeats 4000000
set_option maxRecDepth 100000
open Go.Lib
attribute [local go_sem] List.length_map rowAt_n nrow rowAt_t trow rowAt_i irow
attribute [local go_sem] rowAt_c rowAt_sn rowAt_bx snrow bxrow
attribute [local go_sem] rowAt_s srow rwz List.append_eq
theorem src_s (e : Cl) (hN : clN e = true) (hS : clS e ≤ 1000) (ih : ∀ k : Cl, clS k < clS e → clN k = true → PCall Tryz.prog (.func 35) [.ag [.int .i64 k.op, .int .i64 k.a, .int .i64 k.b, .int .i64 k.n, .sl 5 (k.kids.map crow) .no]] (.str (prt k))) : PCall Tryz.prog (.func 35) [.ag [.int .i64 e.op, .int .i64 e.a, .int .i64 e.b, .int .i64 e.n, .sl 5 (e.kids.map crow) .no]] (.str (prt e)) := by
 obtain ⟨h1, h2, h3, h4, h5, h6⟩ := cl_rng hN
 have la := itoa_len (n := e.a) (by omega) (by omega)
 have lb := itoa_len (n := e.b) (by omega) (by omega)
 have ln := itoa_len (n := e.n) (by omega) (by omega)
 have hpl := prt_len _ e (Nat.le_refl _) hN
 refine PCall.le ?_
 refine fn_ Tryz.func35 (by rfl) (by rfl) (rs := [.tmp 2]) (by rfl) (by simp [Tryz.f35]) ?_
 refine sr_ [1] [1] [] fun κ ξ hκ hξ => ?_
 try simp +decide only [go_sem]
 repeat with_reducible refine an_ ?_
 refine hκ _ _ ?_; clear hκ hξ ξ κ
 refine sr_ [1, 3] [] [] fun κ ξ hκ hξ => ?_
 try simp +decide only [go_sem]
 repeat with_reducible refine an_ ?_
 refine hκ _ _ ?_; clear hκ hξ ξ κ
 refine sr_ [1, 3, 4] [] [] fun κ ξ hκ hξ => ?_
 try simp +decide only [go_sem]
 repeat with_reducible refine an_ ?_
 refine hκ _ _ ?_; clear hκ hξ ξ κ
 refine sq ?_
 refine sr_ [1, 3, 4, 8, 9, 10] [] [] fun κ ξ hκ hξ => ?_
 try simp +decide only [go_sem]
 repeat with_reducible refine an_ ?_
 refine hκ _ _ ?_; clear hκ hξ ξ κ
 refine bl ?_
 refine lp (α := Nat × Option (Nat × Nat)) (fun y => mk [(1, (.el [.int .i64 e.op, .int .i64 e.a, .int .i64 e.b, .int .i64 e.n, .sl 5 (e.kids.map crow) .no])), (3, .fn (.func 69) [] []), (4, apD 1 (((e.kids.take y.1).map prt).map srow) y.2), (8, .sl 5 (e.kids.map crow) .no), (9, .int .i64 e.kids.length), (10, .int .i64 y.1)]) (fun y => apS 1 (e.kids.take y.1).length y.2) (fun y => y.1 ≤ e.kids.length ∧ apOK (((e.kids.take y.1).map prt).map srow) y.2) (fun y => e.kids.length - y.1) (0, none) ⟨⟨by simp only; omega, fun _ => rfl⟩, EnvLe.of_eq rfl, .refl _⟩ ?_
 rintro ⟨i, o⟩ ⟨hi, ho⟩
 simp only at hi ho ⊢
 refine sr_ [1, 3, 4, 8, 9, 10, 11] [] [] fun κ ξ hκ hξ => ?_
 try simp +decide only [go_sem]
 repeat with_reducible refine an_ ?_
 refine hκ _ _ ?_; clear hκ hξ ξ κ
 refine sq ?_
 refine cd_ (fun c0 => ?_) (fun c0 => ?_)
 ·simp only [go_sem, decide_eq_true_eq, decide_eq_false_iff_not, Bool.and_eq_true, Bool.and_eq_false_iff, Bool.not_eq_true', Bool.not_eq_false'] at c0
  have hil : i < e.kids.length := by omega
  have hw1 : IntKind.wrap .i64 ((i : Int) + 1) = ((i + 1 : Nat) : Int) := w64 (n := (i : Int) + 1) (by omega)
  refine sk ?_
  refine sq ?_
  refine bl ?_
  refine srz_ [(6, [])] [1, 3, 4, 6, 8, 9, 10] [] [] fun κ ξ hκ hξ => ?_
  try simp +decide only [go_sem, c0, hw1]
  repeat with_reducible refine an_ ?_
  intro b6 hb6
  try simp +decide only [go_sem, c0, hw1, hb6]
  repeat with_reducible refine an_ ?_
  refine hκ _ _ ?_; clear hκ hξ ξ κ
  refine rr_ [1, 3, 4, 8, 9, 10] [] [] fun κ ξ hκ hξ => ?_
  try simp +decide only [go_sem, c0, hw1, hb6]
  repeat with_reducible refine an_ ?_
  refine callF (ih _ (kid_lt hil) (clN_kid hN hil)) ?_
  try simp +decide only [go_sem, c0, hw1, hb6]
  repeat with_reducible refine an_ ?_
  refine napp_grow0 (o := o) ho (by rw [List.length_map, List.length_map]) rfl rfl (by simp +decide only [go_sem, Option.isSome_some]) tf209 tf210 tf77 (by refine ⟨⟨rfl, by decide, by decide⟩, by simp +decide only [go_sem], by simp, ?_⟩; simp only [List.length_take]; simp [capB]; omega) ?_
  intro b18 c18
  try simp +decide only [go_sem, c0, hw1, hb6]
  repeat with_reducible refine an_ ?_
  refine hκ _ _ ?_; clear hκ hξ ξ κ
  refine rr_ [1, 3, 4, 8, 9, 10] [] [] fun κ ξ hκ hξ => ?_
  try simp +decide only [go_sem, c0, hw1, hb6]
  repeat with_reducible refine an_ ?_
  refine hκ _ _ ?_; clear hκ hξ ξ κ
  refine ⟨(i + 1, some (b18, c18)), ⟨⟨by simp only; omega, fun h => by cases h⟩, by simp only; omega⟩, EnvLe.of_eq ?_, ?_⟩
  ·rw [take_c hil, List.map_append, List.map_append]; rfl
  ·rw [take_c hil, List.length_append]; exact .refl _
 ·simp only [go_sem, decide_eq_true_eq, decide_eq_false_iff_not, Bool.and_eq_true, Bool.and_eq_false_iff, Bool.not_eq_true', Bool.not_eq_false'] at c0
  obtain rfl : i = e.kids.length := by omega
  rw [List.take_length] at ho ⊢
  refine ex ?_
  refine sq ?_
  refine sq ?_
  refine weak (mk [(1, (.el [.int .i64 e.op, .int .i64 e.a, .int .i64 e.b, .int .i64 e.n, .sl 5 (e.kids.map crow) .no])), (3, .fn (.func 69) [] []), (4, .sl 1 ((e.kids.map prt).map srow) .no)]) (EnvLe.cons (DLe.refl _) (EnvLe.cons (DLe.refl _) (EnvLe.cons (apD_le 1 ho) (EnvLe.of_l trivial)))) (σ' := []) (List.nil_sublist _) ?_
  refine rr_ [1, 3, 4, 21] [] [] fun κ ξ hκ hξ => ?_
  try simp +decide only [go_sem, c0]
  repeat with_reducible refine an_ ?_
  refine hκ _ _ ?_; clear hκ hξ ξ κ
  refine bl ?_
  refine sr_ [1, 3, 4, 21, 22] [] [] fun κ ξ hκ hξ => ?_
  try simp +decide only [go_sem, c0]
  repeat with_reducible refine an_ ?_
  refine hκ _ _ ?_; clear hκ hξ ξ κ
  refine cd_ (fun c1 => ?_) (fun c1 => ?_)
  ·simp only [go_sem, decide_eq_true_eq, decide_eq_false_iff_not, Bool.and_eq_true, Bool.and_eq_false_iff, Bool.not_eq_true', Bool.not_eq_false'] at c1
   refine sr_ [2] [] [] fun κ ξ hκ hξ => ?_
   try simp +decide only [go_sem, c0, c1]
   repeat with_reducible refine an_ ?_
   refine callF (itoa_w _) ?_
   try simp +decide only [go_sem, c0, c1]
   repeat with_reducible refine an_ ?_
   refine hκ _ _ ?_; clear hκ hξ ξ κ
   refine rt ?_
   refine retL ?_
   simp +decide only [go_sem, resD, resV, c0, c1]
   rw [prt_eq]
   unfold prtO
   rw [if_pos c1]
   exact DLe.refl _
  ·simp only [go_sem, decide_eq_true_eq, decide_eq_false_iff_not, Bool.and_eq_true, Bool.and_eq_false_iff, Bool.not_eq_true', Bool.not_eq_false'] at c1
   refine sr_ [1, 3, 4, 21, 29] [] [] fun κ ξ hκ hξ => ?_
   try simp +decide only [go_sem, c0, c1]
   repeat with_reducible refine an_ ?_
   refine hκ _ _ ?_; clear hκ hξ ξ κ
   refine cd_ (fun c2 => ?_) (fun c2 => ?_)
   ·simp only [go_sem, decide_eq_true_eq, decide_eq_false_iff_not, Bool.and_eq_true, Bool.and_eq_false_iff, Bool.not_eq_true', Bool.not_eq_false'] at c2
    refine srd_ [2] [] [34, 40] [] fun κ ξ hκ hξ => ?_
    try simp +decide only [go_sem, c0, c1, c2]
    repeat with_reducible refine an_ ?_
    refine scallF (itoa_w _) ?_
    try simp +decide only [go_sem, c0, c1, c2]
    repeat with_reducible refine an_ ?_
    refine scallF (itoa_w _) ?_
    try simp +decide only [go_sem, c0, c1, c2]
    repeat with_reducible refine an_ ?_
    refine hκ _ _ ?_; clear hκ hξ ξ κ
    refine rt ?_
    refine retL ?_
    simp +decide only [go_sem, resD, resV, c0, c1, c2]
    rw [prt_eq]
    unfold prtO
    rw [if_neg c1, if_pos c2]
    exact DLe.refl _
   ·simp only [go_sem, decide_eq_true_eq, decide_eq_false_iff_not, Bool.and_eq_true, Bool.and_eq_false_iff, Bool.not_eq_true', Bool.not_eq_false'] at c2
    refine sr_ [1, 3, 4, 21, 42] [] [] fun κ ξ hκ hξ => ?_
    try simp +decide only [go_sem, c0, c1, c2]
    repeat with_reducible refine an_ ?_
    refine hκ _ _ ?_; clear hκ hξ ξ κ
    refine cd_ (fun c3 => ?_) (fun c3 => ?_)
    ·simp only [go_sem, decide_eq_true_eq, decide_eq_false_iff_not, Bool.and_eq_true, Bool.and_eq_false_iff, Bool.not_eq_true', Bool.not_eq_false'] at c3
     refine srd_ [2] [] [47, 53] [] fun κ ξ hκ hξ => ?_
     try simp +decide only [go_sem, c0, c1, c2, c3]
     repeat with_reducible refine an_ ?_
     refine scallF (itoa_w _) ?_
     try simp +decide only [go_sem, c0, c1, c2, c3]
     repeat with_reducible refine an_ ?_
     refine scallF (itoa_w _) ?_
     try simp +decide only [go_sem, c0, c1, c2, c3]
     repeat with_reducible refine an_ ?_
     refine hκ _ _ ?_; clear hκ hξ ξ κ
     refine rt ?_
     refine retL ?_
     simp +decide only [go_sem, resD, resV, c0, c1, c2, c3]
     rw [prt_eq]
     unfold prtO
     rw [if_neg c1, if_neg c2, if_pos c3]
     exact DLe.refl _
    ·simp only [go_sem, decide_eq_true_eq, decide_eq_false_iff_not, Bool.and_eq_true, Bool.and_eq_false_iff, Bool.not_eq_true', Bool.not_eq_false'] at c3
     refine sr_ [1, 3, 4, 21, 55] [] [] fun κ ξ hκ hξ => ?_
     try simp +decide only [go_sem, c0, c1, c2, c3]
     repeat with_reducible refine an_ ?_
     refine hκ _ _ ?_; clear hκ hξ ξ κ
     refine cd_ (fun c4 => ?_) (fun c4 => ?_)
     ·simp only [go_sem, decide_eq_true_eq, decide_eq_false_iff_not, Bool.and_eq_true, Bool.and_eq_false_iff, Bool.not_eq_true', Bool.not_eq_false'] at c4
      refine sr_ [2] [] [] fun κ ξ hκ hξ => ?_
      try simp +decide only [go_sem, c0, c1, c2, c3, c4]
      repeat with_reducible refine an_ ?_
      refine hκ _ _ ?_; clear hκ hξ ξ κ
      refine rt ?_
      refine retL ?_
      simp +decide only [go_sem, resD, resV, c0, c1, c2, c3, c4]
      rw [prt_eq]
      unfold prtO
      rw [if_neg c1, if_neg c2, if_neg c3, if_pos c4]
      exact DLe.refl _
     ·simp only [go_sem, decide_eq_true_eq, decide_eq_false_iff_not, Bool.and_eq_true, Bool.and_eq_false_iff, Bool.not_eq_true', Bool.not_eq_false'] at c4
      refine sr_ [1, 3, 4, 21, 57] [] [] fun κ ξ hκ hξ => ?_
      try simp +decide only [go_sem, c0, c1, c2, c3, c4]
      repeat with_reducible refine an_ ?_
      refine hκ _ _ ?_; clear hκ hξ ξ κ
      refine cd_ (fun c5 => ?_) (fun c5 => ?_)
      ·simp only [go_sem, decide_eq_true_eq, decide_eq_false_iff_not, Bool.and_eq_true, Bool.and_eq_false_iff, Bool.not_eq_true', Bool.not_eq_false'] at c5
       refine srd_ [2] [] [62, 68] [] fun κ ξ hκ hξ => ?_
       try simp +decide only [go_sem, c0, c1, c2, c3, c4, c5]
       repeat with_reducible refine an_ ?_
       refine scallF (itoa_w _) ?_
       try simp +decide only [go_sem, c0, c1, c2, c3, c4, c5]
       repeat with_reducible refine an_ ?_
       refine scallF (itoa_w _) ?_
       try simp +decide only [go_sem, c0, c1, c2, c3, c4, c5]
       repeat with_reducible refine an_ ?_
       refine hκ _ _ ?_; clear hκ hξ ξ κ
       refine rt ?_
       refine retL ?_
       simp +decide only [go_sem, resD, resV, c0, c1, c2, c3, c4, c5]
       rw [prt_eq]
       unfold prtO
       rw [if_neg c1, if_neg c2, if_neg c3, if_neg c4, if_pos c5]
       exact DLe.refl _
      ·simp only [go_sem, decide_eq_true_eq, decide_eq_false_iff_not, Bool.and_eq_true, Bool.and_eq_false_iff, Bool.not_eq_true', Bool.not_eq_false'] at c5
       refine sr_ [4, 21, 70] [] [] fun κ ξ hκ hξ => ?_
       try simp +decide only [go_sem, c0, c1, c2, c3, c4, c5]
       repeat with_reducible refine an_ ?_
       refine hκ _ _ ?_; clear hκ hξ ξ κ
       refine cd_ (fun c6 => ?_) (fun c6 => ?_)
       ·simp only [go_sem, decide_eq_true_eq, decide_eq_false_iff_not, Bool.and_eq_true, Bool.and_eq_false_iff, Bool.not_eq_true', Bool.not_eq_false'] at c6
        have hj6 : (join (e.kids.map prt) [32, 97, 110, 100, 32]).length ≤ 140737488355328 := by
         have hp := hpl
         rw [prt_eq] at hp
         unfold prtO at hp
         rw [if_neg c1, if_neg c2, if_neg c3, if_neg c4, if_neg c5, if_pos c6] at hp
         simp only [List.length_append] at hp
         omega
        refine sr_ [2] [] [] fun κ ξ hκ hξ => ?_
        try simp +decide only [go_sem, c0, c1, c2, c3, c4, c5, c6]
        repeat with_reducible refine an_ ?_
        refine callF (join_w (e.kids.map prt) _ .no (by rw [List.length_map]; omega) hj6) ?_
        try simp +decide only [go_sem, c0, c1, c2, c3, c4, c5, c6]
        repeat with_reducible refine an_ ?_
        refine hκ _ _ ?_; clear hκ hξ ξ κ
        refine rt ?_
        refine retL ?_
        simp +decide only [go_sem, resD, resV, c0, c1, c2, c3, c4, c5, c6]
        rw [prt_eq]
        unfold prtO
        rw [if_neg c1, if_neg c2, if_neg c3, if_neg c4, if_neg c5, if_pos c6]
        exact DLe.refl _
       ·simp only [go_sem, decide_eq_true_eq, decide_eq_false_iff_not, Bool.and_eq_true, Bool.and_eq_false_iff, Bool.not_eq_true', Bool.not_eq_false'] at c6
        refine sr_ [4, 76] [] [] fun κ ξ hκ hξ => ?_
        try simp +decide only [go_sem, c0, c1, c2, c3, c4, c5, c6]
        repeat with_reducible refine an_ ?_
        refine hκ _ _ ?_; clear hκ hξ ξ κ
        refine cd_ (fun c7 => ?_) (fun c7 => ?_)
        ·simp only [go_sem, decide_eq_true_eq, decide_eq_false_iff_not, Bool.and_eq_true, Bool.and_eq_false_iff, Bool.not_eq_true', Bool.not_eq_false'] at c7
         have hj7 : (join (e.kids.map prt) [32, 111, 114, 32]).length ≤ 140737488355328 := by
          have hp := hpl
          rw [prt_eq] at hp
          unfold prtO at hp
          rw [if_neg c1, if_neg c2, if_neg c3, if_neg c4, if_neg c5, if_neg c6, if_pos c7] at hp
          simp only [List.length_append] at hp
          omega
         refine sr_ [2] [] [] fun κ ξ hκ hξ => ?_
         try simp +decide only [go_sem, c0, c1, c2, c3, c4, c5, c6, c7]
         repeat with_reducible refine an_ ?_
         refine callF (join_w (e.kids.map prt) _ .no (by rw [List.length_map]; omega) hj7) ?_
         try simp +decide only [go_sem, c0, c1, c2, c3, c4, c5, c6, c7]
         repeat with_reducible refine an_ ?_
         refine hκ _ _ ?_; clear hκ hξ ξ κ
         refine rt ?_
         refine retL ?_
         simp +decide only [go_sem, resD, resV, c0, c1, c2, c3, c4, c5, c6, c7]
         rw [prt_eq]
         unfold prtO
         rw [if_neg c1, if_neg c2, if_neg c3, if_neg c4, if_neg c5, if_neg c6, if_pos c7]
         exact DLe.refl _
        ·simp only [go_sem, decide_eq_true_eq, decide_eq_false_iff_not, Bool.and_eq_true, Bool.and_eq_false_iff, Bool.not_eq_true', Bool.not_eq_false'] at c7
         have h8 : (0 : Int) < (e.kids.length : Int) := by have := h5 (by omega); omega
         have h8r : rowAt ((e.kids.map prt).map srow) 0 = [.str (wat (e.kids.map prt) 0)] := rowAt_s (i := 0) (by rw [List.length_map]; omega)
         have hw0 : (wat (e.kids.map prt) 0).length ≤ 64000 := by
          have hp := hpl
          rw [prt_eq] at hp
          unfold prtO at hp
          rw [if_neg c1, if_neg c2, if_neg c3, if_neg c4, if_neg c5, if_neg c6, if_neg c7] at hp
          simp only [List.length_append] at hp
          omega
         refine sk ?_
         refine sr_ [2] [] [] fun κ ξ hκ hξ => ?_
         try simp +decide only [go_sem, c0, c1, c2, c3, c4, c5, c6, c7, h8, h8r]
         repeat with_reducible refine an_ ?_
         refine hκ _ _ ?_; clear hκ hξ ξ κ
         refine rt ?_
         refine retL ?_
         simp +decide only [go_sem, resD, resV, c0, c1, c2, c3, c4, c5, c6, c7, h8, h8r]
         rw [prt_eq]
         unfold prtO
         rw [if_neg c1, if_neg c2, if_neg c3, if_neg c4, if_neg c5, if_neg c6, if_neg c7]
         exact DLe.refl _
end Go.Proofs.YtfjnohmdilmfhaaGreatDoor
/- Claim: the reference's words. Printed by a tool of our own. -/
namespace Go.Proofs.YtfjnohmdilmfhaaGreatDoor
open Go Go.RowKit
set_option linter.unusedSimpArgs false
set_option linter.unusedVariables false
set_option maxHeartbeats 4000000
set_option maxRecDepth 100000
theorem drop_cons {s : W} {i : Nat} (hi : i < s.length) : s.drop i = s.getD i 0 :: s.drop (i + 1) := by
 rw [List.drop_eq_getElem_cons hi]
 simp [hi]
theorem tok_at {s : W} (w : W) {i : Nat} (hi : i < s.length) : tok (s.drop i) w = if sat s i = 32 then fl w ++ tok (s.drop (i + 1)) [] else if sat s i = 40 ∨ sat s i = 41 then fl w ++ [s.getD i 0] :: tok (s.drop (i + 1)) [] else tok (s.drop (i + 1)) (w ++ [s.getD i 0]) := by
 rw [drop_cons hi, tok]
 have e : ∀ n : Nat, n < 256 → (s.getD i 0 = UInt8.ofNat n ↔ sat s i = n) := fun n hn => by
  unfold sat
  rw [← UInt8.toNat_inj, UInt8.toNat_ofNat']
  rw [Nat.mod_eq_of_lt (by simpa using hn)]
  omega
 have e32 := e 32 (by decide); have e40 := e 40 (by decide); have e41 := e 41 (by decide)
 simp only [show UInt8.ofNat 32 = 32 from rfl, show UInt8.ofNat 40 = 40 from rfl, show UInt8.ofNat 41 = 41 from rfl] at e32 e40 e41
 simp only [e32, e40, e41]
 rfl
theorem tok_end (s w : W) : tok (s.drop s.length) w = fl w := by rw [List.drop_length]; rfl
theorem one_at {s : W} {i : Nat} (hi : i < s.length) : List.drop i (List.take (i + 1) s) = [s.getD i 0] := by
 rw [List.take_succ_eq_append_getElem hi, List.drop_left' (by rw [List.length_take]; omega)]
 simp [hi]
theorem tokA {s w : W} {out : List W} {i : Nat} (hi : i < s.length) (h : tok s [] = out ++ tok (s.drop i) w) (h1 : ¬ sat s i = 32) (h2 : ¬ sat s i = 40) (h3 : ¬ sat s i = 41) : tok s [] = out ++ tok (s.drop (i + 1)) (w ++ [s.getD i 0]) := by
 rw [h, tok_at w hi, if_neg h1, if_neg (fun h => h.elim h2 h3)]
theorem tokB {s w : W} {out : List W} {i : Nat} (hi : i < s.length) (h : tok s [] = out ++ tok (s.drop i) w) (h1 : ¬ sat s i = 32) (h2 : sat s i = 40 ∨ sat s i = 41) : tok s [] = out ++ fl w ++ [[s.getD i 0]] ++ tok (s.drop (i + 1)) [] := by
 rw [h, tok_at w hi, if_neg h1, if_pos h2]
 simp only [List.append_assoc, List.cons_append, List.nil_append]
theorem tokC {s w : W} {out : List W} {i : Nat} (hi : i ≤ s.length) (h : tok s [] = out ++ tok (s.drop i) w) (h1 : i < s.length → sat s i = 32) : (i + 1 ≤ s.length → tok s [] = out ++ fl w ++ tok (s.drop (i + 1)) []) ∧ (s.length < i + 1 → tok s [] = out ++ fl w) := by
 refine ⟨fun hl => ?_, fun hl => ?_⟩
 ·rw [h, tok_at w hl, if_pos (h1 hl), List.append_assoc]
 ·obtain rfl : i = s.length := by omega
  rw [h, tok_end]
attribute [local go_sem] List.length_map rowAt_n nrow rowAt_t trow rowAt_i irow
attribute [local go_sem] rowAt_c rowAt_sn rowAt_bx snrow bxrow
attribute [local go_sem] rowAt_s srow rwz List.append_eq
theorem rwds_w (s : W) (hs : s.length ≤ 100000) : PCall Tryz.prog (.func 34) [.str s] (.sl 1 ((wds s).map srow) .no) := by
 refine PCall.le ?_
 refine fn_ Tryz.func34 (by rfl) (by rfl) (rs := [.tmp 2]) (by rfl) (by simp [Tryz.f34]) ?_
 refine sr_ [0] [] [] fun κ ξ hκ hξ => ?_
 try simp +decide only [go_sem]
 repeat with_reducible refine an_ ?_
 refine hκ _ _ ?_; clear hκ hξ ξ κ
 refine sr_ [0, 3] [] [] fun κ ξ hκ hξ => ?_
 try simp +decide only [go_sem]
 repeat with_reducible refine an_ ?_
 refine hκ _ _ ?_; clear hκ hξ ξ κ
 refine sr_ [0, 3, 4] [] [] fun κ ξ hκ hξ => ?_
 try simp +decide only [go_sem]
 repeat with_reducible refine an_ ?_
 refine hκ _ _ ?_; clear hκ hξ ξ κ
 refine sq ?_
 refine sr_ [0, 3, 4, 5] [] [] fun κ ξ hκ hξ => ?_
 try simp +decide only [go_sem]
 repeat with_reducible refine an_ ?_
 refine hκ _ _ ?_; clear hκ hξ ξ κ
 refine bl ?_
 refine lp (α := Nat × W × List W × Option (Nat × Nat)) (fun y => mk [(0, .str s), (3, apD 1 (y.2.2.1.map srow) y.2.2.2), (4, .str y.2.1), (5, .int .i64 y.1)]) (fun y => apS 1 y.2.2.1.length y.2.2.2) (fun y => (y.1 ≤ s.length → tok s [] = y.2.2.1 ++ tok (s.drop y.1) y.2.1) ∧ (s.length < y.1 → tok s [] = y.2.2.1) ∧ y.1 ≤ s.length + 1 ∧ y.2.1.length ≤ y.1 ∧ y.2.2.1.length ≤ 2 * y.1 ∧ apOK (y.2.2.1.map srow) y.2.2.2) (fun y => s.length + 1 - y.1) (0, [], [], none) ⟨⟨fun _ => rfl, fun h => by simp only at h; omega, by simp only; omega, by simp, by simp, fun _ => rfl⟩, EnvLe.of_eq rfl, .refl _⟩ ?_
 rintro ⟨i, w, out, o⟩ ⟨ht, ht2, hi, hwl, hol, ho⟩
 simp only at ht ht2 hi hwl hol ho ⊢
 refine sq ?_
 refine sr_ [0, 3, 4, 5, 9] [] [] fun κ ξ hκ hξ => ?_
 try simp +decide only [go_sem]
 repeat with_reducible refine an_ ?_
 refine hκ _ _ ?_; clear hκ hξ ξ κ
 refine cd_ (fun c0 => ?_) (fun c0 => ?_)
 ·simp only [go_sem, decide_eq_true_eq, decide_eq_false_iff_not, Bool.and_eq_true, Bool.and_eq_false_iff, Bool.not_eq_true', Bool.not_eq_false'] at c0
  have c0 : i ≤ s.length := by omega
  have hw1 : IntKind.wrap .i64 ((i : Int) + 1) = ((i + 1 : Nat) : Int) := w64 (n := (i : Int) + 1) (by omega)
  refine sk ?_
  refine sq ?_
  refine bl ?_
  refine sq ?_
  refine sr_ [0, 3, 4, 5, 33] [] [(4, 16), (10, 22), (16, 28)] fun κ ξ hκ hξ => ?_
  try simp +decide only [go_sem, c0, hw1, Int.toNat_natCast]
  repeat with_reducible refine an_ ?_
  refine hκ _ _ ?_; clear hκ hξ ξ κ
  refine cd_ (fun c1 => ?_) (fun c1 => ?_)
  ·simp only [go_sem, decide_eq_true_eq, decide_eq_false_iff_not, Bool.and_eq_true, Bool.and_eq_false_iff, Bool.not_eq_true', Bool.not_eq_false'] at c1
   have hil : i < s.length := by omega
   have hone := one_at hil
   refine sr_ [0, 3, 4, 5] [] [] fun κ ξ hκ hξ => ?_
   try simp +decide only [go_sem, c0, hw1, Int.toNat_natCast, c1, hone]
   repeat with_reducible refine an_ ?_
   refine hκ _ _ ?_; clear hκ hξ ξ κ
   refine ex ?_
   refine rr_ [0, 3, 4, 5] [] [] fun κ ξ hκ hξ => ?_
   try simp +decide only [go_sem, c0, hw1, Int.toNat_natCast, c1, hone]
   repeat with_reducible refine an_ ?_
   refine hκ _ _ ?_; clear hκ hξ ξ κ
   refine ⟨(i + 1, w ++ [s.getD i 0], out, o), ⟨⟨fun _ => tokA hil (ht (by omega)) c1.1.1.2 c1.1.2 c1.2, fun h => by simp only at h; omega, by simp only; omega, by simp only [List.length_append, List.length_singleton]; omega, by simp only; omega, ho⟩, by simp only; omega⟩, EnvLe.of_eq rfl, .refl _⟩
  ·simp only [go_sem, decide_eq_true_eq, decide_eq_false_iff_not, Bool.and_eq_true, Bool.and_eq_false_iff, Bool.not_eq_true', Bool.not_eq_false'] at c1
   refine sk ?_
   refine sq ?_
   refine sr_ [0, 3, 4, 5, 42] [] [] fun κ ξ hκ hξ => ?_
   try simp +decide only [go_sem, c0, hw1, Int.toNat_natCast, c1]
   repeat with_reducible refine an_ ?_
   refine hκ _ _ ?_; clear hκ hξ ξ κ
   refine cd_ (fun c2 => ?_) (fun c2 => ?_)
   ·simp only [go_sem, decide_eq_true_eq, decide_eq_false_iff_not, Bool.and_eq_true, Bool.and_eq_false_iff, Bool.not_eq_true', Bool.not_eq_false'] at c2
    have hfl : fl w = [w] := if_neg c2
    refine sr_ [0, 3, 5] [] [] fun κ ξ hκ hξ => ?_
    try simp +decide only [go_sem, c0, hw1, Int.toNat_natCast, c1, c2]
    repeat with_reducible refine an_ ?_
    refine napp_grow0 (o := o) (rows := out.map srow) ho (by simp only [List.length_append, List.length_map, List.length_singleton]) rfl rfl (by simp +decide only [go_sem, Option.isSome_some]) tf209 tf210 tf77 (by refine ⟨⟨rfl, by decide, by decide⟩, by simp +decide only [go_sem], by simp, ?_⟩; simp [capB]; omega) ?_
    intro b46 c46
    try simp +decide only [go_sem, c0, hw1, Int.toNat_natCast, c1, c2]
    repeat with_reducible refine an_ ?_
    refine hκ _ _ ?_; clear hκ hξ ξ κ
    refine rr_ [0, 3, 4, 5] [] [] fun κ ξ hκ hξ => ?_
    try simp +decide only [go_sem, c0, hw1, Int.toNat_natCast, c1, c2]
    repeat with_reducible refine an_ ?_
    refine hκ _ _ ?_; clear hκ hξ ξ κ
    refine sr_ [0, 3, 4, 5, 56] [] [(4, 51)] fun κ ξ hκ hξ => ?_
    try simp +decide only [go_sem, c0, hw1, Int.toNat_natCast, c1, c2]
    repeat with_reducible refine an_ ?_
    refine hκ _ _ ?_; clear hκ hξ ξ κ
    refine cd_ (fun c3 => ?_) (fun c3 => ?_)
    ·simp only [go_sem, decide_eq_true_eq, decide_eq_false_iff_not, Bool.and_eq_true, Bool.and_eq_false_iff, Bool.not_eq_true', Bool.not_eq_false'] at c3
     have hil : i < s.length := by omega
     have hone := one_at hil
     have hq32 : ¬ sat s i = 32 := c3.2
     have hq : sat s i = 40 ∨ sat s i = 41 := by unfold sat; omega
     refine rr_ [0, 3, 4, 5] [] [] fun κ ξ hκ hξ => ?_
     try simp +decide only [go_sem, c0, hw1, Int.toNat_natCast, c1, c2, c3, hone]
     repeat with_reducible refine an_ ?_
     first | (refine napp_grow0 (o := some (b46, c46)) (fun h => by cases h) (by simp only [List.length_append, List.length_map, List.length_singleton]) rfl rfl (by simp +decide only [go_sem, Option.isSome_some]) tf209 tf210 tf77 (by refine ⟨⟨rfl, by decide, by decide⟩, by simp +decide only [go_sem], by simp, ?_⟩; simp [capB]; omega) ?_) | (refine napp_grow0 (o := o) (rows := out.map srow) ho (by simp only [List.length_append, List.length_map, List.length_singleton]) rfl rfl (by simp +decide only [go_sem, Option.isSome_some]) tf209 tf210 tf77 (by refine ⟨⟨rfl, by decide, by decide⟩, by simp +decide only [go_sem], by simp, ?_⟩; simp [capB]; omega) ?_)
     intro b64 c64
     try simp +decide only [go_sem, c0, hw1, Int.toNat_natCast, c1, c2, c3, hone]
     repeat with_reducible refine an_ ?_
     refine hκ _ _ ?_; clear hκ hξ ξ κ
     refine rr_ [0, 3, 4, 5] [] [] fun κ ξ hκ hξ => ?_
     try simp +decide only [go_sem, c0, hw1, Int.toNat_natCast, c1, c2, c3, hone]
     repeat with_reducible refine an_ ?_
     refine hκ _ _ ?_; clear hκ hξ ξ κ
     refine ⟨(i + 1, [], out ++ [w] ++ [[s.getD i 0]], some (b64, c64)), ⟨⟨fun _ => by rw [tokB hil (ht c0) hq32 hq, hfl], fun h => by simp only at h; omega, by simp only; omega, by simp, by simp only [List.length_append, List.length_singleton]; omega, fun h => by cases h⟩, by simp only; omega⟩, EnvLe.of_eq ?_, ?_⟩
     ·simp only [List.map_append, List.map_cons, List.map_nil, srow] <;> rfl
     ·simp only [List.length_append, List.length_singleton] <;> exact .refl _
    ·simp only [go_sem, decide_eq_true_eq, decide_eq_false_iff_not, Bool.and_eq_true, Bool.and_eq_false_iff, Bool.not_eq_true', Bool.not_eq_false'] at c3
     have hq32 : i < s.length → sat s i = 32 := fun hil => by unfold sat; omega
     refine sk ?_
     refine rr_ [0, 3, 4, 5] [] [] fun κ ξ hκ hξ => ?_
     try simp +decide only [go_sem, c0, hw1, Int.toNat_natCast, c1, c2, c3]
     repeat with_reducible refine an_ ?_
     refine hκ _ _ ?_; clear hκ hξ ξ κ
     refine ⟨(i + 1, [], out ++ [w], some (b46, c46)), ⟨⟨fun h => by rw [(tokC c0 (ht c0) hq32).1 h, hfl], fun h => by rw [(tokC c0 (ht c0) hq32).2 h, hfl], by simp only; omega, by simp, by simp only [List.length_append, List.length_singleton]; omega, fun h => by cases h⟩, by simp only; omega⟩, EnvLe.of_eq ?_, ?_⟩
     ·simp only [List.map_append, List.map_cons, List.map_nil, srow] <;> rfl
     ·simp only [List.length_append, List.length_singleton] <;> exact .refl _
   ·simp only [go_sem, decide_eq_true_eq, decide_eq_false_iff_not, Bool.and_eq_true, Bool.and_eq_false_iff, Bool.not_eq_true', Bool.not_eq_false'] at c2
    obtain rfl : w = [] := by simpa using c2
    have hfl : fl ([] : W) = [] := rfl
    refine sk ?_
    refine sr_ [0, 3, 4, 5, 56] [] [(4, 51)] fun κ ξ hκ hξ => ?_
    try simp +decide only [go_sem, c0, hw1, Int.toNat_natCast, c1, c2]
    repeat with_reducible refine an_ ?_
    refine hκ _ _ ?_; clear hκ hξ ξ κ
    refine cd_ (fun c4 => ?_) (fun c4 => ?_)
    ·simp only [go_sem, decide_eq_true_eq, decide_eq_false_iff_not, Bool.and_eq_true, Bool.and_eq_false_iff, Bool.not_eq_true', Bool.not_eq_false'] at c4
     have hil : i < s.length := by omega
     have hone := one_at hil
     have hq32 : ¬ sat s i = 32 := c4.2
     have hq : sat s i = 40 ∨ sat s i = 41 := by unfold sat; omega
     refine rr_ [0, 3, 4, 5] [] [] fun κ ξ hκ hξ => ?_
     try simp +decide only [go_sem, c0, hw1, Int.toNat_natCast, c1, c2, c4, hone]
     repeat with_reducible refine an_ ?_
     first | (refine napp_grow0 (o := some (b46, c46)) (fun h => by cases h) (by simp only [List.length_append, List.length_map, List.length_singleton]) rfl rfl (by simp +decide only [go_sem, Option.isSome_some]) tf209 tf210 tf77 (by refine ⟨⟨rfl, by decide, by decide⟩, by simp +decide only [go_sem], by simp, ?_⟩; simp [capB]; omega) ?_) | (refine napp_grow0 (o := o) (rows := out.map srow) ho (by simp only [List.length_append, List.length_map, List.length_singleton]) rfl rfl (by simp +decide only [go_sem, Option.isSome_some]) tf209 tf210 tf77 (by refine ⟨⟨rfl, by decide, by decide⟩, by simp +decide only [go_sem], by simp, ?_⟩; simp [capB]; omega) ?_)
     intro b64 c64
     try simp +decide only [go_sem, c0, hw1, Int.toNat_natCast, c1, c2, c4, hone]
     repeat with_reducible refine an_ ?_
     refine hκ _ _ ?_; clear hκ hξ ξ κ
     refine rr_ [0, 3, 4, 5] [] [] fun κ ξ hκ hξ => ?_
     try simp +decide only [go_sem, c0, hw1, Int.toNat_natCast, c1, c2, c4, hone]
     repeat with_reducible refine an_ ?_
     refine hκ _ _ ?_; clear hκ hξ ξ κ
     refine ⟨(i + 1, [], out ++ [[s.getD i 0]], some (b64, c64)), ⟨⟨fun _ => by rw [tokB hil (ht c0) hq32 hq, hfl, List.append_nil], fun h => by simp only at h; omega, by simp only; omega, by simp, by simp only [List.length_append, List.length_singleton]; omega, fun h => by cases h⟩, by simp only; omega⟩, EnvLe.of_eq ?_, ?_⟩
     ·simp only [List.map_append, List.map_cons, List.map_nil, srow] <;> rfl
     ·simp only [List.length_append, List.length_singleton] <;> exact .refl _
    ·simp only [go_sem, decide_eq_true_eq, decide_eq_false_iff_not, Bool.and_eq_true, Bool.and_eq_false_iff, Bool.not_eq_true', Bool.not_eq_false'] at c4
     have hq32 : i < s.length → sat s i = 32 := fun hil => by unfold sat; omega
     refine sk ?_
     refine rr_ [0, 3, 4, 5] [] [] fun κ ξ hκ hξ => ?_
     try simp +decide only [go_sem, c0, hw1, Int.toNat_natCast, c1, c2, c4]
     repeat with_reducible refine an_ ?_
     refine hκ _ _ ?_; clear hκ hξ ξ κ
     refine ⟨(i + 1, [], out, o), ⟨⟨fun h => by rw [(tokC c0 (ht c0) hq32).1 h, hfl, List.append_nil], fun h => by rw [(tokC c0 (ht c0) hq32).2 h, hfl, List.append_nil], by simp only; omega, by simp, by simp only; omega, ho⟩, by simp only; omega⟩, EnvLe.of_eq rfl, .refl _⟩
 ·simp only [go_sem, decide_eq_true_eq, decide_eq_false_iff_not, Bool.and_eq_true, Bool.and_eq_false_iff, Bool.not_eq_true', Bool.not_eq_false'] at c0
  refine ex ?_
  refine sr_ [2] [] [] fun κ ξ hκ hξ => ?_
  try simp +decide only [go_sem, c0]
  repeat with_reducible refine an_ ?_
  refine hκ _ _ ?_; clear hκ hξ ξ κ
  refine rt ?_
  refine retL ?_
  simp +decide only [go_sem, resD, resV, c0]
  rw [wds_eq, ht2 (by omega)]
  exact apD_le 1 ho
end Go.Proofs.YtfjnohmdilmfhaaGreatDoor
/- Claim: the reference's number. Printed by a tool of our own. -/
namespace Go.Proofs.YtfjnohmdilmfhaaGreatDoor
open Go Go.RowKit
set_option linter.unusedSimpArgs false
set_option linter.unusedVariables false
set_option maxHeartbeats 4000000
set_option maxRecDepth 100000
/-- The reference's number of a word; -1 if it is none. -/
def numR (w : W) : Int := if numB w = true then numV w else -1
theorem all_take {w : W} {i : Nat} (hi : i ≤ w.length) (h : ∀ j, j < i → dgB (w.getD j 0) = true) : (w.take i).all dgB = true := by
 rw [List.all_eq_true]
 intro x hx
 obtain ⟨j, hj, rfl⟩ := List.getElem_of_mem hx
 rw [List.length_take] at hj
 have := h j (by omega)
 rw [List.getElem_take]
 simpa [show j < w.length by omega] using this
theorem numB_no {w : W} {i : Nat} (hi : i < w.length) (h : dgB (w.getD i 0) = false) : numB w = false := by
 unfold numB
 have : w.all dgB = false := by
  rw [List.all_eq_false]
  refine ⟨w[i], List.getElem_mem hi, ?_⟩
  have e : w.getD i 0 = w[i] := by simp [hi]
  rw [← e, h]; simp
 rw [this, Bool.and_false, Bool.false_and]
attribute [local go_sem] List.length_map rowAt_n nrow rowAt_t trow rowAt_i irow
attribute [local go_sem] rowAt_c rowAt_sn rowAt_bx snrow bxrow
attribute [local go_sem] rowAt_s srow rwz List.append_eq
theorem rnu_w (w : W) (hw : w.length ≤ 1000000) : PCall Tryz.prog (.func 91) [.str w] (.int .i64 (numR w)) := by
 refine PCall.le ?_
 refine fn_ Tryz.func91 (by rfl) (by rfl) (rs := [.tmp 2]) (by rfl) (by simp [Tryz.f91]) ?_
 refine sr_ [0] [] [] fun κ ξ hκ hξ => ?_
 try simp +decide only [go_sem]
 repeat with_reducible refine an_ ?_
 refine hκ _ _ ?_; clear hκ hξ ξ κ
 refine sq ?_
 refine sr_ [0, 22] [] [(3, 8), (8, 13), (12, 17)] fun κ ξ hκ hξ => ?_
 try simp +decide only [go_sem]
 repeat with_reducible refine an_ ?_
 refine hκ _ _ ?_; clear hκ hξ ξ κ
 refine cd_ (fun c0 => ?_) (fun c0 => ?_)
 ·simp only [go_sem, decide_eq_true_eq, decide_eq_false_iff_not, Bool.and_eq_true, Bool.and_eq_false_iff, Bool.not_eq_true', Bool.not_eq_false'] at c0
  refine sr_ [2] [] [] fun κ ξ hκ hξ => ?_
  try simp +decide only [go_sem, c0]
  repeat with_reducible refine an_ ?_
  refine hκ _ _ ?_; clear hκ hξ ξ κ
  refine rt ?_
  refine retL ?_
  simp +decide only [go_sem, resD, resV, c0]
  have hn : numB w = false := by
   unfold numB
   by_cases hl : 1 ≤ w.length ∧ w.length ≤ 10
   ·rw [Bool.and_eq_false_iff]
    refine .inr ?_
    rw [Bool.not_eq_false', Bool.and_eq_true, decide_eq_true_eq, decide_eq_true_eq]
    refine ⟨?_, by omega⟩
    rw [← UInt8.toNat_inj]
    show (w.getD 0 0).toNat = 48
    omega
   ·rw [decide_eq_false hl]; simp
  rw [show numR w = -1 from if_neg (by rw [hn]; simp)]
  exact DLe.refl _
 ·simp only [go_sem, decide_eq_true_eq, decide_eq_false_iff_not, Bool.and_eq_true, Bool.and_eq_false_iff, Bool.not_eq_true', Bool.not_eq_false'] at c0
  have hlen : 1 ≤ w.length ∧ w.length ≤ 10 := by omega
  have hz : ¬ (w.getD 0 0 = 48 ∧ 1 < w.length) := by rintro ⟨h1, h2⟩; rw [h1] at c0; simp at c0; omega
  refine sk ?_
  refine sr_ [0, 3] [] [] fun κ ξ hκ hξ => ?_
  try simp +decide only [go_sem, c0]
  repeat with_reducible refine an_ ?_
  refine hκ _ _ ?_; clear hκ hξ ξ κ
  refine sq ?_
  refine sr_ [0, 3, 4] [] [] fun κ ξ hκ hξ => ?_
  try simp +decide only [go_sem, c0]
  repeat with_reducible refine an_ ?_
  refine hκ _ _ ?_; clear hκ hξ ξ κ
  refine bl ?_
  refine lp (α := Nat) (fun i => mk [(0, .str w), (3, .int .i64 (numV (w.take i))), (4, .int .i64 i)]) (fun _ => []) (fun i => i ≤ w.length ∧ ∀ j, j < i → dgB (w.getD j 0) = true) (fun i => w.length - i) 0 ⟨⟨by omega, by intro j hj; omega⟩, EnvLe.of_eq rfl, .refl _⟩ ?_
  rintro i ⟨hi, hj⟩
  have hbd := numV_lt (all_take hi hj) (by rw [List.length_take]; omega)
  refine sq ?_
  refine sr_ [0, 3, 4, 26] [] [] fun κ ξ hκ hξ => ?_
  try simp +decide only [go_sem, c0]
  repeat with_reducible refine an_ ?_
  refine hκ _ _ ?_; clear hκ hξ ξ κ
  refine cd_ (fun c1 => ?_) (fun c1 => ?_)
  ·simp only [go_sem, decide_eq_true_eq, decide_eq_false_iff_not, Bool.and_eq_true, Bool.and_eq_false_iff, Bool.not_eq_true', Bool.not_eq_false'] at c1
   have hil : i < w.length := by omega
   have hw1 : IntKind.wrap .i64 ((i : Int) + 1) = ((i + 1 : Nat) : Int) := w64 (n := (i : Int) + 1) (by omega)
   refine sk ?_
   refine sq ?_
   refine bl ?_
   refine sq ?_
   refine sr_ [0, 3, 4, 38] [] [(4, 33)] fun κ ξ hκ hξ => ?_
   try simp +decide only [go_sem, c0, c1, hw1]
   repeat with_reducible refine an_ ?_
   refine hκ _ _ ?_; clear hκ hξ ξ κ
   refine cd_ (fun c2 => ?_) (fun c2 => ?_)
   ·simp only [go_sem, decide_eq_true_eq, decide_eq_false_iff_not, Bool.and_eq_true, Bool.and_eq_false_iff, Bool.not_eq_true', Bool.not_eq_false'] at c2
    have hdg : dgB (w.getD i 0) = false := by unfold dgB; rw [decide_eq_false_iff_not]; omega
    refine sr_ [2] [] [] fun κ ξ hκ hξ => ?_
    try simp +decide only [go_sem, c0, c1, hw1, c2]
    repeat with_reducible refine an_ ?_
    refine hκ _ _ ?_; clear hκ hξ ξ κ
    refine rt ?_
    refine retL ?_
    simp +decide only [go_sem, resD, resV, c0, c1, hw1, c2]
    rw [show numR w = -1 from if_neg (by rw [numB_no hil hdg]; simp)]
    exact DLe.refl _
   ·simp only [go_sem, decide_eq_true_eq, decide_eq_false_iff_not, Bool.and_eq_true, Bool.and_eq_false_iff, Bool.not_eq_true', Bool.not_eq_false'] at c2
    have hdg : dgB (w.getD i 0) = true := by unfold dgB; rw [decide_eq_true_eq]; omega
    have hd2 := of_decide_eq_true hdg
    have hwu : IntKind.wrap .u8 (((w.getD i 0).toNat : Int) - 48) = ((w.getD i 0).toNat : Int) - 48 := wu8 (by omega)
    have hwm : IntKind.wrap .i64 (10 * numV (w.take i)) = 10 * numV (w.take i) := w64 (by omega)
    have hwc : IntKind.wrap .i64 (((w.getD i 0).toNat : Int) - 48) = ((w.getD i 0).toNat : Int) - 48 := w64 (by omega)
    have hwa : IntKind.wrap .i64 (10 * numV (w.take i) + (((w.getD i 0).toNat : Int) - 48)) = 10 * numV (w.take i) + (((w.getD i 0).toNat : Int) - 48) := w64 (by omega)
    refine sk ?_
    refine rr_ [0, 3, 4] [] [] fun κ ξ hκ hξ => ?_
    try simp +decide only [go_sem, c0, c1, hw1, c2, hwu, hwm, hwa, hwc]
    repeat with_reducible refine an_ ?_
    refine hκ _ _ ?_; clear hκ hξ ξ κ
    refine rr_ [0, 3, 4] [] [] fun κ ξ hκ hξ => ?_
    try simp +decide only [go_sem, c0, c1, hw1, c2, hwu, hwm, hwa, hwc]
    repeat with_reducible refine an_ ?_
    refine hκ _ _ ?_; clear hκ hξ ξ κ
    refine ⟨i + 1, ⟨⟨by omega, ?_⟩, by omega⟩, EnvLe.of_eq (by rw [numV_take hil]; unfold sat; rfl), .refl _⟩
    intro j h
    rcases Nat.lt_succ_iff_lt_or_eq.1 h with h | rfl
    ·exact hj j h
    ·exact hdg
  ·simp only [go_sem, decide_eq_true_eq, decide_eq_false_iff_not, Bool.and_eq_true, Bool.and_eq_false_iff, Bool.not_eq_true', Bool.not_eq_false'] at c1
   refine ex ?_
   refine sr_ [2] [] [] fun κ ξ hκ hξ => ?_
   try simp +decide only [go_sem, c0, c1]
   repeat with_reducible refine an_ ?_
   refine hκ _ _ ?_; clear hκ hξ ξ κ
   refine rt ?_
   refine retL ?_
   simp +decide only [go_sem, resD, resV, c0, c1]
   obtain rfl : i = w.length := by omega
   rw [List.take_length] at *
   have hn : numB w = true := by
    unfold numB
    have ha := all_take (Nat.le_refl w.length) hj
    rw [List.take_length] at ha
    rw [decide_eq_true hlen, ha, Bool.true_and, Bool.true_and, Bool.not_eq_true', Bool.and_eq_false_iff, decide_eq_false_iff_not, decide_eq_false_iff_not]
    by_cases h1 : w.getD 0 0 = 48
    ·exact .inr fun h2 => hz ⟨h1, h2⟩
    ·exact .inl h1
   rw [show numR w = numV w from if_pos hn]
   exact DLe.refl _
end Go.Proofs.YtfjnohmdilmfhaaGreatDoor
