/- Claim: the reference's group. Printed by a tool of our own. -/
import Derived.Test.YtfjnohmdilmfhaaGreatDoorY08
import Derived.Test.YtfjnohmdilmfhaaGreatDoorY06
import Derived.Test.YtfjnohmdilmfhaaGreatDoorY09
import Derived.Test.YtfjnohmdilmfhaaGreatDoorY03
import Derived.Test.YtfjnohmdilmfhaaGreatDoorRows
import Derived.Test.YtfjnohmdilmfhaaGreatDoorCards
import Derived.Test.YtfjnohmdilmfhaaGreatDoorTie
import Derived.ProofKit
import Derived.LaidMore
import Derived.Lay
import Derived.Lib.LaidTab
import Derived.Shelf.Vars
namespace Go.Proofs.YtfjnohmdilmfhaaGreatDoor
open Go Go.RowKit
set_option linter.unusedSimpArgs false
set_option linter.unusedVariables false
set_option maxHeartbeats 4000000
set_option maxRecDepth 100000
theorem rgr_at {g : Nat} {j : W} {ks : List Cl} {l r : List W} {c : Cl} {w : W} (hp : pcl g l = some (c, w :: r)) : rgr (g + 1) j ks l = if w = [41] then (if 2 ≤ ks.length + 1 ∧ ks.length + 1 ≤ 10 then some (.mk (if j = kOr then 7 else 6) 0 0 0 (ks ++ [c]), r) else none)
    else if (w = kAnd ∨ w = kOr) ∧ (j = [] ∨ j = w) then rgr g w (ks ++ [c]) r else none := by rw [rgr, hp]
theorem rgr_no {g : Nat} {j : W} {ks : List Cl} {l : List W} (hp : pcl g l = none ∨ ∃ c, pcl g l = some (c, [])) : rgr (g + 1) j ks l = none := by
 rw [rgr]
 rcases hp with hp | ⟨c, hp⟩ <;> rw [hp]
attribute [local go_sem] List.length_map rowAt_n nrow rowAt_t trow rowAt_i irow
attribute [local go_sem] rowAt_c rowAt_sn rowAt_bx snrow bxrow
attribute [local go_sem] rowAt_s srow rwz List.append_eq
theorem rg_s (f : Nat) (hR : ∀ g, g < f + 1 → ∀ (ws : List W) (t : Tok) (lv : Int), 2 * ws.length + 2 ≤ g → nbW ws → ws.length ≤ 100000 → RCall Tryz.prog (.func 33) [.sl 1 (ws.map srow) t, .int .i64 lv] [] rdF (fun _ => []) (okR (pcl g ws))) (ws : List W) (t : Tok) (lv : Int) (hl : 2 * ws.length + 3 ≤ f + 1) (hnb : nbW ws) (hw : ws.length ≤ 100000) : RCall Tryz.prog (.func 68) [.sl 1 (ws.map srow) t, .int .i64 lv] [] rdF (fun _ => []) (okR (pgp (f + 1) ws)) := by
 refine RCall.le ?_
 have hbt7 : True := trivial; have hbt4 : True := trivial; have hb7t : True := trivial; have hb4t : True := trivial; have hb9 : True := trivial; have hb33 : True := trivial; have hb34 : True := trivial; have hb35 : True := trivial
 refine fn_ Tryz.func68 (by rfl) (by rfl) (rs := [.cell 4 25, .tmp 5, .tmp 6]) (by rfl) (by simp [Tryz.f68]) ?_
 refine sr_ [0, 1, 4] [] [] fun κ ξ hκ hξ => ?_
 try simp +decide only [go_sem, wat_0, drop_1, List.take_length, Int.toNat_one, hbt7, hbt4, hb7t, hb4t, hb9, hb33, hb34, hb35]
 repeat with_reducible refine an_ ?_
 intro b4 hb4
 try simp +decide only [go_sem, wat_0, drop_1, List.take_length, Int.toNat_one, hbt7, hbt4, hb7t, hb4t, hb9, hb33, hb34, hb35, hb4]
 repeat with_reducible refine an_ ?_
 refine hκ _ _ ?_; clear hκ hξ ξ κ
 refine sr_ [0, 1, 4, 7] [] [] fun κ ξ hκ hξ => ?_
 try simp +decide only [go_sem, wat_0, drop_1, List.take_length, Int.toNat_one, hbt7, hbt4, hb7t, hb4t, hb9, hb33, hb34, hb35, hb4]
 repeat with_reducible refine an_ ?_
 intro b7 hb7
 try simp +decide only [go_sem, wat_0, drop_1, List.take_length, Int.toNat_one, hbt7, hbt4, hb7t, hb4t, hb9, hb33, hb34, hb35, hb4, hb7]
 repeat with_reducible refine an_ ?_
 refine hκ _ _ ?_; clear hκ hξ ξ κ
 refine sr_ [0, 1, 4, 7, 8] [] [] fun κ ξ hκ hξ => ?_
 try simp +decide only [go_sem, wat_0, drop_1, List.take_length, Int.toNat_one, hbt7, hbt4, hb7t, hb4t, hb9, hb33, hb34, hb35, hb4, hb7]
 repeat with_reducible refine an_ ?_
 refine hκ _ _ ?_; clear hκ hξ ξ κ
 refine bl ?_
 refine lp (α := Nat × W × List Cl × List W × Option (Nat × Nat)) (fun y => mk [(0, .sl 1 (y.2.2.2.1.map srow) .no), (1, .int .i64 lv), (4, .ptr b4 0), (7, .ptr b7 0), (8, .str y.2.1)]) (fun y => apS 5 y.2.2.1.length y.2.2.2.2 ++ [(b7, .cells [.int .i64 0, .int .i64 0, .int .i64 0, .int .i64 0, kN (y.2.2.1.map crow) y.2.2.2.2]), (b4, .cells [.int .i64 0, .int .i64 0, .int .i64 0, .int .i64 0, .sl 0 [] .nil])]) (fun y => pgp (f + 1) ws = rgr y.1 y.2.1 y.2.2.1 y.2.2.2.1 ∧ 2 * y.2.2.2.1.length + 3 ≤ y.1 ∧ y.1 ≤ f + 1 ∧ nbW y.2.2.2.1 ∧ y.2.2.1.length + y.2.2.2.1.length ≤ 100000 ∧ (y.2.2.2.2 = none → y.2.2.1 = []) ∧ ∀ b' c', y.2.2.2.2 = some (b', c') → b' ≠ b7 ∧ b' ≠ b4) (fun y => y.1) (f + 1, [], [], ws, none) ⟨⟨(rgr_pgp f ws).symm, by simp only; omega, Nat.le_refl _, hnb, by simpa using hw, fun _ => rfl, fun _ _ h => by cases h⟩, EnvLe.cons (DLe.tok _ _ _) (EnvLe.of_eq rfl), .refl _⟩ ?_
 rintro ⟨g, j, ks, l, o⟩ ⟨hpg, hfl, hgf, hnl, hkl, hko, hbo⟩
 simp only at hpg hfl hgf hnl hkl hko hbo ⊢
 obtain ⟨g, rfl⟩ : ∃ g', g = g' + 1 := ⟨g - 1, by omega⟩
 have hKs : (ks.map crow).length = ks.length := List.length_map ..
 refine bl ?_
 refine sq ?_
 rcases o with _ | ⟨bt, ct⟩
 ·have hbt7 : True := trivial; have hbt4 : True := trivial; have hb7t : True := trivial; have hb4t : True := trivial
  have hK0 := hko rfl
  change AWp _ _ _ _ _ _ _
  refine weak (mk [(0, .sl 1 (l.map srow) .no), (1, .int .i64 lv), (4, .ptr b4 0), (7, .ptr b7 0), (8, .str j)]) (EnvLe.refl _) (σ' := [(b7, .cells [.int .i64 0, .int .i64 0, .int .i64 0, .int .i64 0, .sl 0 [] .nil]), (b4, .cells [.int .i64 0, .int .i64 0, .int .i64 0, .int .i64 0, .sl 0 [] .nil])]) (.refl _) ?_
  refine rr_ [1, 4, 7, 8, 9, 10, 11] [] [] fun κ ξ hκ hξ => ?_
  try simp +decide only [go_sem, wat_0, drop_1, List.take_length, Int.toNat_one, hbt7, hbt4, hb7t, hb4t, hb9, hb33, hb34, hb35, hb4, hb7]
  repeat with_reducible refine an_ ?_
  refine callR0 (hR g (by omega) l .no _ (by omega) hnl (by omega)) fun y hy => ?_
  try simp only [rdF]
  try simp +decide only [go_sem, wat_0, drop_1, List.take_length, Int.toNat_one, hbt7, hbt4, hb7t, hb4t, hb9, hb33, hb34, hb35, hb4, hb7]
  repeat with_reducible refine an_ ?_
  intro b9 hb9
  try simp +decide only [go_sem, wat_0, drop_1, List.take_length, Int.toNat_one, hbt7, hbt4, hb7t, hb4t, hb9, hb33, hb34, hb35, hb4, hb7]
  repeat with_reducible refine an_ ?_
  refine hκ _ _ ?_; clear hκ hξ ξ κ
  refine sq ?_
  refine sr_ [1, 4, 7, 8, 9, 10, 26] [] [(2, 22)] fun κ ξ hκ hξ => ?_
  try simp +decide only [go_sem, wat_0, drop_1, List.take_length, Int.toNat_one, hbt7, hbt4, hb7t, hb4t, hb9, hb33, hb34, hb35, hb4, hb7]
  repeat with_reducible refine an_ ?_
  refine hκ _ _ ?_; clear hκ hξ ξ κ
  refine cd_ (fun c0 => ?_) (fun c0 => ?_)
  ·simp only [go_sem, decide_eq_true_eq, decide_eq_false_iff_not, Bool.and_eq_true, Bool.and_eq_false_iff, Bool.not_eq_true', Bool.not_eq_false'] at c0
   have hno : rgr (g + 1) j ks l = none := by
    cases hp : pcl g l with
    | none => exact rgr_no (.inl hp)
    | some x =>
     obtain ⟨c, r0⟩ := x
     rw [hp] at hy
     cases (show y = (c, r0, true) from hy)
     cases r0 with
     | nil => exact rgr_no (.inr ⟨c, hp⟩)
     | cons w r => simp at c0; omega
   refine sr_ [4, 5, 6] [] [] fun κ ξ hκ hξ => ?_
   try simp +decide only [go_sem, wat_0, drop_1, List.take_length, Int.toNat_one, hbt7, hbt4, hb7t, hb4t, hb9, hb33, hb34, hb35, hb4, hb7, c0]
   repeat with_reducible refine an_ ?_
   refine hκ _ _ ?_; clear hκ hξ ξ κ
   refine rt ?_
   refine retRL rdNo (List.nil_sublist _) (by rw [hpg, hno]; rfl) ⟨by simp +decide only [go_sem, resD, resV, hb7, hb9, hb33, hb34, hb35, hbt4, hb4t, hbt7, hb7t, ↓reduceIte], ?_⟩
   simp +decide only [go_sem, resD, resV, hb7, hb9, hb33, hb34, hb35, hbt4, hb4t, hbt7, hb7t, ↓reduceIte]
   exact DLe.tup ⟨DLe.ag ⟨DLe.refl _, DLe.refl _, DLe.refl _, DLe.refl _, DLe.nil _ _ _, trivial⟩, DLe.nil _ _ _, DLe.refl _, trivial⟩
  ·simp only [go_sem, decide_eq_true_eq, decide_eq_false_iff_not, Bool.and_eq_true, Bool.and_eq_false_iff, Bool.not_eq_true', Bool.not_eq_false'] at c0
   obtain ⟨c, w, r, hp, rfl⟩ : ∃ c w r, pcl g l = some (c, w :: r) ∧ y = (c, w :: r, true) := by
    cases hp : pcl g l with
    | none => rw [hp] at hy; have hy : y.2.2 = false := hy; simp [hy] at c0
    | some x =>
     obtain ⟨c, r0⟩ := x
     rw [hp] at hy
     have hy : y = (c, r0, true) := hy
     cases r0 with
     | nil => subst hy; simp at c0
     | cons w r => exact ⟨c, w, r, rfl, hy⟩
   replace c0 : True := trivial
   have hlt := (pcl_lt g hp).1
   have hnr : nbW r := by obtain ⟨_, p, e⟩ := pcl_lt g hp; rw [e] at hnl; exact hnl.suf.tl
   simp only [List.length_cons] at hlt
   have hlen : (0 : Int) < ((r.length + 1 : Nat) : Int) ∧ (1 : Int) ≤ ((r.length + 1 : Nat) : Int) := by omega
   refine sk ?_
   refine sr_ [1, 4, 7, 8, 10] [] [] fun κ ξ hκ hξ => ?_
   try simp +decide only [go_sem, wat_0, drop_1, List.take_length, Int.toNat_one, hbt7, hbt4, hb7t, hb4t, hb9, hb33, hb34, hb35, hb4, hb7, c0, hlen]
   repeat with_reducible refine an_ ?_
   first | refine napp_n rfl rfl (by simp +decide only [go_sem, Option.isSome_some]) tf116 tf117 tf129 (by refine ⟨⟨rfl, by decide, by decide⟩, by simp +decide only [go_sem], by simp, ?_⟩; simp [capB]) ?_ | refine napp_ownT (n := ks.length) (List.length_map ..) rfl rfl (by simp +decide only [go_sem, Option.isSome_some]) tf116 tf117 tf129 (by refine ⟨⟨rfl, by decide, by decide⟩, by simp +decide only [go_sem], ?_⟩; simp [capB]; omega) (by simp [Store.get, hb9, hbt7, hbt4]) ?_
   intro b32 c32 hb32
   have hb33 : b32 ≠ b7 ∧ b32 ≠ b4 := by
    first | (rcases hb32 with rfl | hb32; · exact ⟨hbt7, hbt4⟩) | skip
    simp only [Store.keys, List.map_cons, List.map_nil, List.mem_cons, List.not_mem_nil, or_false, not_or] at hb32
    first | exact ⟨hb32.2.1, hb32.2.2⟩ | exact ⟨hb32.2.2.1, hb32.2.2.2⟩
   have hb34 := Ne.symm hb33.1
   have hb35 := Ne.symm hb33.2
   try simp only [Store.ren, hb9, if_false, if_true]
   try simp +decide only [go_sem, wat_0, drop_1, List.take_length, Int.toNat_one, hbt7, hbt4, hb7t, hb4t, hb9, hb33, hb34, hb35, hb4, hb7, c0, hlen]
   repeat with_reducible refine an_ ?_
   refine hκ _ _ ?_; clear hκ hξ ξ κ
   refine sq ?_
   refine sr_ [1, 4, 7, 8, 10, 37] [] [] fun κ ξ hκ hξ => ?_
   try simp +decide only [go_sem, wat_0, drop_1, List.take_length, Int.toNat_one, hbt7, hbt4, hb7t, hb4t, hb9, hb33, hb34, hb35, hb4, hb7, c0, hlen]
   repeat with_reducible refine an_ ?_
   refine hκ _ _ ?_; clear hκ hξ ξ κ
   refine cd_ (fun c1 => ?_) (fun c1 => ?_)
   ·simp only [go_sem, decide_eq_true_eq, decide_eq_false_iff_not, Bool.and_eq_true, Bool.and_eq_false_iff, Bool.not_eq_true', Bool.not_eq_false'] at c1
    have hw41 : w = [41] := c1
    refine sr_ [4, 7, 8, 10] [] [] fun κ ξ hκ hξ => ?_
    try simp +decide only [go_sem, wat_0, drop_1, List.take_length, Int.toNat_one, hbt7, hbt4, hb7t, hb4t, hb9, hb33, hb34, hb35, hb4, hb7, c0, hlen, c1]
    repeat with_reducible refine an_ ?_
    refine hκ _ _ ?_; clear hκ hξ ξ κ
    refine sq ?_
    refine sr_ [4, 7, 10, 40] [] [] fun κ ξ hκ hξ => ?_
    try simp +decide only [go_sem, wat_0, drop_1, List.take_length, Int.toNat_one, hbt7, hbt4, hb7t, hb4t, hb9, hb33, hb34, hb35, hb4, hb7, c0, hlen, c1]
    repeat with_reducible refine an_ ?_
    refine hκ _ _ ?_; clear hκ hξ ξ κ
    refine cd_ (fun c2 => ?_) (fun c2 => ?_)
    ·simp only [go_sem, decide_eq_true_eq, decide_eq_false_iff_not, Bool.and_eq_true, Bool.and_eq_false_iff, Bool.not_eq_true', Bool.not_eq_false'] at c2
     have hjo : (if j = kOr then (7 : Int) else 6) = 7 := if_pos c2
     replace c2 : True := trivial
     refine rr_ [4, 7, 10] [] [] fun κ ξ hκ hξ => ?_
     try simp +decide only [go_sem, wat_0, drop_1, List.take_length, Int.toNat_one, hbt7, hbt4, hb7t, hb4t, hb9, hb33, hb34, hb35, hb4, hb7, c0, hlen, c1, c2]
     repeat with_reducible refine an_ ?_
     refine hκ _ _ ?_; clear hκ hξ ξ κ
     refine sq ?_
     change AWp _ _ _ _ _ _ _
     refine rgt2 [4, 5, 6] [] [] [] [0, 1, 2, 3, 4, 5, 6, 7, 8, 9] .fin (by kernel_rfl) (by kernel_rfl) (Pk.cons rfl (Pk.cons rfl (Pk.cons rfl (Pk.cons rfl (Pk.cons rfl (Pk.cons rfl (Pk.cons rfl (Pk.cons rfl (Pk.cons rfl (Pk.cons rfl (Pk.nil))))))))))) ?_; intro κ ξ hκ hξ
     try simp +decide only [go_sem, wat_0, drop_1, List.take_length, Int.toNat_one, hbt7, hbt4, hb7t, hb4t, hb9, hb33, hb34, hb35, hb4, hb7, c0, hlen, c1, c2]
     repeat with_reducible refine an_ ?_
     refine callF (rin_w _ _ _) ?_
     try simp +decide only [go_sem, wat_0, drop_1, List.take_length, Int.toNat_one, hbt7, hbt4, hb7t, hb4t, hb9, hb33, hb34, hb35, hb4, hb7, c0, hlen, c1, c2]
     repeat with_reducible refine an_ ?_
     refine SET_fin ?_
     try simp +decide only [go_sem, wat_0, drop_1, List.take_length, Int.toNat_one, hbt7, hbt4, hb7t, hb4t, hb9, hb33, hb34, hb35, hb4, hb7, c0, hlen, c1, c2]
     repeat with_reducible refine an_ ?_
     refine hκ _ _ ?_; clear hκ hξ ξ κ
     refine rt ?_
     refine retRL (.mk 7 0 0 0 (ks ++ [c]), r, decide (2 ≤ ks.length + 1 ∧ ks.length + 1 ≤ 10)) (List.nil_sublist _) (by
         rw [hpg, rgr_at hp, if_pos hw41, hjo]
         by_cases h : 2 ≤ ks.length + 1 ∧ ks.length + 1 ≤ 10
         · rw [if_pos h, decide_eq_true h]; rfl
         · rw [if_neg h, decide_eq_false h]; rfl) ⟨by simp +decide only [go_sem, resD, resV, hb7, hb9, hb33, hb34, hb35, hbt4, hb4t, hbt7, hb7t, ↓reduceIte], ?_⟩
     simp +decide only [go_sem, resD, resV, hb7, hb9, hb33, hb34, hb35, hbt4, hb4t, hbt7, hb7t, ↓reduceIte]
     simp only [rdF, Cl.op, Cl.a, Cl.b, Cl.n, Cl.kids]
     simp only [kN, apS, hK0, List.map_append, List.map_cons, List.map_nil, crow_eq, List.length_append, List.length_cons, List.length_nil, List.length_singleton, List.cons_append, List.nil_append, Nat.zero_add]
     refine DLe.tup ⟨DLe.ag ⟨DLe.refl _, DLe.refl _, DLe.refl _, DLe.refl _, DLe.tok _ _ _, trivial⟩, DLe.refl _, DLe.of_eq ?_, trivial⟩
     first | rfl | (congr 1; done) | (congr 1; rw [decide_eq_decide]; done) | (congr 1; rw [decide_eq_decide]; omega)
    ·simp only [go_sem, decide_eq_true_eq, decide_eq_false_iff_not, Bool.and_eq_true, Bool.and_eq_false_iff, Bool.not_eq_true', Bool.not_eq_false'] at c2
     have hjo : (if j = kOr then (7 : Int) else 6) = 6 := if_neg c2
     refine sk ?_
     refine sq ?_
     change AWp _ _ _ _ _ _ _
     refine rgt2 [4, 5, 6] [] [] [] [0, 1, 2, 3, 4, 5, 6, 7, 8, 9] .fin (by kernel_rfl) (by kernel_rfl) (Pk.cons rfl (Pk.cons rfl (Pk.cons rfl (Pk.cons rfl (Pk.cons rfl (Pk.cons rfl (Pk.cons rfl (Pk.cons rfl (Pk.cons rfl (Pk.cons rfl (Pk.nil))))))))))) ?_; intro κ ξ hκ hξ
     try simp +decide only [go_sem, wat_0, drop_1, List.take_length, Int.toNat_one, hbt7, hbt4, hb7t, hb4t, hb9, hb33, hb34, hb35, hb4, hb7, c0, hlen, c1, c2]
     repeat with_reducible refine an_ ?_
     refine callF (rin_w _ _ _) ?_
     try simp +decide only [go_sem, wat_0, drop_1, List.take_length, Int.toNat_one, hbt7, hbt4, hb7t, hb4t, hb9, hb33, hb34, hb35, hb4, hb7, c0, hlen, c1, c2]
     repeat with_reducible refine an_ ?_
     refine SET_fin ?_
     try simp +decide only [go_sem, wat_0, drop_1, List.take_length, Int.toNat_one, hbt7, hbt4, hb7t, hb4t, hb9, hb33, hb34, hb35, hb4, hb7, c0, hlen, c1, c2]
     repeat with_reducible refine an_ ?_
     refine hκ _ _ ?_; clear hκ hξ ξ κ
     refine rt ?_
     refine retRL (.mk 6 0 0 0 (ks ++ [c]), r, decide (2 ≤ ks.length + 1 ∧ ks.length + 1 ≤ 10)) (List.nil_sublist _) (by
         rw [hpg, rgr_at hp, if_pos hw41, hjo]
         by_cases h : 2 ≤ ks.length + 1 ∧ ks.length + 1 ≤ 10
         · rw [if_pos h, decide_eq_true h]; rfl
         · rw [if_neg h, decide_eq_false h]; rfl) ⟨by simp +decide only [go_sem, resD, resV, hb7, hb9, hb33, hb34, hb35, hbt4, hb4t, hbt7, hb7t, ↓reduceIte], ?_⟩
     simp +decide only [go_sem, resD, resV, hb7, hb9, hb33, hb34, hb35, hbt4, hb4t, hbt7, hb7t, ↓reduceIte]
     simp only [rdF, Cl.op, Cl.a, Cl.b, Cl.n, Cl.kids]
     simp only [kN, apS, hK0, List.map_append, List.map_cons, List.map_nil, crow_eq, List.length_append, List.length_cons, List.length_nil, List.length_singleton, List.cons_append, List.nil_append, Nat.zero_add]
     refine DLe.tup ⟨DLe.ag ⟨DLe.refl _, DLe.refl _, DLe.refl _, DLe.refl _, DLe.tok _ _ _, trivial⟩, DLe.refl _, DLe.of_eq ?_, trivial⟩
     first | rfl | (congr 1; done) | (congr 1; rw [decide_eq_decide]; done) | (congr 1; rw [decide_eq_decide]; omega)
   ·simp only [go_sem, decide_eq_true_eq, decide_eq_false_iff_not, Bool.and_eq_true, Bool.and_eq_false_iff, Bool.not_eq_true', Bool.not_eq_false'] at c1
    have hw41 : ¬ w = [41] := c1
    refine sk ?_
    refine sq ?_
    refine sr_ [1, 4, 7, 10, 69] [] [(4, 53), (10, 59), (13, 62)] fun κ ξ hκ hξ => ?_
    try simp +decide only [go_sem, wat_0, drop_1, List.take_length, Int.toNat_one, hbt7, hbt4, hb7t, hb4t, hb9, hb33, hb34, hb35, hb4, hb7, c0, hlen, c1]
    repeat with_reducible refine an_ ?_
    refine hκ _ _ ?_; clear hκ hξ ξ κ
    refine cd_ (fun c3 => ?_) (fun c3 => ?_)
    ·simp only [go_sem, decide_eq_true_eq, decide_eq_false_iff_not, Bool.and_eq_true, Bool.and_eq_false_iff, Bool.not_eq_true', Bool.not_eq_false'] at c3
     have hno : rgr (g + 1) j ks l = none := by
      rw [rgr_at hp, if_neg hw41, if_neg]
      rintro ⟨h1, h2⟩
      simp only [kAnd, kOr] at h1
      rcases c3 with ⟨h3, h4⟩ | ⟨h3, h4⟩
      ·exact h1.elim h3 h4
      ·exact h2.elim h3 h4
     refine sr_ [4, 5, 6] [] [] fun κ ξ hκ hξ => ?_
     try simp +decide only [go_sem, wat_0, drop_1, List.take_length, Int.toNat_one, hbt7, hbt4, hb7t, hb4t, hb9, hb33, hb34, hb35, hb4, hb7, c0, hlen, c1, c3]
     repeat with_reducible refine an_ ?_
     refine hκ _ _ ?_; clear hκ hξ ξ κ
     refine rt ?_
     refine retRL rdNo (List.nil_sublist _) (by rw [hpg, hno]; rfl) ⟨by simp +decide only [go_sem, resD, resV, hb7, hb9, hb33, hb34, hb35, hbt4, hb4t, hbt7, hb7t, ↓reduceIte], ?_⟩
     simp +decide only [go_sem, resD, resV, hb7, hb9, hb33, hb34, hb35, hbt4, hb4t, hbt7, hb7t, ↓reduceIte]
     exact DLe.tup ⟨DLe.ag ⟨DLe.refl _, DLe.refl _, DLe.refl _, DLe.refl _, DLe.nil _ _ _, trivial⟩, DLe.nil _ _ _, DLe.refl _, trivial⟩
    ·simp only [go_sem, decide_eq_true_eq, decide_eq_false_iff_not, Bool.and_eq_true, Bool.and_eq_false_iff, Bool.not_eq_true', Bool.not_eq_false'] at c3
     have hye : rgr (g + 1) j ks l = rgr g w (ks ++ [c]) r := by
      rw [rgr_at hp, if_neg hw41, if_pos]
      refine ⟨Decidable.byContradiction fun h => ?_, Decidable.byContradiction fun h => ?_⟩
      ·simp only [kAnd, kOr] at h; simp_all
      ·simp_all
     refine sk ?_
     refine sr_ [1, 4, 7, 8, 10] [] [] fun κ ξ hκ hξ => ?_
     try simp +decide only [go_sem, wat_0, drop_1, List.take_length, Int.toNat_one, hbt7, hbt4, hb7t, hb4t, hb9, hb33, hb34, hb35, hb4, hb7, c0, hlen, c1, c3]
     repeat with_reducible refine an_ ?_
     refine hκ _ _ ?_; clear hκ hξ ξ κ
     refine rr_ [0, 1, 4, 7, 8] [] [] fun κ ξ hκ hξ => ?_
     try simp +decide only [go_sem, wat_0, drop_1, List.take_length, Int.toNat_one, hbt7, hbt4, hb7t, hb4t, hb9, hb33, hb34, hb35, hb4, hb7, c0, hlen, c1, c3]
     repeat with_reducible refine an_ ?_
     refine hκ _ _ ?_; clear hκ hξ ξ κ
     refine ⟨(g, w, ks ++ [c], r, some (b32, c32)), ⟨⟨by rw [hpg, hye], by simp only; omega, by simp only; omega, hnr, by simp only [List.length_append, List.length_singleton]; omega, (fun h => by cases h), (fun b' c' h => by cases h; exact hb33)⟩, by simp only; omega⟩, EnvLe.of_l ⟨rfl, rfl, rfl, rfl, rfl, trivial⟩, ?_⟩
     simp only [kN, apS, hK0, List.map_append, List.map_cons, List.map_nil, crow_eq, List.length_append, List.length_cons, List.length_nil, List.length_singleton, List.cons_append, List.nil_append, Nat.zero_add]
     first | exact .cons _ (.refl _) | exact .cons_cons _ (.cons _ (.refl _))
 ·obtain ⟨hbt7, hbt4⟩ := hbo bt ct rfl
  have hb7t := Ne.symm hbt7
  have hb4t := Ne.symm hbt4; have hK0 : True := trivial
  change AWp _ _ _ _ _ _ _
  refine weak (mk [(0, .sl 1 (l.map srow) .no), (1, .int .i64 lv), (4, .ptr b4 0), (7, .ptr b7 0), (8, .str j)]) (EnvLe.refl _) (σ' := [(bt, .tail 5 ks.length ct), (b7, .cells [.int .i64 0, .int .i64 0, .int .i64 0, .int .i64 0, .sl 5 (ks.map crow) (.own bt ct)]), (b4, .cells [.int .i64 0, .int .i64 0, .int .i64 0, .int .i64 0, .sl 0 [] .nil])]) (.refl _) ?_
  refine rr_ [1, 4, 7, 8, 9, 10, 11] [] [] fun κ ξ hκ hξ => ?_
  try simp +decide only [go_sem, wat_0, drop_1, List.take_length, Int.toNat_one, hbt7, hbt4, hb7t, hb4t, hb9, hb33, hb34, hb35, hb4, hb7]
  repeat with_reducible refine an_ ?_
  refine callR0 (hR g (by omega) l .no _ (by omega) hnl (by omega)) fun y hy => ?_
  try simp only [rdF]
  try simp +decide only [go_sem, wat_0, drop_1, List.take_length, Int.toNat_one, hbt7, hbt4, hb7t, hb4t, hb9, hb33, hb34, hb35, hb4, hb7]
  repeat with_reducible refine an_ ?_
  intro b9 hb9
  try simp +decide only [go_sem, wat_0, drop_1, List.take_length, Int.toNat_one, hbt7, hbt4, hb7t, hb4t, hb9, hb33, hb34, hb35, hb4, hb7]
  repeat with_reducible refine an_ ?_
  refine hκ _ _ ?_; clear hκ hξ ξ κ
  refine sq ?_
  refine sr_ [1, 4, 7, 8, 9, 10, 26] [] [(2, 22)] fun κ ξ hκ hξ => ?_
  try simp +decide only [go_sem, wat_0, drop_1, List.take_length, Int.toNat_one, hbt7, hbt4, hb7t, hb4t, hb9, hb33, hb34, hb35, hb4, hb7]
  repeat with_reducible refine an_ ?_
  refine hκ _ _ ?_; clear hκ hξ ξ κ
  refine cd_ (fun c4 => ?_) (fun c4 => ?_)
  ·simp only [go_sem, decide_eq_true_eq, decide_eq_false_iff_not, Bool.and_eq_true, Bool.and_eq_false_iff, Bool.not_eq_true', Bool.not_eq_false'] at c4
   have hno : rgr (g + 1) j ks l = none := by
    cases hp : pcl g l with
    | none => exact rgr_no (.inl hp)
    | some x =>
     obtain ⟨c, r0⟩ := x
     rw [hp] at hy
     cases (show y = (c, r0, true) from hy)
     cases r0 with
     | nil => exact rgr_no (.inr ⟨c, hp⟩)
     | cons w r => simp at c4; omega
   refine sr_ [4, 5, 6] [] [] fun κ ξ hκ hξ => ?_
   try simp +decide only [go_sem, wat_0, drop_1, List.take_length, Int.toNat_one, hbt7, hbt4, hb7t, hb4t, hb9, hb33, hb34, hb35, hb4, hb7, c4]
   repeat with_reducible refine an_ ?_
   refine hκ _ _ ?_; clear hκ hξ ξ κ
   refine rt ?_
   refine retRL rdNo (List.nil_sublist _) (by rw [hpg, hno]; rfl) ⟨by simp +decide only [go_sem, resD, resV, hb7, hb9, hb33, hb34, hb35, hbt4, hb4t, hbt7, hb7t, ↓reduceIte], ?_⟩
   simp +decide only [go_sem, resD, resV, hb7, hb9, hb33, hb34, hb35, hbt4, hb4t, hbt7, hb7t, ↓reduceIte]
   exact DLe.tup ⟨DLe.ag ⟨DLe.refl _, DLe.refl _, DLe.refl _, DLe.refl _, DLe.nil _ _ _, trivial⟩, DLe.nil _ _ _, DLe.refl _, trivial⟩
  ·simp only [go_sem, decide_eq_true_eq, decide_eq_false_iff_not, Bool.and_eq_true, Bool.and_eq_false_iff, Bool.not_eq_true', Bool.not_eq_false'] at c4
   obtain ⟨c, w, r, hp, rfl⟩ : ∃ c w r, pcl g l = some (c, w :: r) ∧ y = (c, w :: r, true) := by
    cases hp : pcl g l with
    | none => rw [hp] at hy; have hy : y.2.2 = false := hy; simp [hy] at c4
    | some x =>
     obtain ⟨c, r0⟩ := x
     rw [hp] at hy
     have hy : y = (c, r0, true) := hy
     cases r0 with
     | nil => subst hy; simp at c4
     | cons w r => exact ⟨c, w, r, rfl, hy⟩
   replace c4 : True := trivial
   have hlt := (pcl_lt g hp).1
   have hnr : nbW r := by obtain ⟨_, p, e⟩ := pcl_lt g hp; rw [e] at hnl; exact hnl.suf.tl
   simp only [List.length_cons] at hlt
   have hlen : (0 : Int) < ((r.length + 1 : Nat) : Int) ∧ (1 : Int) ≤ ((r.length + 1 : Nat) : Int) := by omega
   refine sk ?_
   refine sr_ [1, 4, 7, 8, 10] [] [] fun κ ξ hκ hξ => ?_
   try simp +decide only [go_sem, wat_0, drop_1, List.take_length, Int.toNat_one, hbt7, hbt4, hb7t, hb4t, hb9, hb33, hb34, hb35, hb4, hb7, c4, hlen]
   repeat with_reducible refine an_ ?_
   first | refine napp_n rfl rfl (by simp +decide only [go_sem, Option.isSome_some]) tf116 tf117 tf129 (by refine ⟨⟨rfl, by decide, by decide⟩, by simp +decide only [go_sem], by simp, ?_⟩; simp [capB]) ?_ | refine napp_ownT (n := ks.length) (List.length_map ..) rfl rfl (by simp +decide only [go_sem, Option.isSome_some]) tf116 tf117 tf129 (by refine ⟨⟨rfl, by decide, by decide⟩, by simp +decide only [go_sem], ?_⟩; simp [capB]; omega) (by simp [Store.get, hb9, hbt7, hbt4]) ?_
   intro b32 c32 hb32
   have hb33 : b32 ≠ b7 ∧ b32 ≠ b4 := by
    first | (rcases hb32 with rfl | hb32; · exact ⟨hbt7, hbt4⟩) | skip
    simp only [Store.keys, List.map_cons, List.map_nil, List.mem_cons, List.not_mem_nil, or_false, not_or] at hb32
    first | exact ⟨hb32.2.1, hb32.2.2⟩ | exact ⟨hb32.2.2.1, hb32.2.2.2⟩
   have hb34 := Ne.symm hb33.1
   have hb35 := Ne.symm hb33.2
   try simp only [Store.ren, hb9, if_false, if_true]
   try simp +decide only [go_sem, wat_0, drop_1, List.take_length, Int.toNat_one, hbt7, hbt4, hb7t, hb4t, hb9, hb33, hb34, hb35, hb4, hb7, c4, hlen]
   repeat with_reducible refine an_ ?_
   refine hκ _ _ ?_; clear hκ hξ ξ κ
   refine sq ?_
   refine sr_ [1, 4, 7, 8, 10, 37] [] [] fun κ ξ hκ hξ => ?_
   try simp +decide only [go_sem, wat_0, drop_1, List.take_length, Int.toNat_one, hbt7, hbt4, hb7t, hb4t, hb9, hb33, hb34, hb35, hb4, hb7, c4, hlen]
   repeat with_reducible refine an_ ?_
   refine hκ _ _ ?_; clear hκ hξ ξ κ
   refine cd_ (fun c5 => ?_) (fun c5 => ?_)
   ·simp only [go_sem, decide_eq_true_eq, decide_eq_false_iff_not, Bool.and_eq_true, Bool.and_eq_false_iff, Bool.not_eq_true', Bool.not_eq_false'] at c5
    have hw41 : w = [41] := c5
    refine sr_ [4, 7, 8, 10] [] [] fun κ ξ hκ hξ => ?_
    try simp +decide only [go_sem, wat_0, drop_1, List.take_length, Int.toNat_one, hbt7, hbt4, hb7t, hb4t, hb9, hb33, hb34, hb35, hb4, hb7, c4, hlen, c5]
    repeat with_reducible refine an_ ?_
    refine hκ _ _ ?_; clear hκ hξ ξ κ
    refine sq ?_
    refine sr_ [4, 7, 10, 40] [] [] fun κ ξ hκ hξ => ?_
    try simp +decide only [go_sem, wat_0, drop_1, List.take_length, Int.toNat_one, hbt7, hbt4, hb7t, hb4t, hb9, hb33, hb34, hb35, hb4, hb7, c4, hlen, c5]
    repeat with_reducible refine an_ ?_
    refine hκ _ _ ?_; clear hκ hξ ξ κ
    refine cd_ (fun c6 => ?_) (fun c6 => ?_)
    ·simp only [go_sem, decide_eq_true_eq, decide_eq_false_iff_not, Bool.and_eq_true, Bool.and_eq_false_iff, Bool.not_eq_true', Bool.not_eq_false'] at c6
     have hjo : (if j = kOr then (7 : Int) else 6) = 7 := if_pos c6
     replace c6 : True := trivial
     refine rr_ [4, 7, 10] [] [] fun κ ξ hκ hξ => ?_
     try simp +decide only [go_sem, wat_0, drop_1, List.take_length, Int.toNat_one, hbt7, hbt4, hb7t, hb4t, hb9, hb33, hb34, hb35, hb4, hb7, c4, hlen, c5, c6]
     repeat with_reducible refine an_ ?_
     refine hκ _ _ ?_; clear hκ hξ ξ κ
     refine sq ?_
     change AWp _ _ _ _ _ _ _
     refine rgt2 [4, 5, 6] [] [] [] [0, 1, 2, 3, 4, 5, 6, 7, 8, 9] .fin (by kernel_rfl) (by kernel_rfl) (Pk.cons rfl (Pk.cons rfl (Pk.cons rfl (Pk.cons rfl (Pk.cons rfl (Pk.cons rfl (Pk.cons rfl (Pk.cons rfl (Pk.cons rfl (Pk.cons rfl (Pk.nil))))))))))) ?_; intro κ ξ hκ hξ
     try simp +decide only [go_sem, wat_0, drop_1, List.take_length, Int.toNat_one, hbt7, hbt4, hb7t, hb4t, hb9, hb33, hb34, hb35, hb4, hb7, c4, hlen, c5, c6]
     repeat with_reducible refine an_ ?_
     refine callF (rin_w _ _ _) ?_
     try simp +decide only [go_sem, wat_0, drop_1, List.take_length, Int.toNat_one, hbt7, hbt4, hb7t, hb4t, hb9, hb33, hb34, hb35, hb4, hb7, c4, hlen, c5, c6]
     repeat with_reducible refine an_ ?_
     refine SET_fin ?_
     try simp +decide only [go_sem, wat_0, drop_1, List.take_length, Int.toNat_one, hbt7, hbt4, hb7t, hb4t, hb9, hb33, hb34, hb35, hb4, hb7, c4, hlen, c5, c6]
     repeat with_reducible refine an_ ?_
     refine hκ _ _ ?_; clear hκ hξ ξ κ
     refine rt ?_
     refine retRL (.mk 7 0 0 0 (ks ++ [c]), r, decide (2 ≤ ks.length + 1 ∧ ks.length + 1 ≤ 10)) (List.nil_sublist _) (by
         rw [hpg, rgr_at hp, if_pos hw41, hjo]
         by_cases h : 2 ≤ ks.length + 1 ∧ ks.length + 1 ≤ 10
         · rw [if_pos h, decide_eq_true h]; rfl
         · rw [if_neg h, decide_eq_false h]; rfl) ⟨by simp +decide only [go_sem, resD, resV, hb7, hb9, hb33, hb34, hb35, hbt4, hb4t, hbt7, hb7t, ↓reduceIte], ?_⟩
     simp +decide only [go_sem, resD, resV, hb7, hb9, hb33, hb34, hb35, hbt4, hb4t, hbt7, hb7t, ↓reduceIte]
     simp only [rdF, Cl.op, Cl.a, Cl.b, Cl.n, Cl.kids]
     simp only [kN, apS, hK0, List.map_append, List.map_cons, List.map_nil, crow_eq, List.length_append, List.length_cons, List.length_nil, List.length_singleton, List.cons_append, List.nil_append, Nat.zero_add]
     refine DLe.tup ⟨DLe.ag ⟨DLe.refl _, DLe.refl _, DLe.refl _, DLe.refl _, DLe.tok _ _ _, trivial⟩, DLe.refl _, DLe.of_eq ?_, trivial⟩
     first | rfl | (congr 1; done) | (congr 1; rw [decide_eq_decide]; done) | (congr 1; rw [decide_eq_decide]; omega)
    ·simp only [go_sem, decide_eq_true_eq, decide_eq_false_iff_not, Bool.and_eq_true, Bool.and_eq_false_iff, Bool.not_eq_true', Bool.not_eq_false'] at c6
     have hjo : (if j = kOr then (7 : Int) else 6) = 6 := if_neg c6
     refine sk ?_
     refine sq ?_
     change AWp _ _ _ _ _ _ _
     refine rgt2 [4, 5, 6] [] [] [] [0, 1, 2, 3, 4, 5, 6, 7, 8, 9] .fin (by kernel_rfl) (by kernel_rfl) (Pk.cons rfl (Pk.cons rfl (Pk.cons rfl (Pk.cons rfl (Pk.cons rfl (Pk.cons rfl (Pk.cons rfl (Pk.cons rfl (Pk.cons rfl (Pk.cons rfl (Pk.nil))))))))))) ?_; intro κ ξ hκ hξ
     try simp +decide only [go_sem, wat_0, drop_1, List.take_length, Int.toNat_one, hbt7, hbt4, hb7t, hb4t, hb9, hb33, hb34, hb35, hb4, hb7, c4, hlen, c5, c6]
     repeat with_reducible refine an_ ?_
     refine callF (rin_w _ _ _) ?_
     try simp +decide only [go_sem, wat_0, drop_1, List.take_length, Int.toNat_one, hbt7, hbt4, hb7t, hb4t, hb9, hb33, hb34, hb35, hb4, hb7, c4, hlen, c5, c6]
     repeat with_reducible refine an_ ?_
     refine SET_fin ?_
     try simp +decide only [go_sem, wat_0, drop_1, List.take_length, Int.toNat_one, hbt7, hbt4, hb7t, hb4t, hb9, hb33, hb34, hb35, hb4, hb7, c4, hlen, c5, c6]
     repeat with_reducible refine an_ ?_
     refine hκ _ _ ?_; clear hκ hξ ξ κ
     refine rt ?_
     refine retRL (.mk 6 0 0 0 (ks ++ [c]), r, decide (2 ≤ ks.length + 1 ∧ ks.length + 1 ≤ 10)) (List.nil_sublist _) (by
         rw [hpg, rgr_at hp, if_pos hw41, hjo]
         by_cases h : 2 ≤ ks.length + 1 ∧ ks.length + 1 ≤ 10
         · rw [if_pos h, decide_eq_true h]; rfl
         · rw [if_neg h, decide_eq_false h]; rfl) ⟨by simp +decide only [go_sem, resD, resV, hb7, hb9, hb33, hb34, hb35, hbt4, hb4t, hbt7, hb7t, ↓reduceIte], ?_⟩
     simp +decide only [go_sem, resD, resV, hb7, hb9, hb33, hb34, hb35, hbt4, hb4t, hbt7, hb7t, ↓reduceIte]
     simp only [rdF, Cl.op, Cl.a, Cl.b, Cl.n, Cl.kids]
     simp only [kN, apS, hK0, List.map_append, List.map_cons, List.map_nil, crow_eq, List.length_append, List.length_cons, List.length_nil, List.length_singleton, List.cons_append, List.nil_append, Nat.zero_add]
     refine DLe.tup ⟨DLe.ag ⟨DLe.refl _, DLe.refl _, DLe.refl _, DLe.refl _, DLe.tok _ _ _, trivial⟩, DLe.refl _, DLe.of_eq ?_, trivial⟩
     first | rfl | (congr 1; done) | (congr 1; rw [decide_eq_decide]; done) | (congr 1; rw [decide_eq_decide]; omega)
   ·simp only [go_sem, decide_eq_true_eq, decide_eq_false_iff_not, Bool.and_eq_true, Bool.and_eq_false_iff, Bool.not_eq_true', Bool.not_eq_false'] at c5
    have hw41 : ¬ w = [41] := c5
    refine sk ?_
    refine sq ?_
    refine sr_ [1, 4, 7, 10, 69] [] [(4, 53), (10, 59), (13, 62)] fun κ ξ hκ hξ => ?_
    try simp +decide only [go_sem, wat_0, drop_1, List.take_length, Int.toNat_one, hbt7, hbt4, hb7t, hb4t, hb9, hb33, hb34, hb35, hb4, hb7, c4, hlen, c5]
    repeat with_reducible refine an_ ?_
    refine hκ _ _ ?_; clear hκ hξ ξ κ
    refine cd_ (fun c7 => ?_) (fun c7 => ?_)
    ·simp only [go_sem, decide_eq_true_eq, decide_eq_false_iff_not, Bool.and_eq_true, Bool.and_eq_false_iff, Bool.not_eq_true', Bool.not_eq_false'] at c7
     have hno : rgr (g + 1) j ks l = none := by
      rw [rgr_at hp, if_neg hw41, if_neg]
      rintro ⟨h1, h2⟩
      simp only [kAnd, kOr] at h1
      rcases c7 with ⟨h3, h4⟩ | ⟨h3, h4⟩
      ·exact h1.elim h3 h4
      ·exact h2.elim h3 h4
     refine sr_ [4, 5, 6] [] [] fun κ ξ hκ hξ => ?_
     try simp +decide only [go_sem, wat_0, drop_1, List.take_length, Int.toNat_one, hbt7, hbt4, hb7t, hb4t, hb9, hb33, hb34, hb35, hb4, hb7, c4, hlen, c5, c7]
     repeat with_reducible refine an_ ?_
     refine hκ _ _ ?_; clear hκ hξ ξ κ
     refine rt ?_
     refine retRL rdNo (List.nil_sublist _) (by rw [hpg, hno]; rfl) ⟨by simp +decide only [go_sem, resD, resV, hb7, hb9, hb33, hb34, hb35, hbt4, hb4t, hbt7, hb7t, ↓reduceIte], ?_⟩
     simp +decide only [go_sem, resD, resV, hb7, hb9, hb33, hb34, hb35, hbt4, hb4t, hbt7, hb7t, ↓reduceIte]
     exact DLe.tup ⟨DLe.ag ⟨DLe.refl _, DLe.refl _, DLe.refl _, DLe.refl _, DLe.nil _ _ _, trivial⟩, DLe.nil _ _ _, DLe.refl _, trivial⟩
    ·simp only [go_sem, decide_eq_true_eq, decide_eq_false_iff_not, Bool.and_eq_true, Bool.and_eq_false_iff, Bool.not_eq_true', Bool.not_eq_false'] at c7
     have hye : rgr (g + 1) j ks l = rgr g w (ks ++ [c]) r := by
      rw [rgr_at hp, if_neg hw41, if_pos]
      refine ⟨Decidable.byContradiction fun h => ?_, Decidable.byContradiction fun h => ?_⟩
      ·simp only [kAnd, kOr] at h; simp_all
      ·simp_all
     refine sk ?_
     refine sr_ [1, 4, 7, 8, 10] [] [] fun κ ξ hκ hξ => ?_
     try simp +decide only [go_sem, wat_0, drop_1, List.take_length, Int.toNat_one, hbt7, hbt4, hb7t, hb4t, hb9, hb33, hb34, hb35, hb4, hb7, c4, hlen, c5, c7]
     repeat with_reducible refine an_ ?_
     refine hκ _ _ ?_; clear hκ hξ ξ κ
     refine rr_ [0, 1, 4, 7, 8] [] [] fun κ ξ hκ hξ => ?_
     try simp +decide only [go_sem, wat_0, drop_1, List.take_length, Int.toNat_one, hbt7, hbt4, hb7t, hb4t, hb9, hb33, hb34, hb35, hb4, hb7, c4, hlen, c5, c7]
     repeat with_reducible refine an_ ?_
     refine hκ _ _ ?_; clear hκ hξ ξ κ
     refine ⟨(g, w, ks ++ [c], r, some (b32, c32)), ⟨⟨by rw [hpg, hye], by simp only; omega, by simp only; omega, hnr, by simp only [List.length_append, List.length_singleton]; omega, (fun h => by cases h), (fun b' c' h => by cases h; exact hb33)⟩, by simp only; omega⟩, EnvLe.of_l ⟨rfl, rfl, rfl, rfl, rfl, trivial⟩, ?_⟩
     simp only [kN, apS, hK0, List.map_append, List.map_cons, List.map_nil, crow_eq, List.length_append, List.length_cons, List.length_nil, List.length_singleton, List.cons_append, List.nil_append, Nat.zero_add]
     first | exact .cons _ (.refl _) | exact .cons_cons _ (.cons _ (.refl _))
end Go.Proofs.YtfjnohmdilmfhaaGreatDoor
/- Claim: the reference's Parse. Printed by a tool of our own. -/
namespace Go.Proofs.YtfjnohmdilmfhaaGreatDoor
open Go Go.RowKit
set_option linter.unusedSimpArgs false
set_option linter.unusedVariables false
set_option maxHeartbeats 4000000
set_option maxRecDepth 100000
theorem rd_gr : ∀ F : Nat, (∀ (ws : List W) (t : Tok) (lv : Int), 2 * ws.length + 2 ≤ F → nbW ws → ws.length ≤ 100000 → RCall Tryz.prog (.func 33) [.sl 1 (ws.map srow) t, .int .i64 lv] [] rdF (fun _ => []) (okR (pcl F ws))) ∧ (∀ (ws : List W) (t : Tok) (lv : Int), 2 * ws.length + 3 ≤ F → nbW ws → ws.length ≤ 100000 → RCall Tryz.prog (.func 68) [.sl 1 (ws.map srow) t, .int .i64 lv] [] rdF (fun _ => []) (okR (pgp F ws))) := by
 intro F
 induction F using Nat.strongRecOn with
 | ind F ih =>
  cases F with
  | zero => exact ⟨fun ws t lv h => by omega, fun ws t lv h => by omega⟩
  | succ f => exact ⟨fun ws t lv h hn hw => rd_s f (ih f (Nat.lt_succ_self f)).1 (ih f (Nat.lt_succ_self f)).2 ws t lv h hn hw, fun ws t lv h hn hw => rg_s f (fun g hg => (ih g hg).1) ws t lv h hn hw⟩
theorem wds_len {s : W} : (wds s).length ≤ 2 * s.length + 1 := by
 rw [wds_eq]
 have key : ∀ (s w : W), (tok s w).length ≤ 2 * s.length + 1 := by
  have hfl : ∀ w : W, (fl w).length ≤ 1 := fun w => by unfold fl; split <;> simp
  intro s
  induction s with
  | nil => exact fun w => hfl w
  | cons b s ih =>
   intro w
   have h0 := hfl w
   have h1 := ih []
   have h2 := ih (w ++ [b])
   unfold tok
   simp only [List.length_cons]
   split
   ·rw [List.length_append]; omega
   ·split
    ·rw [List.length_append, List.length_cons]; omega
    ·omega
 exact key s []
attribute [local go_sem] List.length_map rowAt_n nrow rowAt_t trow rowAt_i irow
attribute [local go_sem] rowAt_c rowAt_sn rowAt_bx snrow bxrow
attribute [local go_sem] rowAt_s srow rwz List.append_eq
theorem rprs_w (s : W) : PCall Tryz.prog (.func 17) [.str s] (.tup [.ag [.int .i64 (prsC s).op, .int .i64 (prsC s).a, .int .i64 (prsC s).b, .int .i64 (prsC s).n, .sl 5 ((prsC s).kids.map crow) .no], .int .i64 (prsE s)]) := by
 refine PCall.le ?_
 refine fn_ Tryz.func17 (by rfl) (by rfl) (rs := [.cell 2 25, .tmp 3]) (by rfl) (by simp [Tryz.f17]) ?_
 refine sr_ [0, 2] [] [] fun κ ξ hκ hξ => ?_
 try simp +decide only [go_sem, rdF]
 repeat with_reducible refine an_ ?_
 intro b2 hb2
 try simp +decide only [go_sem, rdF, hb2]
 repeat with_reducible refine an_ ?_
 refine hκ _ _ ?_; clear hκ hξ ξ κ
 refine sq ?_
 refine sr_ [0, 2, 10] [] [] fun κ ξ hκ hξ => ?_
 try simp +decide only [go_sem, rdF, hb2]
 repeat with_reducible refine an_ ?_
 refine hκ _ _ ?_; clear hκ hξ ξ κ
 refine cd_ (fun c0 => ?_) (fun c0 => ?_)
 ·simp only [go_sem, decide_eq_true_eq, decide_eq_false_iff_not, Bool.and_eq_true, Bool.and_eq_false_iff, Bool.not_eq_true', Bool.not_eq_false'] at c0
  refine sr_ [2, 3] [] [] fun κ ξ hκ hξ => ?_
  try simp +decide only [go_sem, rdF, hb2, c0]
  repeat with_reducible refine an_ ?_
  refine hκ _ _ ?_; clear hκ hξ ξ κ
  refine rt ?_
  refine retL ?_
  simp +decide only [go_sem, resD, resV, rdF, hb2, c0]
  rw [show prsC s = cl0 from if_pos (by omega), show prsE s = 2 from if_pos (by omega)]
  exact DLe.tup ⟨DLe.ag ⟨DLe.refl _, DLe.refl _, DLe.refl _, DLe.refl _, DLe.nil _ _ _, trivial⟩, DLe.refl _, trivial⟩
 ·simp only [go_sem, decide_eq_true_eq, decide_eq_false_iff_not, Bool.and_eq_true, Bool.and_eq_false_iff, Bool.not_eq_true', Bool.not_eq_false'] at c0
  refine sk ?_
  refine srz_ [(4, [])] [2, 4, 5, 6] [] [] fun κ ξ hκ hξ => ?_
  try simp +decide only [go_sem, rdF, hb2, c0]
  repeat with_reducible refine an_ ?_
  refine callF (rwds_w s (by omega)) ?_
  try simp +decide only [go_sem, rdF, hb2, c0]
  repeat with_reducible refine an_ ?_
  refine callR0 ((rd_gr _).1 (wds s) .no _ (Nat.le_refl _) (wds_nb (by omega)) (by have := wds_len (s := s); omega)) fun y hy => ?_
  try simp +decide only [go_sem, rdF, hb2, c0]
  repeat with_reducible refine an_ ?_
  intro b4 hb4
  try simp +decide only [go_sem, rdF, hb2, c0, hb4]
  repeat with_reducible refine an_ ?_
  refine hκ _ _ ?_; clear hκ hξ ξ κ
  refine sq ?_
  refine sr_ [2, 4, 25] [] [(2, 21)] fun κ ξ hκ hξ => ?_
  try simp +decide only [go_sem, rdF, hb2, c0, hb4]
  repeat with_reducible refine an_ ?_
  refine hκ _ _ ?_; clear hκ hξ ξ κ
  refine cd_ (fun c1 => ?_) (fun c1 => ?_)
  ·simp only [go_sem, decide_eq_true_eq, decide_eq_false_iff_not, Bool.and_eq_true, Bool.and_eq_false_iff, Bool.not_eq_true', Bool.not_eq_false'] at c1
   have hno : prsC s = cl0 ∧ prsE s = 8 := by
    obtain ⟨e1, e2⟩ := prsC_pcl s (by omega)
    rw [e1, e2]
    cases hp : pcl (2 * (wds s).length + 2) (wds s) with
    | none => exact ⟨rfl, rfl⟩
    | some x =>
     obtain ⟨c, r⟩ := x
     rw [hp] at hy
     cases (show y = (c, r, true) from hy)
     cases r with
     | nil => simp at c1
     | cons w r => exact ⟨rfl, rfl⟩
   refine sr_ [2, 3] [] [] fun κ ξ hκ hξ => ?_
   try simp +decide only [go_sem, rdF, hb2, c0, hb4, c1]
   repeat with_reducible refine an_ ?_
   refine hκ _ _ ?_; clear hκ hξ ξ κ
   refine rt ?_
   refine retL ?_
   simp +decide only [go_sem, resD, resV, rdF, hb2, c0, hb4, c1]
   rw [hno.1, hno.2]
   exact DLe.tup ⟨DLe.ag ⟨DLe.refl _, DLe.refl _, DLe.refl _, DLe.refl _, DLe.nil _ _ _, trivial⟩, DLe.refl _, trivial⟩
  ·simp only [go_sem, decide_eq_true_eq, decide_eq_false_iff_not, Bool.and_eq_true, Bool.and_eq_false_iff, Bool.not_eq_true', Bool.not_eq_false'] at c1
   obtain ⟨c, hp, rfl⟩ : ∃ c, pcl (2 * (wds s).length + 2) (wds s) = some (c, []) ∧ y = (c, [], true) := by
    cases hp : pcl (2 * (wds s).length + 2) (wds s) with
    | none => rw [hp] at hy; have hy : y.2.2 = false := hy; simp [hy] at c1
    | some x =>
     obtain ⟨c, r⟩ := x
     rw [hp] at hy
     have hy : y = (c, r, true) := hy
     cases r with
     | nil => exact ⟨c, rfl, hy⟩
     | cons w r => subst hy; simp at c1
   replace c1 : True := trivial
   refine sk ?_
   refine sr_ [2, 4, 7] [] [] fun κ ξ hκ hξ => ?_
   try simp +decide only [go_sem, rdF, hb2, c0, hb4, c1]
   repeat with_reducible refine an_ ?_
   refine callF (rclv_w _) ?_
   try simp +decide only [go_sem, rdF, hb2, c0, hb4, c1]
   repeat with_reducible refine an_ ?_
   refine hκ _ _ ?_; clear hκ hξ ξ κ
   refine sq ?_
   refine sr_ [2, 4, 30] [] [] fun κ ξ hκ hξ => ?_
   try simp +decide only [go_sem, rdF, hb2, c0, hb4, c1]
   repeat with_reducible refine an_ ?_
   refine hκ _ _ ?_; clear hκ hξ ξ κ
   refine cd_ (fun c2 => ?_) (fun c2 => ?_)
   ·simp only [go_sem, decide_eq_true_eq, decide_eq_false_iff_not, Bool.and_eq_true, Bool.and_eq_false_iff, Bool.not_eq_true', Bool.not_eq_false'] at c2
    refine sr_ [2, 3] [] [] fun κ ξ hκ hξ => ?_
    try simp +decide only [go_sem, rdF, hb2, c0, hb4, c1, c2]
    repeat with_reducible refine an_ ?_
    refine hκ _ _ ?_; clear hκ hξ ξ κ
    refine rt ?_
    refine retL ?_
    simp +decide only [go_sem, resD, resV, rdF, hb2, c0, hb4, c1, c2]
    obtain ⟨e1, e2⟩ := prsC_pcl s (by omega)
    rw [hp] at e1 e2
    simp only [c2, Bool.false_eq_true, if_false] at e1 e2
    rw [e1, e2]
    exact DLe.tup ⟨DLe.ag ⟨DLe.refl _, DLe.refl _, DLe.refl _, DLe.refl _, DLe.nil _ _ _, trivial⟩, DLe.refl _, trivial⟩
   ·simp only [go_sem, decide_eq_true_eq, decide_eq_false_iff_not, Bool.and_eq_true, Bool.and_eq_false_iff, Bool.not_eq_true', Bool.not_eq_false'] at c2
    refine sk ?_
    refine sr_ [2, 3] [] [] fun κ ξ hκ hξ => ?_
    try simp +decide only [go_sem, rdF, hb2, c0, hb4, c1, c2]
    repeat with_reducible refine an_ ?_
    refine hκ _ _ ?_; clear hκ hξ ξ κ
    refine rt ?_
    refine retL ?_
    simp +decide only [go_sem, resD, resV, rdF, hb2, c0, hb4, c1, c2]
    obtain ⟨e1, e2⟩ := prsC_pcl s (by omega)
    rw [hp] at e1 e2
    simp only [c2, if_true] at e1 e2
    rw [e1, e2]
    exact DLe.refl _
end Go.Proofs.YtfjnohmdilmfhaaGreatDoor
/- The head's example, in plain data. -/
namespace Go.Proofs.YtfjnohmdilmfhaaGreatDoor
open Go Go.RowKit Go.Lib
set_option linter.unusedSimpArgs false
set_option linter.unusedVariables false
set_option maxRecDepth 100000
def eL : List Bx := [⟨3, 0, 0, 10, 10, false, []⟩, ⟨4, 5, 9, 10, 10, false, []⟩]
theorem eL_few : fewB eL = true := by kernel_rfl
def eS0 : W := [102, 105, 116, 115, 32, 51]
def eC0 : Cl := .mk 1 3 0 0 []
theorem eP0 : prsC eS0 = eC0 ∧ prsE eS0 = 0 := ⟨by kernel_rfl, by kernel_rfl⟩
theorem eV0 : clB eC0 = true := by kernel_rfl
theorem eH0 : (bxsB eL && clB eC0 && hld eL eC0) = true := by kernel_rfl
theorem eT0 : prtP eC0 = eS0 ∧ prtE eC0 = 0 := by
 unfold prtP prtE
 rw [eV0]
 refine ⟨?_, rfl⟩
 simp only [if_true, eC0, eS0, prt, prts, prtO]
 simp +decide [itoa_nat, decDigits_one, decDigits_two, join, List.intercalate, List.intersperse, wat]
def eS1 : W := [97, 112, 97, 114, 116, 32, 51, 32, 52]
def eC1 : Cl := .mk 2 3 4 0 []
theorem eP1 : prsC eS1 = eC1 ∧ prsE eS1 = 0 := ⟨by kernel_rfl, by kernel_rfl⟩
theorem eV1 : clB eC1 = true := by kernel_rfl
theorem eH1 : (bxsB eL && clB eC1 && hld eL eC1) = false := by kernel_rfl
theorem eT1 : prtP eC1 = eS1 ∧ prtE eC1 = 0 := by
 unfold prtP prtE
 rw [eV1]
 refine ⟨?_, rfl⟩
 simp only [if_true, eC1, eS1, prt, prts, prtO]
 simp +decide [itoa_nat, decDigits_one, decDigits_two, join, List.intercalate, List.intersperse, wat]
def eS2 : W := [97, 98, 111, 118, 101, 32, 51, 32, 49, 48]
def eC2 : Cl := .mk 3 3 0 10 []
theorem eP2 : prsC eS2 = eC2 ∧ prsE eS2 = 0 := ⟨by kernel_rfl, by kernel_rfl⟩
theorem eV2 : clB eC2 = true := by kernel_rfl
theorem eH2 : (bxsB eL && clB eC2 && hld eL eC2) = true := by kernel_rfl
theorem eT2 : prtP eC2 = eS2 ∧ prtE eC2 = 0 := by
 unfold prtP prtE
 rw [eV2]
 refine ⟨?_, rfl⟩
 simp only [if_true, eC2, eS2, prt, prts, prtO]
 simp +decide [itoa_nat, decDigits_one, decDigits_two, join, List.intercalate, List.intersperse, wat]
def eS3 : W := [40, 97, 98, 111, 118, 101, 32, 52, 32, 49, 56, 32, 111, 114, 32, 110, 111, 116, 32, 102, 105, 116, 115, 32, 52, 41]
def eC3 : Cl := .mk 7 0 0 0 [.mk 3 4 0 18 [], .mk 8 0 0 0 [.mk 1 4 0 0 []]]
theorem eP3 : prsC eS3 = eC3 ∧ prsE eS3 = 0 := ⟨by kernel_rfl, by kernel_rfl⟩
theorem eV3 : clB eC3 = true := by kernel_rfl
theorem eH3 : (bxsB eL && clB eC3 && hld eL eC3) = false := by kernel_rfl
theorem eT3 : prtP eC3 = eS3 ∧ prtE eC3 = 0 := by
 unfold prtP prtE
 rw [eV3]
 refine ⟨?_, rfl⟩
 simp only [if_true, eC3, eS3, prt, prts, prtO]
 simp +decide [itoa_nat, decDigits_one, decDigits_two, join, List.intercalate, List.intersperse, wat]
def eS4 : W := [102, 105, 116, 115, 32, 53]
def eC4 : Cl := .mk 1 5 0 0 []
theorem eP4 : prsC eS4 = eC4 ∧ prsE eS4 = 0 := ⟨by kernel_rfl, by kernel_rfl⟩
theorem eV4 : clB eC4 = true := by kernel_rfl
theorem eH4 : (bxsB eL && clB eC4 && hld eL eC4) = false := by kernel_rfl
theorem eT4 : prtP eC4 = eS4 ∧ prtE eC4 = 0 := by
 unfold prtP prtE
 rw [eV4]
 refine ⟨?_, rfl⟩
 simp only [if_true, eC4, eS4, prt, prts, prtO]
 simp +decide [itoa_nat, decDigits_one, decDigits_two, join, List.intercalate, List.intersperse, wat]
def eF : W := [102, 105, 116, 115]
def eZ : W := [102, 105, 116, 115, 32, 48]
theorem eF_e : prsE eF = 8 := by kernel_rfl
theorem eZ_e : prsE eZ = 1 := by kernel_rfl
theorem e0_v : clB cl0 = false := by kernel_rfl
end Go.Proofs.YtfjnohmdilmfhaaGreatDoor
/- Claim: the head. Printed by a tool of our own. -/
namespace Go.Proofs.YtfjnohmdilmfhaaGreatDoor
open Go Go.RowKit
set_option linter.unusedSimpArgs false
set_option linter.unusedVariables false
set_option maxHeartbeats 4000000
set_option maxRecDepth 100000
theorem rw1_ (a b : List D) (l : List (List D)) : rowAt (a :: b :: l) 1 = b := rfl
theorem rw2_ (a b c : List D) (l : List (List D)) : rowAt (a :: b :: c :: l) 2 = c := rfl
theorem rw3_ (a b c d : List D) (l : List (List D)) : rowAt (a :: b :: c :: d :: l) 3 = d := rfl
theorem rw4_ (a b c d e : List D) (l : List (List D)) : rowAt (a :: b :: c :: d :: e :: l) 4 = e := rfl
theorem tn0 : Int.toNat 0 = 0 := rfl
theorem tn1 : Int.toNat 1 = 1 := rfl
theorem tn2_ : Int.toNat 2 = 2 := rfl
theorem tn3 : Int.toNat 3 = 3 := rfl
theorem tn4 : Int.toNat 4 = 4 := rfl
theorem w23 : IntKind.wrap .i64 ((2 : Int) + 1) = 3 := w64 (by omega)
theorem w34 : IntKind.wrap .i64 ((3 : Int) + 1) = 4 := w64 (by omega)
theorem w45 : IntKind.wrap .i64 ((4 : Int) + 1) = 5 := w64 (by omega)
theorem hp0 : PCall Tryz.prog (.func 16) [.str eS0] (.tup [.ag [.int .i64 eC0.op, .int .i64 eC0.a, .int .i64 eC0.b, .int .i64 eC0.n, .sl 5 (eC0.kids.map crow) .no], .int .i64 0]) := by have h := prs_w eS0; rw [eP0.1, eP0.2] at h; exact h
theorem hi0 : PCall Tryz.prog (.func 19) [.ag [.int .i64 eC0.op, .int .i64 eC0.a, .int .i64 eC0.b, .int .i64 eC0.n, .sl 5 (eC0.kids.map crow) .no]] (.tup [.str eS0, .int .i64 0]) := by have h := pri_w eC0; rw [eT0.1, eT0.2] at h; exact h
theorem hh0 : PCall Tryz.prog (.func 12) [.sl 7 (eL.map bxrow) .no, .ag [.int .i64 eC0.op, .int .i64 eC0.a, .int .i64 eC0.b, .int .i64 eC0.n, .sl 5 (eC0.kids.map crow) .no]] (.tup [.bool true, .int .i64 0]) := by have h := hol_w eL eL_few eC0; rw [eH0, if_pos (by rw [eV0]; kernel_rfl)] at h; exact h
theorem hv0 : PCall Tryz.prog (.func 14) [.ag [.int .i64 eC0.op, .int .i64 eC0.a, .int .i64 eC0.b, .int .i64 eC0.n, .sl 5 (eC0.kids.map crow) .no]] (.bool true) := by have h := clv_w eC0; rw [eV0] at h; exact h
theorem hp1 : PCall Tryz.prog (.func 16) [.str eS1] (.tup [.ag [.int .i64 eC1.op, .int .i64 eC1.a, .int .i64 eC1.b, .int .i64 eC1.n, .sl 5 (eC1.kids.map crow) .no], .int .i64 0]) := by have h := prs_w eS1; rw [eP1.1, eP1.2] at h; exact h
theorem hi1 : PCall Tryz.prog (.func 19) [.ag [.int .i64 eC1.op, .int .i64 eC1.a, .int .i64 eC1.b, .int .i64 eC1.n, .sl 5 (eC1.kids.map crow) .no]] (.tup [.str eS1, .int .i64 0]) := by have h := pri_w eC1; rw [eT1.1, eT1.2] at h; exact h
theorem hh1 : PCall Tryz.prog (.func 12) [.sl 7 (eL.map bxrow) .no, .ag [.int .i64 eC1.op, .int .i64 eC1.a, .int .i64 eC1.b, .int .i64 eC1.n, .sl 5 (eC1.kids.map crow) .no]] (.tup [.bool false, .int .i64 0]) := by have h := hol_w eL eL_few eC1; rw [eH1, if_pos (by rw [eV1]; kernel_rfl)] at h; exact h
theorem hv1 : PCall Tryz.prog (.func 14) [.ag [.int .i64 eC1.op, .int .i64 eC1.a, .int .i64 eC1.b, .int .i64 eC1.n, .sl 5 (eC1.kids.map crow) .no]] (.bool true) := by have h := clv_w eC1; rw [eV1] at h; exact h
theorem hp2 : PCall Tryz.prog (.func 16) [.str eS2] (.tup [.ag [.int .i64 eC2.op, .int .i64 eC2.a, .int .i64 eC2.b, .int .i64 eC2.n, .sl 5 (eC2.kids.map crow) .no], .int .i64 0]) := by have h := prs_w eS2; rw [eP2.1, eP2.2] at h; exact h
theorem hi2 : PCall Tryz.prog (.func 19) [.ag [.int .i64 eC2.op, .int .i64 eC2.a, .int .i64 eC2.b, .int .i64 eC2.n, .sl 5 (eC2.kids.map crow) .no]] (.tup [.str eS2, .int .i64 0]) := by have h := pri_w eC2; rw [eT2.1, eT2.2] at h; exact h
theorem hh2 : PCall Tryz.prog (.func 12) [.sl 7 (eL.map bxrow) .no, .ag [.int .i64 eC2.op, .int .i64 eC2.a, .int .i64 eC2.b, .int .i64 eC2.n, .sl 5 (eC2.kids.map crow) .no]] (.tup [.bool true, .int .i64 0]) := by have h := hol_w eL eL_few eC2; rw [eH2, if_pos (by rw [eV2]; kernel_rfl)] at h; exact h
theorem hv2 : PCall Tryz.prog (.func 14) [.ag [.int .i64 eC2.op, .int .i64 eC2.a, .int .i64 eC2.b, .int .i64 eC2.n, .sl 5 (eC2.kids.map crow) .no]] (.bool true) := by have h := clv_w eC2; rw [eV2] at h; exact h
theorem hp3 : PCall Tryz.prog (.func 16) [.str eS3] (.tup [.ag [.int .i64 eC3.op, .int .i64 eC3.a, .int .i64 eC3.b, .int .i64 eC3.n, .sl 5 (eC3.kids.map crow) .no], .int .i64 0]) := by have h := prs_w eS3; rw [eP3.1, eP3.2] at h; exact h
theorem hi3 : PCall Tryz.prog (.func 19) [.ag [.int .i64 eC3.op, .int .i64 eC3.a, .int .i64 eC3.b, .int .i64 eC3.n, .sl 5 (eC3.kids.map crow) .no]] (.tup [.str eS3, .int .i64 0]) := by have h := pri_w eC3; rw [eT3.1, eT3.2] at h; exact h
theorem hh3 : PCall Tryz.prog (.func 12) [.sl 7 (eL.map bxrow) .no, .ag [.int .i64 eC3.op, .int .i64 eC3.a, .int .i64 eC3.b, .int .i64 eC3.n, .sl 5 (eC3.kids.map crow) .no]] (.tup [.bool false, .int .i64 0]) := by have h := hol_w eL eL_few eC3; rw [eH3, if_pos (by rw [eV3]; kernel_rfl)] at h; exact h
theorem hv3 : PCall Tryz.prog (.func 14) [.ag [.int .i64 eC3.op, .int .i64 eC3.a, .int .i64 eC3.b, .int .i64 eC3.n, .sl 5 (eC3.kids.map crow) .no]] (.bool true) := by have h := clv_w eC3; rw [eV3] at h; exact h
theorem hp4 : PCall Tryz.prog (.func 16) [.str eS4] (.tup [.ag [.int .i64 eC4.op, .int .i64 eC4.a, .int .i64 eC4.b, .int .i64 eC4.n, .sl 5 (eC4.kids.map crow) .no], .int .i64 0]) := by have h := prs_w eS4; rw [eP4.1, eP4.2] at h; exact h
theorem hi4 : PCall Tryz.prog (.func 19) [.ag [.int .i64 eC4.op, .int .i64 eC4.a, .int .i64 eC4.b, .int .i64 eC4.n, .sl 5 (eC4.kids.map crow) .no]] (.tup [.str eS4, .int .i64 0]) := by have h := pri_w eC4; rw [eT4.1, eT4.2] at h; exact h
theorem hh4 : PCall Tryz.prog (.func 12) [.sl 7 (eL.map bxrow) .no, .ag [.int .i64 eC4.op, .int .i64 eC4.a, .int .i64 eC4.b, .int .i64 eC4.n, .sl 5 (eC4.kids.map crow) .no]] (.tup [.bool false, .int .i64 0]) := by have h := hol_w eL eL_few eC4; rw [eH4, if_pos (by rw [eV4]; kernel_rfl)] at h; exact h
theorem hv4 : PCall Tryz.prog (.func 14) [.ag [.int .i64 eC4.op, .int .i64 eC4.a, .int .i64 eC4.b, .int .i64 eC4.n, .sl 5 (eC4.kids.map crow) .no]] (.bool true) := by have h := clv_w eC4; rw [eV4] at h; exact h
theorem hpF : ∃ e : Cl, PCall Tryz.prog (.func 16) [.str eF] (.tup [.ag [.int .i64 e.op, .int .i64 e.a, .int .i64 e.b, .int .i64 e.n, .sl 5 (e.kids.map crow) .no], .int .i64 8]) := ⟨prsC eF, by have h := prs_w eF; rw [eF_e] at h; exact h⟩
theorem hpZ : ∃ e : Cl, PCall Tryz.prog (.func 16) [.str eZ] (.tup [.ag [.int .i64 e.op, .int .i64 e.a, .int .i64 e.b, .int .i64 e.n, .sl 5 (e.kids.map crow) .no], .int .i64 1]) := ⟨prsC eZ, by have h := prs_w eZ; rw [eZ_e] at h; exact h⟩
theorem hv9 : PCall Tryz.prog (.func 14) [.ag [.int .i64 0, .int .i64 0, .int .i64 0, .int .i64 0, .sl 0 [] .nil]] (.bool false) := by
 have h := clv_w cl0
 rw [e0_v] at h
 refine PCall.args h ⟨?_, trivial⟩
 exact DLe.ag ⟨DLe.refl _, DLe.refl _, DLe.refl _, DLe.refl _, DLe.nil _ _ _, trivial⟩
attribute [local go_sem] List.length_map rowAt_n nrow rowAt_t trow rowAt_i irow
attribute [local go_sem] rowAt_c rowAt_sn rowAt_bx snrow bxrow
attribute [local go_sem] List.append_eq
theorem exa_w  : PCall Tryz.prog (.func 23) [] (.sl 7 (eL.map bxrow) .no) := by
 refine PCall.le ?_
 refine fn_ Tryz.func23 (by rfl) (by rfl) (rs := [.tmp 0]) (by rfl) (by simp [Tryz.f23]) ?_
 refine sr_ [] [] [] fun κ ξ hκ hξ => ?_
 try simp +decide only [go_sem]
 repeat with_reducible refine an_ ?_
 refine hκ _ _ ?_; clear hκ hξ ξ κ
 refine sr_ [0] [] [] fun κ ξ hκ hξ => ?_
 try simp +decide only [go_sem]
 repeat with_reducible refine an_ ?_
 refine hκ _ _ ?_; clear hκ hξ ξ κ
 refine rt ?_
 refine retL ?_
 simp +decide only [go_sem, resD, resV]
 refine DLe.rows ?_
 exact ⟨⟨DLe.refl _, DLe.refl _, DLe.refl _, DLe.refl _, DLe.refl _, DLe.refl _, DLe.nil _ _ _, trivial⟩, ⟨DLe.refl _, DLe.refl _, DLe.refl _, DLe.refl _, DLe.refl _, DLe.refl _, DLe.nil _ _ _, trivial⟩, trivial⟩
theorem hea_w  : PCall Tryz.prog (.func 10) [] (.bool true) := by
 obtain ⟨eF1, hpF⟩ := hpF
 obtain ⟨eZ1, hpZ⟩ := hpZ
 refine PCall.le ?_
 refine fn_ Tryz.func10 (by rfl) (by rfl) (rs := [.tmp 0]) (by rfl) (by simp [Tryz.f10]) ?_
 refine sr_ [] [] [] fun κ ξ hκ hξ => ?_
 try simp +decide only [go_sem, rw1_, rw2_, rw3_, rw4_, rwz, tn0, tn1, tn2_, tn3, tn4, eS0, eS1, eS2, eS3, eS4, eF, eZ, w01, w12, w23, w34, w45]
 repeat with_reducible refine an_ ?_
 refine hκ _ _ ?_; clear hκ hξ ξ κ
 refine sr_ [1] [] [] fun κ ξ hκ hξ => ?_
 try simp +decide only [go_sem, rw1_, rw2_, rw3_, rw4_, rwz, tn0, tn1, tn2_, tn3, tn4, eS0, eS1, eS2, eS3, eS4, eF, eZ, w01, w12, w23, w34, w45]
 repeat with_reducible refine an_ ?_
 refine hκ _ _ ?_; clear hκ hξ ξ κ
 refine sq ?_
 refine sr_ [1, 2] [] [] fun κ ξ hκ hξ => ?_
 try simp +decide only [go_sem, rw1_, rw2_, rw3_, rw4_, rwz, tn0, tn1, tn2_, tn3, tn4, eS0, eS1, eS2, eS3, eS4, eF, eZ, w01, w12, w23, w34, w45]
 repeat with_reducible refine an_ ?_
 refine hκ _ _ ?_; clear hκ hξ ξ κ
 refine bl ?_
 refine lpN 6 ?_
 refine rnd ?_
 refine sq ?_
 refine sr_ [1, 2, 16] [] [] fun κ ξ hκ hξ => ?_
 try simp +decide only [go_sem, rw1_, rw2_, rw3_, rw4_, rwz, tn0, tn1, tn2_, tn3, tn4, eS0, eS1, eS2, eS3, eS4, eF, eZ, w01, w12, w23, w34, w45]
 repeat with_reducible refine an_ ?_
 refine hκ _ _ ?_; clear hκ hξ ξ κ
 refine cdt (by rfl) ?_
 refine sk ?_
 refine sq ?_
 refine bl ?_
 refine sr_ [1, 2, 3] [] [] fun κ ξ hκ hξ => ?_
 try simp +decide only [go_sem, rw1_, rw2_, rw3_, rw4_, rwz, tn0, tn1, tn2_, tn3, tn4, eS0, eS1, eS2, eS3, eS4, eF, eZ, w01, w12, w23, w34, w45]
 repeat with_reducible refine an_ ?_
 refine hκ _ _ ?_; clear hκ hξ ξ κ
 refine sr_ [1, 2, 3, 4] [] [] fun κ ξ hκ hξ => ?_
 try simp +decide only [go_sem, rw1_, rw2_, rw3_, rw4_, rwz, tn0, tn1, tn2_, tn3, tn4, eS0, eS1, eS2, eS3, eS4, eF, eZ, w01, w12, w23, w34, w45]
 repeat with_reducible refine an_ ?_
 refine hκ _ _ ?_; clear hκ hξ ξ κ
 refine srz_ [(5, [])] [1, 2, 3, 4, 5, 6] [] [] fun κ ξ hκ hξ => ?_
 try simp +decide only [go_sem, rw1_, rw2_, rw3_, rw4_, rwz, tn0, tn1, tn2_, tn3, tn4, eS0, eS1, eS2, eS3, eS4, eF, eZ, w01, w12, w23, w34, w45]
 repeat with_reducible refine an_ ?_
 skip
 first | refine callF hp0 ?_ | refine callF hp1 ?_ | refine callF hp2 ?_ | refine callF hp3 ?_ | refine callF hp4 ?_
 try simp +decide only [go_sem, rw1_, rw2_, rw3_, rw4_, rwz, tn0, tn1, tn2_, tn3, tn4, eS0, eS1, eS2, eS3, eS4, eF, eZ, w01, w12, w23, w34, w45]
 repeat with_reducible refine an_ ?_
 intro b5 hb5
 try simp +decide only [go_sem, rw1_, rw2_, rw3_, rw4_, rwz, tn0, tn1, tn2_, tn3, tn4, eS0, eS1, eS2, eS3, eS4, eF, eZ, w01, w12, w23, w34, w45, hb5]
 repeat with_reducible refine an_ ?_
 refine hκ _ _ ?_; clear hκ hξ ξ κ
 refine sr_ [1, 2, 3, 4, 5, 6, 7, 8] [] [] fun κ ξ hκ hξ => ?_
 try simp +decide only [go_sem, rw1_, rw2_, rw3_, rw4_, rwz, tn0, tn1, tn2_, tn3, tn4, eS0, eS1, eS2, eS3, eS4, eF, eZ, w01, w12, w23, w34, w45, hb5]
 repeat with_reducible refine an_ ?_
 skip
 first | refine callF hi0 ?_ | refine callF hi1 ?_ | refine callF hi2 ?_ | refine callF hi3 ?_ | refine callF hi4 ?_
 try simp +decide only [go_sem, rw1_, rw2_, rw3_, rw4_, rwz, tn0, tn1, tn2_, tn3, tn4, eS0, eS1, eS2, eS3, eS4, eF, eZ, w01, w12, w23, w34, w45, hb5]
 repeat with_reducible refine an_ ?_
 refine hκ _ _ ?_; clear hκ hξ ξ κ
 refine srd_ [1, 2, 3, 4, 5, 6, 7, 8, 9, 10] [] [38, 40] [] fun κ ξ hκ hξ => ?_
 try simp +decide only [go_sem, rw1_, rw2_, rw3_, rw4_, rwz, tn0, tn1, tn2_, tn3, tn4, eS0, eS1, eS2, eS3, eS4, eF, eZ, w01, w12, w23, w34, w45, hb5]
 repeat with_reducible refine an_ ?_
 refine scallF (exa_w) ?_
 try simp +decide only [go_sem, rw1_, rw2_, rw3_, rw4_, rwz, tn0, tn1, tn2_, tn3, tn4, eS0, eS1, eS2, eS3, eS4, eF, eZ, w01, w12, w23, w34, w45, hb5]
 repeat with_reducible refine an_ ?_
 skip
 first | refine scallF hh0 ?_ | refine scallF hh1 ?_ | refine scallF hh2 ?_ | refine scallF hh3 ?_ | refine scallF hh4 ?_
 try simp +decide only [go_sem, rw1_, rw2_, rw3_, rw4_, rwz, tn0, tn1, tn2_, tn3, tn4, eS0, eS1, eS2, eS3, eS4, eF, eZ, w01, w12, w23, w34, w45, hb5]
 repeat with_reducible refine an_ ?_
 refine hκ _ _ ?_; clear hκ hξ ξ κ
 refine rr_ [1, 2] [] [(1, 44), (5, 48), (9, 52), (13, 56), (18, 61), (23, 66)] fun κ ξ hκ hξ => ?_
 try simp +decide only [go_sem, rw1_, rw2_, rw3_, rw4_, rwz, tn0, tn1, tn2_, tn3, tn4, eS0, eS1, eS2, eS3, eS4, eF, eZ, w01, w12, w23, w34, w45, hb5]
 repeat with_reducible refine an_ ?_
 refine vo_gc ?_
 try simp +decide only [go_sem, rw1_, rw2_, rw3_, rw4_, rwz, tn0, tn1, tn2_, tn3, tn4, eS0, eS1, eS2, eS3, eS4, eF, eZ, w01, w12, w23, w34, w45, hb5]
 first | refine gcF hv0 ?_ | refine gcF hv1 ?_ | refine gcF hv2 ?_ | refine gcF hv3 ?_ | refine gcF hv4 ?_
 try simp +decide only [go_sem, rw1_, rw2_, rw3_, rw4_, rwz, tn0, tn1, tn2_, tn3, tn4, eS0, eS1, eS2, eS3, eS4, eF, eZ, w01, w12, w23, w34, w45, hb5]
 repeat with_reducible refine an_ ?_
 refine hκ _ _ ?_; clear hκ hξ ξ κ
 refine rr_ [1, 2] [] [] fun κ ξ hκ hξ => ?_
 try simp +decide only [go_sem, rw1_, rw2_, rw3_, rw4_, rwz, tn0, tn1, tn2_, tn3, tn4, eS0, eS1, eS2, eS3, eS4, eF, eZ, w01, w12, w23, w34, w45, hb5]
 repeat with_reducible refine an_ ?_
 refine hκ _ _ ?_; clear hκ hξ ξ κ
 refine rnd ?_
 refine sq ?_
 refine sr_ [1, 2, 16] [] [] fun κ ξ hκ hξ => ?_
 try simp +decide only [go_sem, rw1_, rw2_, rw3_, rw4_, rwz, tn0, tn1, tn2_, tn3, tn4, eS0, eS1, eS2, eS3, eS4, eF, eZ, w01, w12, w23, w34, w45, hb5]
 repeat with_reducible refine an_ ?_
 refine hκ _ _ ?_; clear hκ hξ ξ κ
 refine cdt (by rfl) ?_
 refine sk ?_
 refine sq ?_
 refine bl ?_
 refine sr_ [1, 2, 3] [] [] fun κ ξ hκ hξ => ?_
 try simp +decide only [go_sem, rw1_, rw2_, rw3_, rw4_, rwz, tn0, tn1, tn2_, tn3, tn4, eS0, eS1, eS2, eS3, eS4, eF, eZ, w01, w12, w23, w34, w45, hb5]
 repeat with_reducible refine an_ ?_
 refine hκ _ _ ?_; clear hκ hξ ξ κ
 refine sr_ [1, 2, 3, 4] [] [] fun κ ξ hκ hξ => ?_
 try simp +decide only [go_sem, rw1_, rw2_, rw3_, rw4_, rwz, tn0, tn1, tn2_, tn3, tn4, eS0, eS1, eS2, eS3, eS4, eF, eZ, w01, w12, w23, w34, w45, hb5]
 repeat with_reducible refine an_ ?_
 refine hκ _ _ ?_; clear hκ hξ ξ κ
 refine srz_ [(5, [])] [1, 2, 3, 4, 5, 6] [] [] fun κ ξ hκ hξ => ?_
 try simp +decide only [go_sem, rw1_, rw2_, rw3_, rw4_, rwz, tn0, tn1, tn2_, tn3, tn4, eS0, eS1, eS2, eS3, eS4, eF, eZ, w01, w12, w23, w34, w45, hb5]
 repeat with_reducible refine an_ ?_
 skip
 first | refine callF hp0 ?_ | refine callF hp1 ?_ | refine callF hp2 ?_ | refine callF hp3 ?_ | refine callF hp4 ?_
 try simp +decide only [go_sem, rw1_, rw2_, rw3_, rw4_, rwz, tn0, tn1, tn2_, tn3, tn4, eS0, eS1, eS2, eS3, eS4, eF, eZ, w01, w12, w23, w34, w45, hb5]
 repeat with_reducible refine an_ ?_
 intro b5 hb5
 try simp +decide only [go_sem, rw1_, rw2_, rw3_, rw4_, rwz, tn0, tn1, tn2_, tn3, tn4, eS0, eS1, eS2, eS3, eS4, eF, eZ, w01, w12, w23, w34, w45, hb5, hb5]
 repeat with_reducible refine an_ ?_
 refine hκ _ _ ?_; clear hκ hξ ξ κ
 refine sr_ [1, 2, 3, 4, 5, 6, 7, 8] [] [] fun κ ξ hκ hξ => ?_
 try simp +decide only [go_sem, rw1_, rw2_, rw3_, rw4_, rwz, tn0, tn1, tn2_, tn3, tn4, eS0, eS1, eS2, eS3, eS4, eF, eZ, w01, w12, w23, w34, w45, hb5, hb5]
 repeat with_reducible refine an_ ?_
 skip
 first | refine callF hi0 ?_ | refine callF hi1 ?_ | refine callF hi2 ?_ | refine callF hi3 ?_ | refine callF hi4 ?_
 try simp +decide only [go_sem, rw1_, rw2_, rw3_, rw4_, rwz, tn0, tn1, tn2_, tn3, tn4, eS0, eS1, eS2, eS3, eS4, eF, eZ, w01, w12, w23, w34, w45, hb5, hb5]
 repeat with_reducible refine an_ ?_
 refine hκ _ _ ?_; clear hκ hξ ξ κ
 refine srd_ [1, 2, 3, 4, 5, 6, 7, 8, 9, 10] [] [38, 40] [] fun κ ξ hκ hξ => ?_
 try simp +decide only [go_sem, rw1_, rw2_, rw3_, rw4_, rwz, tn0, tn1, tn2_, tn3, tn4, eS0, eS1, eS2, eS3, eS4, eF, eZ, w01, w12, w23, w34, w45, hb5, hb5]
 repeat with_reducible refine an_ ?_
 refine scallF (exa_w) ?_
 try simp +decide only [go_sem, rw1_, rw2_, rw3_, rw4_, rwz, tn0, tn1, tn2_, tn3, tn4, eS0, eS1, eS2, eS3, eS4, eF, eZ, w01, w12, w23, w34, w45, hb5, hb5]
 repeat with_reducible refine an_ ?_
 skip
 first | refine scallF hh0 ?_ | refine scallF hh1 ?_ | refine scallF hh2 ?_ | refine scallF hh3 ?_ | refine scallF hh4 ?_
 try simp +decide only [go_sem, rw1_, rw2_, rw3_, rw4_, rwz, tn0, tn1, tn2_, tn3, tn4, eS0, eS1, eS2, eS3, eS4, eF, eZ, w01, w12, w23, w34, w45, hb5, hb5]
 repeat with_reducible refine an_ ?_
 refine hκ _ _ ?_; clear hκ hξ ξ κ
 refine rr_ [1, 2] [] [(1, 44), (5, 48), (9, 52), (13, 56), (18, 61), (23, 66)] fun κ ξ hκ hξ => ?_
 try simp +decide only [go_sem, rw1_, rw2_, rw3_, rw4_, rwz, tn0, tn1, tn2_, tn3, tn4, eS0, eS1, eS2, eS3, eS4, eF, eZ, w01, w12, w23, w34, w45, hb5, hb5]
 repeat with_reducible refine an_ ?_
 refine vo_gc ?_
 try simp +decide only [go_sem, rw1_, rw2_, rw3_, rw4_, rwz, tn0, tn1, tn2_, tn3, tn4, eS0, eS1, eS2, eS3, eS4, eF, eZ, w01, w12, w23, w34, w45, hb5, hb5]
 first | refine gcF hv0 ?_ | refine gcF hv1 ?_ | refine gcF hv2 ?_ | refine gcF hv3 ?_ | refine gcF hv4 ?_
 try simp +decide only [go_sem, rw1_, rw2_, rw3_, rw4_, rwz, tn0, tn1, tn2_, tn3, tn4, eS0, eS1, eS2, eS3, eS4, eF, eZ, w01, w12, w23, w34, w45, hb5, hb5]
 repeat with_reducible refine an_ ?_
 refine hκ _ _ ?_; clear hκ hξ ξ κ
 refine rr_ [1, 2] [] [] fun κ ξ hκ hξ => ?_
 try simp +decide only [go_sem, rw1_, rw2_, rw3_, rw4_, rwz, tn0, tn1, tn2_, tn3, tn4, eS0, eS1, eS2, eS3, eS4, eF, eZ, w01, w12, w23, w34, w45, hb5, hb5]
 repeat with_reducible refine an_ ?_
 refine hκ _ _ ?_; clear hκ hξ ξ κ
 refine rnd ?_
 refine sq ?_
 refine sr_ [1, 2, 16] [] [] fun κ ξ hκ hξ => ?_
 try simp +decide only [go_sem, rw1_, rw2_, rw3_, rw4_, rwz, tn0, tn1, tn2_, tn3, tn4, eS0, eS1, eS2, eS3, eS4, eF, eZ, w01, w12, w23, w34, w45, hb5, hb5]
 repeat with_reducible refine an_ ?_
 refine hκ _ _ ?_; clear hκ hξ ξ κ
 refine cdt (by rfl) ?_
 refine sk ?_
 refine sq ?_
 refine bl ?_
 refine sr_ [1, 2, 3] [] [] fun κ ξ hκ hξ => ?_
 try simp +decide only [go_sem, rw1_, rw2_, rw3_, rw4_, rwz, tn0, tn1, tn2_, tn3, tn4, eS0, eS1, eS2, eS3, eS4, eF, eZ, w01, w12, w23, w34, w45, hb5, hb5]
 repeat with_reducible refine an_ ?_
 refine hκ _ _ ?_; clear hκ hξ ξ κ
 refine sr_ [1, 2, 3, 4] [] [] fun κ ξ hκ hξ => ?_
 try simp +decide only [go_sem, rw1_, rw2_, rw3_, rw4_, rwz, tn0, tn1, tn2_, tn3, tn4, eS0, eS1, eS2, eS3, eS4, eF, eZ, w01, w12, w23, w34, w45, hb5, hb5]
 repeat with_reducible refine an_ ?_
 refine hκ _ _ ?_; clear hκ hξ ξ κ
 refine srz_ [(5, [])] [1, 2, 3, 4, 5, 6] [] [] fun κ ξ hκ hξ => ?_
 try simp +decide only [go_sem, rw1_, rw2_, rw3_, rw4_, rwz, tn0, tn1, tn2_, tn3, tn4, eS0, eS1, eS2, eS3, eS4, eF, eZ, w01, w12, w23, w34, w45, hb5, hb5]
 repeat with_reducible refine an_ ?_
 skip
 first | refine callF hp0 ?_ | refine callF hp1 ?_ | refine callF hp2 ?_ | refine callF hp3 ?_ | refine callF hp4 ?_
 try simp +decide only [go_sem, rw1_, rw2_, rw3_, rw4_, rwz, tn0, tn1, tn2_, tn3, tn4, eS0, eS1, eS2, eS3, eS4, eF, eZ, w01, w12, w23, w34, w45, hb5, hb5]
 repeat with_reducible refine an_ ?_
 intro b5 hb5
 try simp +decide only [go_sem, rw1_, rw2_, rw3_, rw4_, rwz, tn0, tn1, tn2_, tn3, tn4, eS0, eS1, eS2, eS3, eS4, eF, eZ, w01, w12, w23, w34, w45, hb5, hb5, hb5]
 repeat with_reducible refine an_ ?_
 refine hκ _ _ ?_; clear hκ hξ ξ κ
 refine sr_ [1, 2, 3, 4, 5, 6, 7, 8] [] [] fun κ ξ hκ hξ => ?_
 try simp +decide only [go_sem, rw1_, rw2_, rw3_, rw4_, rwz, tn0, tn1, tn2_, tn3, tn4, eS0, eS1, eS2, eS3, eS4, eF, eZ, w01, w12, w23, w34, w45, hb5, hb5, hb5]
 repeat with_reducible refine an_ ?_
 skip
 first | refine callF hi0 ?_ | refine callF hi1 ?_ | refine callF hi2 ?_ | refine callF hi3 ?_ | refine callF hi4 ?_
 try simp +decide only [go_sem, rw1_, rw2_, rw3_, rw4_, rwz, tn0, tn1, tn2_, tn3, tn4, eS0, eS1, eS2, eS3, eS4, eF, eZ, w01, w12, w23, w34, w45, hb5, hb5, hb5]
 repeat with_reducible refine an_ ?_
 refine hκ _ _ ?_; clear hκ hξ ξ κ
 refine srd_ [1, 2, 3, 4, 5, 6, 7, 8, 9, 10] [] [38, 40] [] fun κ ξ hκ hξ => ?_
 try simp +decide only [go_sem, rw1_, rw2_, rw3_, rw4_, rwz, tn0, tn1, tn2_, tn3, tn4, eS0, eS1, eS2, eS3, eS4, eF, eZ, w01, w12, w23, w34, w45, hb5, hb5, hb5]
 repeat with_reducible refine an_ ?_
 refine scallF (exa_w) ?_
 try simp +decide only [go_sem, rw1_, rw2_, rw3_, rw4_, rwz, tn0, tn1, tn2_, tn3, tn4, eS0, eS1, eS2, eS3, eS4, eF, eZ, w01, w12, w23, w34, w45, hb5, hb5, hb5]
 repeat with_reducible refine an_ ?_
 skip
 first | refine scallF hh0 ?_ | refine scallF hh1 ?_ | refine scallF hh2 ?_ | refine scallF hh3 ?_ | refine scallF hh4 ?_
 try simp +decide only [go_sem, rw1_, rw2_, rw3_, rw4_, rwz, tn0, tn1, tn2_, tn3, tn4, eS0, eS1, eS2, eS3, eS4, eF, eZ, w01, w12, w23, w34, w45, hb5, hb5, hb5]
 repeat with_reducible refine an_ ?_
 refine hκ _ _ ?_; clear hκ hξ ξ κ
 refine rr_ [1, 2] [] [(1, 44), (5, 48), (9, 52), (13, 56), (18, 61), (23, 66)] fun κ ξ hκ hξ => ?_
 try simp +decide only [go_sem, rw1_, rw2_, rw3_, rw4_, rwz, tn0, tn1, tn2_, tn3, tn4, eS0, eS1, eS2, eS3, eS4, eF, eZ, w01, w12, w23, w34, w45, hb5, hb5, hb5]
 repeat with_reducible refine an_ ?_
 refine vo_gc ?_
 try simp +decide only [go_sem, rw1_, rw2_, rw3_, rw4_, rwz, tn0, tn1, tn2_, tn3, tn4, eS0, eS1, eS2, eS3, eS4, eF, eZ, w01, w12, w23, w34, w45, hb5, hb5, hb5]
 first | refine gcF hv0 ?_ | refine gcF hv1 ?_ | refine gcF hv2 ?_ | refine gcF hv3 ?_ | refine gcF hv4 ?_
 try simp +decide only [go_sem, rw1_, rw2_, rw3_, rw4_, rwz, tn0, tn1, tn2_, tn3, tn4, eS0, eS1, eS2, eS3, eS4, eF, eZ, w01, w12, w23, w34, w45, hb5, hb5, hb5]
 repeat with_reducible refine an_ ?_
 refine hκ _ _ ?_; clear hκ hξ ξ κ
 refine rr_ [1, 2] [] [] fun κ ξ hκ hξ => ?_
 try simp +decide only [go_sem, rw1_, rw2_, rw3_, rw4_, rwz, tn0, tn1, tn2_, tn3, tn4, eS0, eS1, eS2, eS3, eS4, eF, eZ, w01, w12, w23, w34, w45, hb5, hb5, hb5]
 repeat with_reducible refine an_ ?_
 refine hκ _ _ ?_; clear hκ hξ ξ κ
 refine rnd ?_
 refine sq ?_
 refine sr_ [1, 2, 16] [] [] fun κ ξ hκ hξ => ?_
 try simp +decide only [go_sem, rw1_, rw2_, rw3_, rw4_, rwz, tn0, tn1, tn2_, tn3, tn4, eS0, eS1, eS2, eS3, eS4, eF, eZ, w01, w12, w23, w34, w45, hb5, hb5, hb5]
 repeat with_reducible refine an_ ?_
 refine hκ _ _ ?_; clear hκ hξ ξ κ
 refine cdt (by rfl) ?_
 refine sk ?_
 refine sq ?_
 refine bl ?_
 refine sr_ [1, 2, 3] [] [] fun κ ξ hκ hξ => ?_
 try simp +decide only [go_sem, rw1_, rw2_, rw3_, rw4_, rwz, tn0, tn1, tn2_, tn3, tn4, eS0, eS1, eS2, eS3, eS4, eF, eZ, w01, w12, w23, w34, w45, hb5, hb5, hb5]
 repeat with_reducible refine an_ ?_
 refine hκ _ _ ?_; clear hκ hξ ξ κ
 refine sr_ [1, 2, 3, 4] [] [] fun κ ξ hκ hξ => ?_
 try simp +decide only [go_sem, rw1_, rw2_, rw3_, rw4_, rwz, tn0, tn1, tn2_, tn3, tn4, eS0, eS1, eS2, eS3, eS4, eF, eZ, w01, w12, w23, w34, w45, hb5, hb5, hb5]
 repeat with_reducible refine an_ ?_
 refine hκ _ _ ?_; clear hκ hξ ξ κ
 refine srz_ [(5, [])] [1, 2, 3, 4, 5, 6] [] [] fun κ ξ hκ hξ => ?_
 try simp +decide only [go_sem, rw1_, rw2_, rw3_, rw4_, rwz, tn0, tn1, tn2_, tn3, tn4, eS0, eS1, eS2, eS3, eS4, eF, eZ, w01, w12, w23, w34, w45, hb5, hb5, hb5]
 repeat with_reducible refine an_ ?_
 skip
 first | refine callF hp0 ?_ | refine callF hp1 ?_ | refine callF hp2 ?_ | refine callF hp3 ?_ | refine callF hp4 ?_
 try simp +decide only [go_sem, rw1_, rw2_, rw3_, rw4_, rwz, tn0, tn1, tn2_, tn3, tn4, eS0, eS1, eS2, eS3, eS4, eF, eZ, w01, w12, w23, w34, w45, hb5, hb5, hb5]
 repeat with_reducible refine an_ ?_
 intro b5 hb5
 try simp +decide only [go_sem, rw1_, rw2_, rw3_, rw4_, rwz, tn0, tn1, tn2_, tn3, tn4, eS0, eS1, eS2, eS3, eS4, eF, eZ, w01, w12, w23, w34, w45, hb5, hb5, hb5, hb5]
 repeat with_reducible refine an_ ?_
 refine hκ _ _ ?_; clear hκ hξ ξ κ
 refine sr_ [1, 2, 3, 4, 5, 6, 7, 8] [] [] fun κ ξ hκ hξ => ?_
 try simp +decide only [go_sem, rw1_, rw2_, rw3_, rw4_, rwz, tn0, tn1, tn2_, tn3, tn4, eS0, eS1, eS2, eS3, eS4, eF, eZ, w01, w12, w23, w34, w45, hb5, hb5, hb5, hb5]
 repeat with_reducible refine an_ ?_
 skip
 first | refine callF hi0 ?_ | refine callF hi1 ?_ | refine callF hi2 ?_ | refine callF hi3 ?_ | refine callF hi4 ?_
 try simp +decide only [go_sem, rw1_, rw2_, rw3_, rw4_, rwz, tn0, tn1, tn2_, tn3, tn4, eS0, eS1, eS2, eS3, eS4, eF, eZ, w01, w12, w23, w34, w45, hb5, hb5, hb5, hb5]
 repeat with_reducible refine an_ ?_
 refine hκ _ _ ?_; clear hκ hξ ξ κ
 refine srd_ [1, 2, 3, 4, 5, 6, 7, 8, 9, 10] [] [38, 40] [] fun κ ξ hκ hξ => ?_
 try simp +decide only [go_sem, rw1_, rw2_, rw3_, rw4_, rwz, tn0, tn1, tn2_, tn3, tn4, eS0, eS1, eS2, eS3, eS4, eF, eZ, w01, w12, w23, w34, w45, hb5, hb5, hb5, hb5]
 repeat with_reducible refine an_ ?_
 refine scallF (exa_w) ?_
 try simp +decide only [go_sem, rw1_, rw2_, rw3_, rw4_, rwz, tn0, tn1, tn2_, tn3, tn4, eS0, eS1, eS2, eS3, eS4, eF, eZ, w01, w12, w23, w34, w45, hb5, hb5, hb5, hb5]
 repeat with_reducible refine an_ ?_
 skip
 first | refine scallF hh0 ?_ | refine scallF hh1 ?_ | refine scallF hh2 ?_ | refine scallF hh3 ?_ | refine scallF hh4 ?_
 try simp +decide only [go_sem, rw1_, rw2_, rw3_, rw4_, rwz, tn0, tn1, tn2_, tn3, tn4, eS0, eS1, eS2, eS3, eS4, eF, eZ, w01, w12, w23, w34, w45, hb5, hb5, hb5, hb5]
 repeat with_reducible refine an_ ?_
 refine hκ _ _ ?_; clear hκ hξ ξ κ
 refine rr_ [1, 2] [] [(1, 44), (5, 48), (9, 52), (13, 56), (18, 61), (23, 66)] fun κ ξ hκ hξ => ?_
 try simp +decide only [go_sem, rw1_, rw2_, rw3_, rw4_, rwz, tn0, tn1, tn2_, tn3, tn4, eS0, eS1, eS2, eS3, eS4, eF, eZ, w01, w12, w23, w34, w45, hb5, hb5, hb5, hb5]
 repeat with_reducible refine an_ ?_
 refine vo_gc ?_
 try simp +decide only [go_sem, rw1_, rw2_, rw3_, rw4_, rwz, tn0, tn1, tn2_, tn3, tn4, eS0, eS1, eS2, eS3, eS4, eF, eZ, w01, w12, w23, w34, w45, hb5, hb5, hb5, hb5]
 first | refine gcF hv0 ?_ | refine gcF hv1 ?_ | refine gcF hv2 ?_ | refine gcF hv3 ?_ | refine gcF hv4 ?_
 try simp +decide only [go_sem, rw1_, rw2_, rw3_, rw4_, rwz, tn0, tn1, tn2_, tn3, tn4, eS0, eS1, eS2, eS3, eS4, eF, eZ, w01, w12, w23, w34, w45, hb5, hb5, hb5, hb5]
 repeat with_reducible refine an_ ?_
 refine hκ _ _ ?_; clear hκ hξ ξ κ
 refine rr_ [1, 2] [] [] fun κ ξ hκ hξ => ?_
 try simp +decide only [go_sem, rw1_, rw2_, rw3_, rw4_, rwz, tn0, tn1, tn2_, tn3, tn4, eS0, eS1, eS2, eS3, eS4, eF, eZ, w01, w12, w23, w34, w45, hb5, hb5, hb5, hb5]
 repeat with_reducible refine an_ ?_
 refine hκ _ _ ?_; clear hκ hξ ξ κ
 refine rnd ?_
 refine sq ?_
 refine sr_ [1, 2, 16] [] [] fun κ ξ hκ hξ => ?_
 try simp +decide only [go_sem, rw1_, rw2_, rw3_, rw4_, rwz, tn0, tn1, tn2_, tn3, tn4, eS0, eS1, eS2, eS3, eS4, eF, eZ, w01, w12, w23, w34, w45, hb5, hb5, hb5, hb5]
 repeat with_reducible refine an_ ?_
 refine hκ _ _ ?_; clear hκ hξ ξ κ
 refine cdt (by rfl) ?_
 refine sk ?_
 refine sq ?_
 refine bl ?_
 refine sr_ [1, 2, 3] [] [] fun κ ξ hκ hξ => ?_
 try simp +decide only [go_sem, rw1_, rw2_, rw3_, rw4_, rwz, tn0, tn1, tn2_, tn3, tn4, eS0, eS1, eS2, eS3, eS4, eF, eZ, w01, w12, w23, w34, w45, hb5, hb5, hb5, hb5]
 repeat with_reducible refine an_ ?_
 refine hκ _ _ ?_; clear hκ hξ ξ κ
 refine sr_ [1, 2, 3, 4] [] [] fun κ ξ hκ hξ => ?_
 try simp +decide only [go_sem, rw1_, rw2_, rw3_, rw4_, rwz, tn0, tn1, tn2_, tn3, tn4, eS0, eS1, eS2, eS3, eS4, eF, eZ, w01, w12, w23, w34, w45, hb5, hb5, hb5, hb5]
 repeat with_reducible refine an_ ?_
 refine hκ _ _ ?_; clear hκ hξ ξ κ
 refine srz_ [(5, [])] [1, 2, 3, 4, 5, 6] [] [] fun κ ξ hκ hξ => ?_
 try simp +decide only [go_sem, rw1_, rw2_, rw3_, rw4_, rwz, tn0, tn1, tn2_, tn3, tn4, eS0, eS1, eS2, eS3, eS4, eF, eZ, w01, w12, w23, w34, w45, hb5, hb5, hb5, hb5]
 repeat with_reducible refine an_ ?_
 skip
 first | refine callF hp0 ?_ | refine callF hp1 ?_ | refine callF hp2 ?_ | refine callF hp3 ?_ | refine callF hp4 ?_
 try simp +decide only [go_sem, rw1_, rw2_, rw3_, rw4_, rwz, tn0, tn1, tn2_, tn3, tn4, eS0, eS1, eS2, eS3, eS4, eF, eZ, w01, w12, w23, w34, w45, hb5, hb5, hb5, hb5]
 repeat with_reducible refine an_ ?_
 intro b5 hb5
 try simp +decide only [go_sem, rw1_, rw2_, rw3_, rw4_, rwz, tn0, tn1, tn2_, tn3, tn4, eS0, eS1, eS2, eS3, eS4, eF, eZ, w01, w12, w23, w34, w45, hb5, hb5, hb5, hb5, hb5]
 repeat with_reducible refine an_ ?_
 refine hκ _ _ ?_; clear hκ hξ ξ κ
 refine sr_ [1, 2, 3, 4, 5, 6, 7, 8] [] [] fun κ ξ hκ hξ => ?_
 try simp +decide only [go_sem, rw1_, rw2_, rw3_, rw4_, rwz, tn0, tn1, tn2_, tn3, tn4, eS0, eS1, eS2, eS3, eS4, eF, eZ, w01, w12, w23, w34, w45, hb5, hb5, hb5, hb5, hb5]
 repeat with_reducible refine an_ ?_
 skip
 first | refine callF hi0 ?_ | refine callF hi1 ?_ | refine callF hi2 ?_ | refine callF hi3 ?_ | refine callF hi4 ?_
 try simp +decide only [go_sem, rw1_, rw2_, rw3_, rw4_, rwz, tn0, tn1, tn2_, tn3, tn4, eS0, eS1, eS2, eS3, eS4, eF, eZ, w01, w12, w23, w34, w45, hb5, hb5, hb5, hb5, hb5]
 repeat with_reducible refine an_ ?_
 refine hκ _ _ ?_; clear hκ hξ ξ κ
 refine srd_ [1, 2, 3, 4, 5, 6, 7, 8, 9, 10] [] [38, 40] [] fun κ ξ hκ hξ => ?_
 try simp +decide only [go_sem, rw1_, rw2_, rw3_, rw4_, rwz, tn0, tn1, tn2_, tn3, tn4, eS0, eS1, eS2, eS3, eS4, eF, eZ, w01, w12, w23, w34, w45, hb5, hb5, hb5, hb5, hb5]
 repeat with_reducible refine an_ ?_
 refine scallF (exa_w) ?_
 try simp +decide only [go_sem, rw1_, rw2_, rw3_, rw4_, rwz, tn0, tn1, tn2_, tn3, tn4, eS0, eS1, eS2, eS3, eS4, eF, eZ, w01, w12, w23, w34, w45, hb5, hb5, hb5, hb5, hb5]
 repeat with_reducible refine an_ ?_
 skip
 first | refine scallF hh0 ?_ | refine scallF hh1 ?_ | refine scallF hh2 ?_ | refine scallF hh3 ?_ | refine scallF hh4 ?_
 try simp +decide only [go_sem, rw1_, rw2_, rw3_, rw4_, rwz, tn0, tn1, tn2_, tn3, tn4, eS0, eS1, eS2, eS3, eS4, eF, eZ, w01, w12, w23, w34, w45, hb5, hb5, hb5, hb5, hb5]
 repeat with_reducible refine an_ ?_
 refine hκ _ _ ?_; clear hκ hξ ξ κ
 refine rr_ [1, 2] [] [(1, 44), (5, 48), (9, 52), (13, 56), (18, 61), (23, 66)] fun κ ξ hκ hξ => ?_
 try simp +decide only [go_sem, rw1_, rw2_, rw3_, rw4_, rwz, tn0, tn1, tn2_, tn3, tn4, eS0, eS1, eS2, eS3, eS4, eF, eZ, w01, w12, w23, w34, w45, hb5, hb5, hb5, hb5, hb5]
 repeat with_reducible refine an_ ?_
 refine vo_gc ?_
 try simp +decide only [go_sem, rw1_, rw2_, rw3_, rw4_, rwz, tn0, tn1, tn2_, tn3, tn4, eS0, eS1, eS2, eS3, eS4, eF, eZ, w01, w12, w23, w34, w45, hb5, hb5, hb5, hb5, hb5]
 first | refine gcF hv0 ?_ | refine gcF hv1 ?_ | refine gcF hv2 ?_ | refine gcF hv3 ?_ | refine gcF hv4 ?_
 try simp +decide only [go_sem, rw1_, rw2_, rw3_, rw4_, rwz, tn0, tn1, tn2_, tn3, tn4, eS0, eS1, eS2, eS3, eS4, eF, eZ, w01, w12, w23, w34, w45, hb5, hb5, hb5, hb5, hb5]
 repeat with_reducible refine an_ ?_
 refine hκ _ _ ?_; clear hκ hξ ξ κ
 refine rr_ [1, 2] [] [] fun κ ξ hκ hξ => ?_
 try simp +decide only [go_sem, rw1_, rw2_, rw3_, rw4_, rwz, tn0, tn1, tn2_, tn3, tn4, eS0, eS1, eS2, eS3, eS4, eF, eZ, w01, w12, w23, w34, w45, hb5, hb5, hb5, hb5, hb5]
 repeat with_reducible refine an_ ?_
 refine hκ _ _ ?_; clear hκ hξ ξ κ
 refine rnd ?_
 refine sq ?_
 refine sr_ [1, 2, 16] [] [] fun κ ξ hκ hξ => ?_
 try simp +decide only [go_sem, rw1_, rw2_, rw3_, rw4_, rwz, tn0, tn1, tn2_, tn3, tn4, eS0, eS1, eS2, eS3, eS4, eF, eZ, w01, w12, w23, w34, w45, hb5, hb5, hb5, hb5, hb5]
 repeat with_reducible refine an_ ?_
 refine hκ _ _ ?_; clear hκ hξ ξ κ
 refine cdf (by rfl) ?_
 refine ex ?_
 refine sr_ [1, 12] [] [] fun κ ξ hκ hξ => ?_
 try simp +decide only [go_sem, rw1_, rw2_, rw3_, rw4_, rwz, tn0, tn1, tn2_, tn3, tn4, eS0, eS1, eS2, eS3, eS4, eF, eZ, w01, w12, w23, w34, w45, hb5, hb5, hb5, hb5, hb5]
 repeat with_reducible refine an_ ?_
 refine callF (hpF) ?_
 try simp +decide only [go_sem, rw1_, rw2_, rw3_, rw4_, rwz, tn0, tn1, tn2_, tn3, tn4, eS0, eS1, eS2, eS3, eS4, eF, eZ, w01, w12, w23, w34, w45, hb5, hb5, hb5, hb5, hb5]
 repeat with_reducible refine an_ ?_
 intro b11 hb11
 try simp +decide only [go_sem, rw1_, rw2_, rw3_, rw4_, rwz, tn0, tn1, tn2_, tn3, tn4, eS0, eS1, eS2, eS3, eS4, eF, eZ, w01, w12, w23, w34, w45, hb5, hb5, hb5, hb5, hb5, hb11]
 repeat with_reducible refine an_ ?_
 refine hκ _ _ ?_; clear hκ hξ ξ κ
 refine sr_ [1, 12, 14] [] [] fun κ ξ hκ hξ => ?_
 try simp +decide only [go_sem, rw1_, rw2_, rw3_, rw4_, rwz, tn0, tn1, tn2_, tn3, tn4, eS0, eS1, eS2, eS3, eS4, eF, eZ, w01, w12, w23, w34, w45, hb5, hb5, hb5, hb5, hb5, hb11]
 repeat with_reducible refine an_ ?_
 refine callF (hpZ) ?_
 try simp +decide only [go_sem, rw1_, rw2_, rw3_, rw4_, rwz, tn0, tn1, tn2_, tn3, tn4, eS0, eS1, eS2, eS3, eS4, eF, eZ, w01, w12, w23, w34, w45, hb5, hb5, hb5, hb5, hb5, hb11]
 repeat with_reducible refine an_ ?_
 intro b13 hb13
 try simp +decide only [go_sem, rw1_, rw2_, rw3_, rw4_, rwz, tn0, tn1, tn2_, tn3, tn4, eS0, eS1, eS2, eS3, eS4, eF, eZ, w01, w12, w23, w34, w45, hb5, hb5, hb5, hb5, hb5, hb11, hb13]
 repeat with_reducible refine an_ ?_
 refine hκ _ _ ?_; clear hκ hξ ξ κ
 refine sr_ [0] [] [(1, 79), (5, 83), (9, 87)] fun κ ξ hκ hξ => ?_
 try simp +decide only [go_sem, rw1_, rw2_, rw3_, rw4_, rwz, tn0, tn1, tn2_, tn3, tn4, eS0, eS1, eS2, eS3, eS4, eF, eZ, w01, w12, w23, w34, w45, hb5, hb5, hb5, hb5, hb5, hb11, hb13]
 repeat with_reducible refine an_ ?_
 refine vo_gc ?_
 try simp +decide only [go_sem, rw1_, rw2_, rw3_, rw4_, rwz, tn0, tn1, tn2_, tn3, tn4, eS0, eS1, eS2, eS3, eS4, eF, eZ, w01, w12, w23, w34, w45, hb5, hb5, hb5, hb5, hb5, hb11, hb13]
 refine gcF hv9 ?_
 try simp +decide only [go_sem, rw1_, rw2_, rw3_, rw4_, rwz, tn0, tn1, tn2_, tn3, tn4, eS0, eS1, eS2, eS3, eS4, eF, eZ, w01, w12, w23, w34, w45, hb5, hb5, hb5, hb5, hb5, hb11, hb13]
 repeat with_reducible refine an_ ?_
 refine hκ _ _ ?_; clear hκ hξ ξ κ
 refine rt ?_
 refine retE ?_
 simp +decide only [go_sem, resD, resV, rw1_, rw2_, rw3_, rw4_, rwz, tn0, tn1, tn2_, tn3, tn4, eS0, eS1, eS2, eS3, eS4, eF, eZ, w01, w12, w23, w34, w45, hb5, hb5, hb5, hb5, hb5, hb11, hb13]
 
end Go.Proofs.YtfjnohmdilmfhaaGreatDoor
/- Claim: law 3. Printed by a tool of our own. -/
namespace Go.Proofs.YtfjnohmdilmfhaaGreatDoor
open Go Go.RowKit
set_option linter.unusedSimpArgs false
set_option linter.unusedVariables false
set_option maxHeartbeats 4000000
set_option maxRecDepth 100000
theorem hol_t (l : List Bx) (t : Tok) (hf : fewB l = true) (e : Cl) : PCall Tryz.prog (.func 12) [.sl 7 (l.map bxrow) t, .ag [.int .i64 e.op, .int .i64 e.a, .int .i64 e.b, .int .i64 e.n, .sl 5 (e.kids.map crow) .no]] (.tup [.bool (bxsB l && clB e && hld l e), .int .i64 (if (bxsB l && clB e) = true then 0 else 1)]) := PCall.args (hol_w l hf e) ⟨DLe.tok _ _ _, DLe.refl _, trivial⟩
theorem rhol_t (l : List Bx) (t : Tok) (e : Cl) : PCall Tryz.prog (.func 13) [.sl 7 (l.map bxrow) t, .ag [.int .i64 e.op, .int .i64 e.a, .int .i64 e.b, .int .i64 e.n, .sl 5 (e.kids.map crow) .no]] (.tup [.bool (bxsB l && clB e && hld l e), .int .i64 (if (bxsB l && clB e) = true then 0 else 1)]) := PCall.args (rhol_w l e) ⟨DLe.tok _ _ _, DLe.refl _, trivial⟩
attribute [local go_sem] List.length_map rowAt_n nrow rowAt_t trow rowAt_i irow
attribute [local go_sem] rowAt_c rowAt_sn rowAt_bx snrow bxrow
attribute [local go_sem] List.append_eq
theorem law3_w (l : List Bx) (t : Tok) (e : Cl) (s : W) : PCall Tryz.prog (.func 3) [.sl 7 (l.map bxrow) t, .ag [.int .i64 e.op, .int .i64 e.a, .int .i64 e.b, .int .i64 e.n, .sl 5 (e.kids.map crow) .no], .str s] (.bool true) := by
 refine PCall.le ?_
 refine fn_ Tryz.func3 (by rfl) (by rfl) (rs := [.tmp 6]) (by rfl) (by simp [Tryz.f3]) ?_
 refine sr_ [0, 2, 4] [4] [] fun κ ξ hκ hξ => ?_
 try simp +decide only [go_sem]
 repeat with_reducible refine an_ ?_
 refine hκ _ _ ?_; clear hκ hξ ξ κ
 refine sr_ [0, 2, 4, 7] [] [] fun κ ξ hκ hξ => ?_
 try simp +decide only [go_sem]
 repeat with_reducible refine an_ ?_
 refine callF (hea_w) ?_
 try simp +decide only [go_sem]
 repeat with_reducible refine an_ ?_
 refine hκ _ _ ?_; clear hκ hξ ξ κ
 refine sq ?_
 refine sr_ [0, 2, 4, 7, 29] [] [(3, 20), (7, 24)] fun κ ξ hκ hξ => ?_
 try simp +decide only [go_sem]
 repeat with_reducible refine an_ ?_
 refine callF (few_w _ _) ?_
 try simp +decide only [go_sem]
 repeat with_reducible refine an_ ?_
 refine hκ _ _ ?_; clear hκ hξ ξ κ
 refine cd_ (fun c0 => ?_) (fun c0 => ?_)
 ·simp only [go_sem, decide_eq_true_eq, decide_eq_false_iff_not, Bool.and_eq_true, Bool.and_eq_false_iff, Bool.not_eq_true', Bool.not_eq_false'] at c0
  refine sr_ [6] [] [] fun κ ξ hκ hξ => ?_
  try simp +decide only [go_sem, c0]
  repeat with_reducible refine an_ ?_
  refine hκ _ _ ?_; clear hκ hξ ξ κ
  refine rt ?_
  refine retE ?_
  simp +decide only [go_sem, resD, resV, c0]
  
 ·simp only [go_sem, decide_eq_true_eq, decide_eq_false_iff_not, Bool.and_eq_true, Bool.and_eq_false_iff, Bool.not_eq_true', Bool.not_eq_false'] at c0
  have hf : fewB l = true := c0.1
  refine sk ?_
  refine sr_ [0, 2, 4, 7, 8, 9] [] [] fun κ ξ hκ hξ => ?_
  try simp +decide only [go_sem, c0]
  repeat with_reducible refine an_ ?_
  refine callF (hol_t l t hf e) ?_
  try simp +decide only [go_sem, c0]
  repeat with_reducible refine an_ ?_
  refine hκ _ _ ?_; clear hκ hξ ξ κ
  refine sr_ [2, 4, 7, 8, 9, 10, 11] [] [] fun κ ξ hκ hξ => ?_
  try simp +decide only [go_sem, c0]
  repeat with_reducible refine an_ ?_
  refine callF (rhol_t l t e) ?_
  try simp +decide only [go_sem, c0]
  repeat with_reducible refine an_ ?_
  refine hκ _ _ ?_; clear hκ hξ ξ κ
  refine srd_ [2, 4, 7] [] [46, 48] [(1, 44), (8, 51), (13, 56)] fun κ ξ hκ hξ => ?_
  try simp +decide only [go_sem, c0]
  repeat with_reducible refine an_ ?_
  refine vd_gc rfl ?_
  try simp +decide only [go_sem, c0]
  refine gcF (clv_w e) ?_
  try simp +decide only [go_sem, c0]
  repeat with_reducible refine an_ ?_
  refine vd_gc rfl ?_
  try simp +decide only [go_sem, c0]
  refine gcF (rclv_w e) ?_
  try simp +decide only [go_sem, c0]
  repeat with_reducible refine an_ ?_
  refine hκ _ _ ?_; clear hκ hξ ξ κ
  refine srz_ [(12, [])] [2, 4, 7, 9, 12] [] [] fun κ ξ hκ hξ => ?_
  try simp +decide only [go_sem, c0]
  repeat with_reducible refine an_ ?_
  refine callF (prs_w s) ?_
  try simp +decide only [go_sem, c0]
  repeat with_reducible refine an_ ?_
  intro b12 hb12
  try simp +decide only [go_sem, c0, hb12]
  repeat with_reducible refine an_ ?_
  refine hκ _ _ ?_; clear hκ hξ ξ κ
  refine srz_ [(13, [])] [4, 7, 9, 11, 12, 13] [] [] fun κ ξ hκ hξ => ?_
  try simp +decide only [go_sem, c0, hb12]
  repeat with_reducible refine an_ ?_
  refine callF (rprs_w s) ?_
  try simp +decide only [go_sem, c0, hb12]
  repeat with_reducible refine an_ ?_
  intro b13 hb13
  try simp +decide only [go_sem, c0, hb12, hb13]
  repeat with_reducible refine an_ ?_
  refine hκ _ _ ?_; clear hκ hξ ξ κ
  refine sr_ [4, 7] [] [(1, 72), (6, 77)] fun κ ξ hκ hξ => ?_
  try simp +decide only [go_sem, c0, hb12, hb13]
  repeat with_reducible refine an_ ?_
  refine vo_gc ?_
  try simp +decide only [go_sem, c0, hb12, hb13]
  refine gcF (same_w (prsC s)) ?_
  try simp +decide only [go_sem, c0, hb12, hb13]
  repeat with_reducible refine an_ ?_
  refine hκ _ _ ?_; clear hκ hξ ξ κ
  refine sr_ [4, 7, 9, 14] [] [] fun κ ξ hκ hξ => ?_
  try simp +decide only [go_sem, c0, hb12, hb13]
  repeat with_reducible refine an_ ?_
  refine callF (pri_w e) ?_
  try simp +decide only [go_sem, c0, hb12, hb13]
  repeat with_reducible refine an_ ?_
  refine hκ _ _ ?_; clear hκ hξ ξ κ
  refine sr_ [7, 9, 11, 14, 15] [] [] fun κ ξ hκ hξ => ?_
  try simp +decide only [go_sem, c0, hb12, hb13]
  repeat with_reducible refine an_ ?_
  refine callF (rpri_w e) ?_
  try simp +decide only [go_sem, c0, hb12, hb13]
  repeat with_reducible refine an_ ?_
  refine hκ _ _ ?_; clear hκ hξ ξ κ
  refine sr_ [6] [] [(1, 93), (6, 98)] fun κ ξ hκ hξ => ?_
  try simp +decide only [go_sem, c0, hb12, hb13]
  repeat with_reducible refine an_ ?_
  refine hκ _ _ ?_; clear hκ hξ ξ κ
  refine rt ?_
  refine retE ?_
  simp +decide only [go_sem, resD, resV, c0, hb12, hb13]
  simp
end Go.Proofs.YtfjnohmdilmfhaaGreatDoor
/- The arguments of claim's laws, as plain data; what the listed variables give. -/
namespace Go.Proofs.YtfjnohmdilmfhaaGreatDoor
open Go Go.RowKit Go.ChangeShapes Go.WideShapes
set_option linter.unusedSimpArgs false
set_option linter.unusedVariables false
set_option linter.constructorNameAsVariable false
set_option maxRecDepth 100000
theorem own_ : ownKnob Tryz.prog.godebug = none := by kernel_rfl
theorem laidOut_ : laidOutB Tryz.prog = true := by kernel_rfl
section
variable {n : Nat} {t e : TypeId} {k : IntKind} {ds : List D}
theorem sh_int (ht : Tryz.prog.underlying t = some (.int k)) (h : Sh Tryz.prog n t ds) : ∃ x, ds = [.int k x] := by
 cases n with
 | zero => exact h.elim
 | succ n => simpa only [Sh, ht] using h
theorem sh_str (ht : Tryz.prog.underlying t = some .string) (h : Sh Tryz.prog n t ds) : ∃ s, ds = [.str s] := by
 cases n with
 | zero => exact h.elim
 | succ n => simpa only [Sh, ht] using h
theorem sh_bool (ht : Tryz.prog.underlying t = some .bool) (h : Sh Tryz.prog n t ds) : ∃ s, ds = [.bool s] := by
 cases n with
 | zero => exact h.elim
 | succ n => simpa only [Sh, ht] using h
theorem sh_list {α : Type} {row : α → List D} {sz : Nat} (ht : Tryz.prog.underlying t = some (.slice e)) (hc : Tryz.prog.cellsOf e = sz) (hrow : ∀ m ds, Sh Tryz.prog m e ds → ∃ x, ds = row x) (h : Sh Tryz.prog n t ds) : ∃ l : List α, ds = [.sl sz (l.map row) .no] := by
 cases n with
 | zero => exact h.elim
 | succ n =>
  simp only [Sh, ht, hc] at h
  obtain ⟨rows, rfl, h⟩ := h
  obtain ⟨l, rfl⟩ := sh_rows (fun ds h => hrow n ds h) h
  exact ⟨l, rfl⟩
end
theorem c25 : Tryz.prog.cellsOf 25 = 5 := by kernel_rfl
theorem c45 : Tryz.prog.cellsOf 45 = 7 := by kernel_rfl
theorem c47 : Tryz.prog.cellsOf 47 = 5 := by kernel_rfl
theorem sh_cl : ∀ (n : Nat) (ds : List D), Sh Tryz.prog n 25 ds → ∃ x : Cl, ds = crow x
 | 0, _, h => h.elim
 | 1, _, h => by
  simp only [Sh, Tryz.underlying25, ShF] at h
  obtain ⟨_, _, _, ha, _⟩ := h
  exact ha.elim
 | n + 2, ds, h => by
  have ih := sh_cl n
  rw [Sh] at h
  simp only [Tryz.underlying25, ShF] at h
  obtain ⟨_, _, rfl, ha, _, _, rfl, hb, _, _, rfl, hc, _, _, rfl, hd, _, _, rfl, he, rfl⟩ := h
  obtain ⟨a, rfl⟩ := sh_int Tryz.underlying3 ha
  obtain ⟨b, rfl⟩ := sh_int Tryz.underlying3 hb
  obtain ⟨c, rfl⟩ := sh_int Tryz.underlying3 hc
  obtain ⟨d, rfl⟩ := sh_int Tryz.underlying3 hd
  simp only [Sh, Tryz.underlying23, c25] at he
  obtain ⟨rows, rfl, he⟩ := he
  obtain ⟨l, rfl⟩ := sh_rows (f := crow) (fun ds h => ih ds h) he
  exact ⟨.mk a b c d l, by rw [crow_eq]; rfl⟩
theorem sh_seen (n : Nat) (ds : List D) (h : Sh Tryz.prog n 47 ds) : ∃ x : Sn, ds = snrow x := by
 cases n with
 | zero => exact h.elim
 | succ n =>
  simp only [Sh, Tryz.underlying47, ShF] at h
  obtain ⟨_, _, rfl, ha, _, _, rfl, hb, _, _, rfl, hc, _, _, rfl, hd, _, _, rfl, he, rfl⟩ := h
  obtain ⟨a, rfl⟩ := sh_str Tryz.underlying9 ha
  obtain ⟨b, rfl⟩ := sh_int Tryz.underlying3 hb
  obtain ⟨c, rfl⟩ := sh_int Tryz.underlying3 hc
  obtain ⟨d, rfl⟩ := sh_int Tryz.underlying3 hd
  obtain ⟨e, rfl⟩ := sh_int Tryz.underlying3 he
  exact ⟨⟨a, b, c, d, e⟩, rfl⟩
theorem sh_box (n : Nat) (ds : List D) (h : Sh Tryz.prog n 45 ds) : ∃ x : Bx, ds = bxrow x := by
 cases n with
 | zero => exact h.elim
 | succ n =>
  simp only [Sh, Tryz.underlying45, ShF] at h
  obtain ⟨_, _, rfl, ha, _, _, rfl, hb, _, _, rfl, hc, _, _, rfl, hd, _, _, rfl, he, _, _, rfl, hf, _, _, rfl, hg, rfl⟩ := h
  obtain ⟨a, rfl⟩ := sh_int Tryz.underlying3 ha
  obtain ⟨b, rfl⟩ := sh_int Tryz.underlying3 hb
  obtain ⟨c, rfl⟩ := sh_int Tryz.underlying3 hc
  obtain ⟨d, rfl⟩ := sh_int Tryz.underlying3 hd
  obtain ⟨e, rfl⟩ := sh_int Tryz.underlying3 he
  obtain ⟨f, rfl⟩ := sh_bool Tryz.underlying4 hf
  obtain ⟨g, rfl⟩ := sh_list Tryz.underlying43 c47 sh_seen hg
  exact ⟨⟨a, b, c, d, e, f, g⟩, rfl⟩
theorem argD_cl {n : Nat} {d : D} (h : ArgD Tryz.prog n 25 d) : ∃ e : Cl, d = .ag [.int .i64 e.op, .int .i64 e.a, .int .i64 e.b, .int .i64 e.n, .sl 5 (e.kids.map crow) .no] := by
 simp only [ArgD, Tryz.underlying25] at h
 obtain ⟨cs, rfl, h⟩ := h
 obtain ⟨x, rfl⟩ := sh_cl _ _ h
 exact ⟨x, by rw [crow_eq]⟩
theorem argD_boxes {n : Nat} {d : D} (h : ArgD Tryz.prog n 22 d) : ∃ l : List Bx, d = .sl 7 (l.map bxrow) .no := by
 simp only [ArgD, Tryz.underlying22] at h
 obtain ⟨l, e⟩ := sh_list Tryz.underlying22 c45 sh_box h
 exact ⟨l, by simpa using e⟩
theorem argD_str {n : Nat} {d : D} (h : ArgD Tryz.prog n 9 d) : ∃ s : List UInt8, d = .str s := by
 simp only [ArgD, Tryz.underlying9] at h
 obtain ⟨s, e⟩ := sh_str Tryz.underlying9 h
 exact ⟨s, by simpa using e⟩
/-! ### What a row's listed variables and the world's shape give -/
def laidL : List (String × DataW Unit) := Rows.claimMatchesReferenceRow.laid
theorem glob_of {W : World} (hL : laidMetH Tryz.prog laidL W) (hsh : W.ShapedOpen Tryz.prog) : GlobW W [] := by
 intro x hx
 refine ⟨by simp [Store.keys], ?_⟩
 unfold globs at hx
 rcases List.mem_cons.1 hx with rfl | hx
 ·obtain ⟨m, hm⟩ := cell_of_shapedOpen_int (g := 0) (t := 3) (k := .i64) (zero := #[.int .i64 0]) hsh (of_decide_eq_true (by kernel_rfl)) (by kernel_rfl) rfl (by kernel_rfl) (by kernel_rfl) Tryz.underlying3
  unfold World.cell? at hm
  split at hm
  ·rename_i cs T fz hh
   exact ⟨cs, T, fz, hh, m, hm⟩
  all_goals simp_all
 ·rcases List.mem_cons.1 hx with rfl | hx
  ·rw [MakeChecks.laidMetH_plain _ _ _ (by kernel_rfl)] at hL
   obtain ⟨ps, ⟨g0, t0, cs0, f0, p0, q0, hg0, ht0, hv0, hd0, ⟨g1, t1, cs1, f1, p1, q1, hg1, ht1, hv1, hd1, ⟨g2, t2, cs2, f2, p2, q2, hg2, ht2, hv2, hd2, _, _⟩, _⟩, _⟩, _, _⟩ := hL
   obtain rfl : g2 = 5 := Option.some.inj (hg2.symm.trans (by kernel_rfl : Tryz.prog.globalNamed "internal/strconv.uint64pow10" = some 5))
   obtain rfl : t2 = 155 := Option.some.inj (ht2.symm.trans (by kernel_rfl : (Tryz.prog.globals[5]?).map (·.type) = some 155))
   have hz : (Lib.tabData .u64 ((List.range 20).map fun i => ((10 ^ i : Nat) : Int)) : DataW Unit) = Rows.laid_internal_strconv_uint64pow10 := by kernel_rfl
   rw [← hz] at hd2
   have hcs := Lib.cells_of_tab Tryz.underlying155 Tryz.underlying135 (by kernel_rfl) (by kernel_rfl) hd2
   unfold World.var? at hv2
   rw [hg2] at hv2
   simp only [Option.bind_some] at hv2
   split at hv2
   ·rename_i cs T fz hh
    cases hv2
    refine ⟨_, T, fz, hh, ?_⟩
    rw [List.map_map] at hcs
    apply Array.toList_inj.1
    rw [hcs]
    rfl
   ·cases hv2
  ·cases hx
theorem returnsInHanded_of_change_andS {H : Type} {enc : TypeId × Value → H} {a : Assume} {C : Checked} {os : Os} {f : FuncId} {fn : Func} {s : ChangeSpec} {conds : List PathCond} {apart fresh handsOn again : Bool} {X : World → Array Value → Prop}
  (hX : ∀ (w w' : World) (args : Array Value), w.heap = w'.heap → X w args → X w' args)
  (own : ownKnob C.prog.godebug = none) (started : os.Started) (noInit : C.prog.inits.idxOf? f = none) (hfn : C.prog.funcs[f]? = some fn)
  (witness : ∃ (w : World) (tape : Tape) (i : Input), w.os = os ∧ (w.forCall tape i).Shaped C.prog ∧ i.vars = [] ∧ Input.okWide C.prog (w.forCall tape i) .any w.heap.size f i ∧
    ((s.pre enc C.prog fn conds apart (w.forCall tape i).memory i.args ∧ X (w.forCall tape i).memory i.args) ∧ sizedMet enc C.prog fn (OpenSpec.ofChange s) apart (w.forCall tape i).memory i.args) ∧ a.holds C.prog (lone (Frame.enter C.prog f i.args .normal) [] (w.forCall tape i)))
  (contract : ∀ (W : World) (base : Nat) (args : Array Value) (ds gs : List (DataW H)) (before : List MemPlace),
    (∀ (j : Nat) t v, fn.params[j]? = some t → args[j]? = some v → Value.okWide C.prog W .any base t v) →
    DataW.Whole enc C.prog fn.params.toList s.vars apart W args.toList ds gs before → X W args → W.ShapedOpen C.prog →
    Calls C.prog f args W fun e W' => ∃ v, e = .returned v ∧ s.post enc C.prog fn apart fresh handsOn again W args v W') :
  ReturnsInHanded a C os f .any (fun w args => (s.pre enc C.prog fn conds apart w args ∧ X w args) ∧ sizedMet enc C.prog fn (OpenSpec.ofChange s) apart w args) (s.post enc C.prog fn apart fresh handsOn again) := by
 refine returnsInHanded_of_calls own started noInit witness ?_
 intro w tape i _ hsh _ hok hpre hholds
 obtain ⟨_, _, _, fn', hfn', _, _, _, _, hval⟩ := hok
 have e : fn' = fn := Option.some.inj (hfn'.symm.trans hfn)
 subst e
 obtain ⟨⟨⟨ds, gs, before, hw, hc⟩, hx⟩, hz⟩ := hpre
 have hw' := DataW.Whole.of_heap (w' := w.forCall tape i) (by rfl) hw
 refine (contract (w.forCall tape i) w.heap.size i.args ds gs before hval hw' (hX _ _ _ (by rfl) hx) hsh).mono fun e W' ⟨v, he, hp⟩ => ?_
 subst he
 exact ChangeSpec.post_blind hp
/-- The door's own heap meets the condition. -/
theorem door_met (os : Os) (args : Array Value) : laidMetH Tryz.prog laidL ((World.laidAll Tryz.prog os laidL).forCall (fun _ _ => 0) ⟨#[], args, []⟩).memory := by
 rw [MakeChecks.laidMetH_plain _ _ _ (by kernel_rfl)]
 exact laidMet_laidAll _ (by kernel_rfl) (by kernel_rfl)
theorem noStand {l : List TypeId} (h : (l.all fun t => Tryz.prog.wantsStandIn t == false) = true) {j : Nat} {t : TypeId} (ht : l.toArray[j]? = some t) : Tryz.prog.wantsStandIn t = false := by
 rw [List.getElem?_toArray] at ht
 have := List.all_eq_true.1 h t (List.mem_of_getElem? ht)
 simpa using this
end Go.Proofs.YtfjnohmdilmfhaaGreatDoor
