/- The law of the newest version. Printed by a tool of our own. -/
import Derived.Test.YtjjkgeeafjagkaaGreatJLq
import Derived.Test.YtjjkgeeafjagkaaGreatJDg
namespace Go.Proofs.YtjjkgeeafjagkaaGreat
open Go Go.RowKit
set_option linter.unusedSimpArgs false
set_option linter.unusedVariables false
set_option maxHeartbeats 4000000
set_option maxRecDepth 100000
attribute [local go_sem] List.length_map rowAt_n nrow rowAt_t trow rowAt_i irow
attribute [local go_sem] rowAt_e rowAt_tm rowAt_dc rowAt_ru tmrow dcrow rurow
attribute [local go_sem] rowAt_br rowAt_s rowAt_fo rowAt_ve rowAt_g rowAt_k grow krow srow brrow forow dorow verow
theorem law5_w (l : List Ve) (t : Tok) (d : Do) : PCall Tryz.prog (.func 5) [.sl 6 (l.map verow) t, .ag (dorow d)] (.bool true) := by
  refine PCall.ok fun hok => ?_
  simp only [okAll, D.ok, okRows, and_true, true_and, lim_eq, inR_i64', inR_i32', inR_u8', inR_u16', inR_u64'] at hok
  obtain ⟨⟨hl, hr⟩, hd⟩ := hok; rw [List.length_map] at hl
  refine PCall.le ?_
  refine fn_ Tryz.func5 (by rfl) (by rfl) (rs := [.tmp 4]) (by rfl) (by simp [Tryz.f5]) ?_
  refine sq ?_
  refine rg [0, 3] [3] [] (by kernel_rfl) ?_; intro κ ξ hκ hξ
  try simp +decide only [go_sem, Nat.reduceMul, Nat.reduceAdd, Nat.reduceBEq, cond_false, beq_self_eq_true, decide_true]
  repeat with_reducible refine And.intro (by first | assumption | omega | (simp; done) | (simp; omega) | (intro hg; simp +decide only [go_sem, hg]; done) | (intro hg; simp +decide only [go_sem, hg]; omega)) ?_
  refine hκ _ _ ?_; clear hκ hξ ξ κ
  refine sq ?_
  refine rg [0, 3, 5] [] [] (by kernel_rfl) ?_; intro κ ξ hκ hξ
  try simp +decide only [go_sem, Nat.reduceMul, Nat.reduceAdd, Nat.reduceBEq, cond_false, beq_self_eq_true, decide_true]
  repeat with_reducible refine And.intro (by first | assumption | omega | (simp; done) | (simp; omega) | (intro hg; simp +decide only [go_sem, hg]; done) | (intro hg; simp +decide only [go_sem, hg]; omega)) ?_
  refine callF (head_w) ?_
  try simp +decide only [go_sem, Nat.reduceMul, Nat.reduceAdd, Nat.reduceBEq, cond_false, beq_self_eq_true, decide_true]
  repeat with_reducible refine And.intro (by first | assumption | omega | (simp; done) | (simp; omega) | (intro hg; simp +decide only [go_sem, hg]; done) | (intro hg; simp +decide only [go_sem, hg]; omega)) ?_
  refine hκ _ _ ?_; clear hκ hξ ξ κ
  refine sq ?_
  refine sq ?_
  refine rg [0, 3, 5, 29] [] [(3, 20), (8, 25)] (by kernel_rfl) ?_; intro κ ξ hκ hξ
  try simp +decide only [go_sem, Nat.reduceMul, Nat.reduceAdd, Nat.reduceBEq, cond_false, beq_self_eq_true, decide_true]
  repeat with_reducible refine And.intro (by first | assumption | omega | (simp; done) | (simp; omega) | (intro hg; simp +decide only [go_sem, hg]; done) | (intro hg; simp +decide only [go_sem, hg]; omega)) ?_
  refine callF (usab_w _ _) ?_
  try simp +decide only [go_sem, Nat.reduceMul, Nat.reduceAdd, Nat.reduceBEq, cond_false, beq_self_eq_true, decide_true]
  repeat with_reducible refine And.intro (by first | assumption | omega | (simp; done) | (simp; omega) | (intro hg; simp +decide only [go_sem, hg]; done) | (intro hg; simp +decide only [go_sem, hg]; omega)) ?_
  refine vo_gc ?_; simp +decide only [go_sem, beq_self_eq_true, decide_true]; refine gcallF (fun hg => ⟨by first | rfl | (simp +decide only [go_sem, hg, beq_self_eq_true, decide_true]; done) | exact hg | simpa using hg, fewd_w _⟩) ?_
  try simp +decide only [go_sem, Nat.reduceMul, Nat.reduceAdd, Nat.reduceBEq, cond_false, beq_self_eq_true, decide_true]
  repeat with_reducible refine And.intro (by first | assumption | omega | (simp; done) | (simp; omega) | (intro hg; simp +decide only [go_sem, hg]; done) | (intro hg; simp +decide only [go_sem, hg]; omega)) ?_
  refine vo_gc ?_; simp +decide only [go_sem, beq_self_eq_true, decide_true]; refine gcallF (fun hg => ⟨by first | rfl | (simp +decide only [go_sem, hg, beq_self_eq_true, decide_true]; done) | exact hg | simpa using hg, rcov_w _⟩) ?_
  try simp +decide only [go_sem, Nat.reduceMul, Nat.reduceAdd, Nat.reduceBEq, cond_false, beq_self_eq_true, decide_true]
  repeat with_reducible refine And.intro (by first | assumption | omega | (simp; done) | (simp; omega) | (intro hg; simp +decide only [go_sem, hg]; done) | (intro hg; simp +decide only [go_sem, hg]; omega)) ?_
  refine hκ _ _ ?_; clear hκ hξ ξ κ
  refine cd (by rfl) (fun c0 => ?_) (fun c0 => ?_)
  · simp only [go_sem] at c0
    refine sq ?_
    refine rg [4] [] [] (by kernel_rfl) ?_; intro κ ξ hκ hξ
    try simp +decide only [go_sem, Nat.reduceMul, Nat.reduceAdd, Nat.reduceBEq, cond_false, beq_self_eq_true, decide_true, c0]
    repeat with_reducible refine And.intro (by first | assumption | omega | (simp; done) | (simp; omega) | (intro hg; simp +decide only [go_sem, hg]; done) | (intro hg; simp +decide only [go_sem, hg]; omega)) ?_
    refine hκ _ _ ?_; clear hκ hξ ξ κ
    refine rt ?_
    refine retE ?_
    simp +decide only [go_sem, resD, resV, beq_self_eq_true, decide_true, c0]
    
  · simp only [go_sem] at c0
    have hv := c0.1.1.2
    have hdb := c0.2
    have hl5 := (ver_true.1 hv).1
    refine sk ?_
    refine sq ?_
    by_cases hlim : (stayL l).length = 50 ∨ 1000000 < nextN l
    · have hp : pushR l d = ([], 2) := by
        unfold pushR
        rw [if_neg (fun h => h ⟨hv, hdb⟩), if_pos hlim]
      refine rg [0, 3, 5, 6, 7] [] [] (by kernel_rfl) ?_; intro κ ξ hκ hξ
      try simp +decide only [go_sem, Nat.reduceMul, Nat.reduceAdd, Nat.reduceBEq, cond_false, beq_self_eq_true, decide_true, c0, hp, List.map_nil, List.length_nil]
      repeat with_reducible refine And.intro (by first | assumption | omega | (simp; done) | (simp; omega) | (intro hg; simp +decide only [go_sem, hg]; done) | (intro hg; simp +decide only [go_sem, hg]; omega)) ?_
      refine callF (push_w _ _ _) ?_
      try simp +decide only [go_sem, Nat.reduceMul, Nat.reduceAdd, Nat.reduceBEq, cond_false, beq_self_eq_true, decide_true, c0, hp, List.map_nil, List.length_nil]
      repeat with_reducible refine And.intro (by first | assumption | omega | (simp; done) | (simp; omega) | (intro hg; simp +decide only [go_sem, hg]; done) | (intro hg; simp +decide only [go_sem, hg]; omega)) ?_
      refine hκ _ _ ?_; clear hκ hξ ξ κ
      refine sq ?_
      refine sq ?_
      refine rg [0, 3, 5, 6, 7, 38] [] [] (by kernel_rfl) ?_; intro κ ξ hκ hξ
      try simp +decide only [go_sem, Nat.reduceMul, Nat.reduceAdd, Nat.reduceBEq, cond_false, beq_self_eq_true, decide_true, c0, hp, List.map_nil, List.length_nil]
      repeat with_reducible refine And.intro (by first | assumption | omega | (simp; done) | (simp; omega) | (intro hg; simp +decide only [go_sem, hg]; done) | (intro hg; simp +decide only [go_sem, hg]; omega)) ?_
      refine hκ _ _ ?_; clear hκ hξ ξ κ
      refine cdt (by rfl) ?_
      refine sq ?_
      refine rg [4] [] [(1, 40), (5, 44)] (by kernel_rfl) ?_; intro κ ξ hκ hξ
      try simp +decide only [go_sem, Nat.reduceMul, Nat.reduceAdd, Nat.reduceBEq, cond_false, beq_self_eq_true, decide_true, c0, hp, List.map_nil, List.length_nil]
      repeat with_reducible refine And.intro (by first | assumption | omega | (simp; done) | (simp; omega) | (intro hg; simp +decide only [go_sem, hg]; done) | (intro hg; simp +decide only [go_sem, hg]; omega)) ?_
      refine hκ _ _ ?_; clear hκ hξ ξ κ
      refine rt ?_
      refine retE ?_
      simp +decide only [go_sem, resD, resV, beq_self_eq_true, decide_true, c0, hp, List.map_nil, List.length_nil]
      
    · obtain ⟨m, hm⟩ : ∃ m, m = stayL l ++ [⟨nextN l, 0, d⟩] := ⟨_, rfl⟩
      obtain ⟨m1, hm1⟩ : ∃ m1, m1 = stayL l ++ [⟨nextN l, 1, d⟩] := ⟨_, rfl⟩
      obtain ⟨k, hk⟩ : ∃ k, k = (stayL l).length := ⟨_, rfl⟩
      have h50 : (stayL l).length ≠ 50 := fun h => hlim (.inl h)
      have hnn : ¬ 1000000 < nextN l := fun h => hlim (.inr h)
      have hp : pushR l d = (m, 0) := by
        unfold pushR
        rw [if_neg (fun h => h ⟨hv, hdb⟩), if_neg hlim, hm]
      have hsl := stay_len l
      have hml : (m.length : Int) = (k : Int) + 1 := by rw [hm, hk]; simp
      have hk1 : ¬ (k : Int) + 1 = 0 := by omega
      have hkw : IntKind.wrap .i64 ((k : Int) + 1 - 1) = (k : Int) := by rw [w64 (by omega)]; omega
      have hkm : (k : Int) < (k : Int) + 1 := by omega
      have hnum : (veat m k).num = nextN l := by rw [hm, hk, veat_last]
      have hh : holdR m = (m1, nextN l, 0) := by rw [hm, hm1]; exact push_hold hv hdb h50 hnn
      have hdd : docR m1 (nextN l) = (d, 0) := by rw [hm1]; exact push_doc hv hdb h50 hnn
      refine rg [0, 3, 5, 6, 7] [] [] (by kernel_rfl) ?_; intro κ ξ hκ hξ
      try simp +decide only [go_sem, Nat.reduceMul, Nat.reduceAdd, Nat.reduceBEq, cond_false, beq_self_eq_true, decide_true, c0, hp, hml, hk1, hkw, hkm, hnum, hh, hdd]
      repeat with_reducible refine And.intro (by first | assumption | omega | (simp; done) | (simp; omega) | (intro hg; simp +decide only [go_sem, hg]; done) | (intro hg; simp +decide only [go_sem, hg]; omega)) ?_
      refine callF (push_w _ _ _) ?_
      try simp +decide only [go_sem, Nat.reduceMul, Nat.reduceAdd, Nat.reduceBEq, cond_false, beq_self_eq_true, decide_true, c0, hp, hml, hk1, hkw, hkm, hnum, hh, hdd]
      repeat with_reducible refine And.intro (by first | assumption | omega | (simp; done) | (simp; omega) | (intro hg; simp +decide only [go_sem, hg]; done) | (intro hg; simp +decide only [go_sem, hg]; omega)) ?_
      refine hκ _ _ ?_; clear hκ hξ ξ κ
      refine sq ?_
      refine sq ?_
      refine rg [0, 3, 5, 6, 7, 38] [] [] (by kernel_rfl) ?_; intro κ ξ hκ hξ
      try simp +decide only [go_sem, Nat.reduceMul, Nat.reduceAdd, Nat.reduceBEq, cond_false, beq_self_eq_true, decide_true, c0, hp, hml, hk1, hkw, hkm, hnum, hh, hdd]
      repeat with_reducible refine And.intro (by first | assumption | omega | (simp; done) | (simp; omega) | (intro hg; simp +decide only [go_sem, hg]; done) | (intro hg; simp +decide only [go_sem, hg]; omega)) ?_
      refine hκ _ _ ?_; clear hκ hξ ξ κ
      refine cdf (by rfl) ?_
      refine sk ?_
      refine sq ?_
      refine sq ?_
      refine rg [0, 3, 5, 6, 51] [] [] (by kernel_rfl) ?_; intro κ ξ hκ hξ
      try simp +decide only [go_sem, Nat.reduceMul, Nat.reduceAdd, Nat.reduceBEq, cond_false, beq_self_eq_true, decide_true, c0, hp, hml, hk1, hkw, hkm, hnum, hh, hdd]
      repeat with_reducible refine And.intro (by first | assumption | omega | (simp; done) | (simp; omega) | (intro hg; simp +decide only [go_sem, hg]; done) | (intro hg; simp +decide only [go_sem, hg]; omega)) ?_
      refine hκ _ _ ?_; clear hκ hξ ξ κ
      refine cdf (by rfl) ?_
      refine sk ?_
      refine sq ?_
      refine rg [0, 3, 5, 6, 8] [] [] (by kernel_rfl) ?_; intro κ ξ hκ hξ
      try simp +decide only [go_sem, Nat.reduceMul, Nat.reduceAdd, Nat.reduceBEq, cond_false, beq_self_eq_true, decide_true, c0, hp, hml, hk1, hkw, hkm, hnum, hh, hdd]
      repeat with_reducible refine And.intro (by first | assumption | omega | (simp; done) | (simp; omega) | (intro hg; simp +decide only [go_sem, hg]; done) | (intro hg; simp +decide only [go_sem, hg]; omega)) ?_
      refine hκ _ _ ?_; clear hκ hξ ξ κ
      refine sq ?_
      refine rg [0, 3, 5, 8, 9, 10, 11] [] [] (by kernel_rfl) ?_; intro κ ξ hκ hξ
      try simp +decide only [go_sem, Nat.reduceMul, Nat.reduceAdd, Nat.reduceBEq, cond_false, beq_self_eq_true, decide_true, c0, hp, hml, hk1, hkw, hkm, hnum, hh, hdd]
      repeat with_reducible refine And.intro (by first | assumption | omega | (simp; done) | (simp; omega) | (intro hg; simp +decide only [go_sem, hg]; done) | (intro hg; simp +decide only [go_sem, hg]; omega)) ?_
      refine callF (hold_w _ _) ?_
      try simp +decide only [go_sem, Nat.reduceMul, Nat.reduceAdd, Nat.reduceBEq, cond_false, beq_self_eq_true, decide_true, c0, hp, hml, hk1, hkw, hkm, hnum, hh, hdd]
      repeat with_reducible refine And.intro (by first | assumption | omega | (simp; done) | (simp; omega) | (intro hg; simp +decide only [go_sem, hg]; done) | (intro hg; simp +decide only [go_sem, hg]; omega)) ?_
      refine hκ _ _ ?_; clear hκ hξ ξ κ
      refine sq ?_
      refine rgz [(12, [])] [0, 3, 5, 8, 10, 11, 12, 13] [] [] (by kernel_rfl) ?_; intro κ ξ hκ hξ
      try simp +decide only [go_sem, Nat.reduceMul, Nat.reduceAdd, Nat.reduceBEq, cond_false, beq_self_eq_true, decide_true, c0, hp, hml, hk1, hkw, hkm, hnum, hh, hdd]
      repeat with_reducible refine And.intro (by first | assumption | omega | (simp; done) | (simp; omega) | (intro hg; simp +decide only [go_sem, hg]; done) | (intro hg; simp +decide only [go_sem, hg]; omega)) ?_
      refine callF (vdoc_w _ _ _) ?_
      try simp +decide only [go_sem, Nat.reduceMul, Nat.reduceAdd, Nat.reduceBEq, cond_false, beq_self_eq_true, decide_true, c0, hp, hml, hk1, hkw, hkm, hnum, hh, hdd]
      repeat with_reducible refine And.intro (by first | assumption | omega | (simp; done) | (simp; omega) | (intro hg; simp +decide only [go_sem, hg]; done) | (intro hg; simp +decide only [go_sem, hg]; omega)) ?_
      intro b12 hb12
      try simp +decide only [go_sem, Nat.reduceMul, Nat.reduceAdd, Nat.reduceBEq, cond_false, beq_self_eq_true, decide_true, c0, hp, hml, hk1, hkw, hkm, hnum, hh, hdd, hb12]
      repeat with_reducible refine And.intro (by first | assumption | omega | (simp; done) | (simp; omega) | (intro hg; simp +decide only [go_sem, hg]; done) | (intro hg; simp +decide only [go_sem, hg]; omega)) ?_
      refine hκ _ _ ?_; clear hκ hξ ξ κ
      refine sq ?_
      refine sq ?_
      refine rg [3, 5, 8, 10, 11, 12, 13, 71, 72, 73] [] [] (by kernel_rfl) ?_; intro κ ξ hκ hξ
      try simp +decide only [go_sem, Nat.reduceMul, Nat.reduceAdd, Nat.reduceBEq, cond_false, beq_self_eq_true, decide_true, c0, hp, hml, hk1, hkw, hkm, hnum, hh, hdd, hb12]
      repeat with_reducible refine And.intro (by first | assumption | omega | (simp; done) | (simp; omega) | (intro hg; simp +decide only [go_sem, hg]; done) | (intro hg; simp +decide only [go_sem, hg]; omega)) ?_
      refine hκ _ _ ?_; clear hκ hξ ξ κ
      refine bl ?_
      refine lp (α := Nat) (fun i => mk [(3, .el [.sl 5 (d.nodes.map nrow) .no, .sl 4 (d.rules.map rurow) .no, .sl 2 (d.fonts.map forow) .no, .sl 3 (d.breaks.map brrow) .no]), (5, .bool true), (8, .int .i64 (nextN l)), (10, .int .i64 (nextN l)), (11, .int .i64 0), (12, .el [.sl 5 (d.nodes.map nrow) .no, .sl 4 (d.rules.map rurow) .no, .sl 2 (d.fonts.map forow) .no, .sl 3 (d.breaks.map brrow) .no]), (13, .int .i64 0), (71, .sl 6 (l.map verow) t), (72, .int .i64 l.length), (73, .int .i64 i)]) (fun _ => []) (fun i => i ≤ l.length) (fun i => l.length - i) 0 ⟨by omega, EnvLe.of_eq rfl, .refl _⟩ ?_
      rintro i hi
      refine sq ?_
      refine rg [3, 5, 8, 10, 11, 12, 13, 71, 72, 73, 74] [] [] (by kernel_rfl) ?_; intro κ ξ hκ hξ
      try simp +decide only [go_sem, Nat.reduceMul, Nat.reduceAdd, Nat.reduceBEq, cond_false, beq_self_eq_true, decide_true, c0, hp, hml, hk1, hkw, hkm, hnum, hh, hdd, hb12]
      repeat with_reducible refine And.intro (by first | assumption | omega | (simp; done) | (simp; omega) | (intro hg; simp +decide only [go_sem, hg]; done) | (intro hg; simp +decide only [go_sem, hg]; omega)) ?_
      refine hκ _ _ ?_; clear hκ hξ ξ κ
      refine sq ?_
      refine cd (by rfl) (fun c1 => ?_) (fun c1 => ?_)
      · simp only [go_sem] at c1
        have hgt := next_gt hv (i := i) (by omega)
        refine sk ?_
        refine sq ?_
        refine bl ?_
        refine sq ?_
        refine rgz [(15, [])] [3, 5, 8, 10, 11, 12, 13, 15, 71, 72, 73] [] [] (by kernel_rfl) ?_; intro κ ξ hκ hξ
        try simp +decide only [go_sem, Nat.reduceMul, Nat.reduceAdd, Nat.reduceBEq, cond_false, beq_self_eq_true, decide_true, c0, hp, hml, hk1, hkw, hkm, hnum, hh, hdd, hb12, c1, hgt]
        repeat with_reducible refine And.intro (by first | assumption | omega | (simp; done) | (simp; omega) | (intro hg; simp +decide only [go_sem, hg]; done) | (intro hg; simp +decide only [go_sem, hg]; omega)) ?_
        intro b15 hb15
        try simp +decide only [go_sem, Nat.reduceMul, Nat.reduceAdd, Nat.reduceBEq, cond_false, beq_self_eq_true, decide_true, c0, hp, hml, hk1, hkw, hkm, hnum, hh, hdd, hb12, c1, hgt, hb15]
        repeat with_reducible refine And.intro (by first | assumption | omega | (simp; done) | (simp; omega) | (intro hg; simp +decide only [go_sem, hg]; done) | (intro hg; simp +decide only [go_sem, hg]; omega)) ?_
        refine hκ _ _ ?_; clear hκ hξ ξ κ
        refine rg [3, 5, 8, 10, 11, 12, 13, 71, 72, 73] [] [(1, 78)] (by kernel_rfl) ?_; intro κ ξ hκ hξ
        try simp +decide only [go_sem, Nat.reduceMul, Nat.reduceAdd, Nat.reduceBEq, cond_false, beq_self_eq_true, decide_true, c0, hp, hml, hk1, hkw, hkm, hnum, hh, hdd, hb12, c1, hgt, hb15]
        repeat with_reducible refine And.intro (by first | assumption | omega | (simp; done) | (simp; omega) | (intro hg; simp +decide only [go_sem, hg]; done) | (intro hg; simp +decide only [go_sem, hg]; omega)) ?_
        refine hκ _ _ ?_; clear hκ hξ ξ κ
        refine rg [3, 5, 8, 10, 11, 12, 13, 71, 72, 73] [] [] (by kernel_rfl) ?_; intro κ ξ hκ hξ
        try simp +decide only [go_sem, Nat.reduceMul, Nat.reduceAdd, Nat.reduceBEq, cond_false, beq_self_eq_true, decide_true, c0, hp, hml, hk1, hkw, hkm, hnum, hh, hdd, hb12, c1, hgt, hb15]
        repeat with_reducible refine And.intro (by first | assumption | omega | (simp; done) | (simp; omega) | (intro hg; simp +decide only [go_sem, hg]; done) | (intro hg; simp +decide only [go_sem, hg]; omega)) ?_
        refine hκ _ _ ?_; clear hκ hξ ξ κ
        refine ⟨i + 1, ⟨by omega, by omega⟩, EnvLe.of_eq (by rw [w64 (by omega)]; rfl), List.nil_sublist _⟩
      · simp only [go_sem] at c1
        refine ex ?_
        refine sq ?_
        refine rg [4] [] [(1, 86), (5, 90), (9, 94), (14, 99)] (by kernel_rfl) ?_; intro κ ξ hκ hξ
        try simp +decide only [go_sem, Nat.reduceMul, Nat.reduceAdd, Nat.reduceBEq, cond_false, beq_self_eq_true, decide_true, c0, hp, hml, hk1, hkw, hkm, hnum, hh, hdd, hb12, c1]
        repeat with_reducible refine And.intro (by first | assumption | omega | (simp; done) | (simp; omega) | (intro hg; simp +decide only [go_sem, hg]; done) | (intro hg; simp +decide only [go_sem, hg]; omega)) ?_
        refine vo_gc ?_; simp +decide only [go_sem, beq_self_eq_true, decide_true, c0, hp, hml, hk1, hkw, hkm, hnum, hh, hdd, hb12, c1]; refine gcallF (fun hg => ⟨by first | rfl | (simp +decide only [go_sem, hg, beq_self_eq_true, decide_true, c0, hp, hml, hk1, hkw, hkm, hnum, hh, hdd, hb12, c1]; done) | exact hg | simpa using hg, samed_w _⟩) ?_
        try simp +decide only [go_sem, Nat.reduceMul, Nat.reduceAdd, Nat.reduceBEq, cond_false, beq_self_eq_true, decide_true, c0, hp, hml, hk1, hkw, hkm, hnum, hh, hdd, hb12, c1]
        repeat with_reducible refine And.intro (by first | assumption | omega | (simp; done) | (simp; omega) | (intro hg; simp +decide only [go_sem, hg]; done) | (intro hg; simp +decide only [go_sem, hg]; omega)) ?_
        refine hκ _ _ ?_; clear hκ hξ ξ κ
        refine rt ?_
        refine retE ?_
        simp +decide only [go_sem, resD, resV, beq_self_eq_true, decide_true, c0, hp, hml, hk1, hkw, hkm, hnum, hh, hdd, hb12, c1]
        

end Go.Proofs.YtjjkgeeafjagkaaGreat
