/- The walk of the laws' play. Printed by a tool of our own. -/
import Derived.Test.YtjjkgeeafjagkaaGreatWl
import Derived.Test.YtjjkgeeafjagkaaGreatJDh
namespace Go.Proofs.YtjjkgeeafjagkaaGreat
open Go Go.RowKit
set_option linter.unusedSimpArgs false
set_option linter.unusedVariables false
set_option maxHeartbeats 4000000
set_option maxRecDepth 100000
attribute [local go_sem] List.length_map rowAt_n nrow rowAt_t trow rowAt_i irow
attribute [local go_sem] rowAt_e rowAt_tm rowAt_dc rowAt_ru tmrow dcrow rurow
attribute [local go_sem] rowAt_br rowAt_s rowAt_fo rowAt_ve rowAt_g rowAt_k grow krow srow brrow forow dorow verow
theorem play_w (l : List Ve) (t : Tok) (a b : Int) : PCall Tryz.prog (.func 24) [.sl 6 (l.map verow) t, .ag [.int .u8 a, .int .u8 b]] (.tup [.sl 6 ((playR l a b).1.map verow) .no, .int .i64 (playR l a b).2.1, .int .i64 (playR l a b).2.2]) := by
  refine PCall.ok fun hok => ?_
  simp only [okAll, D.ok, okRows, and_true, true_and, lim_eq, inR_i64', inR_i32', inR_u8', inR_u16', inR_u64'] at hok
  obtain ⟨⟨hl, hr⟩, ha, hb⟩ := hok; rw [List.length_map] at hl
  have hbw : IntKind.wrap .i64 b = b := w64 (by omega)
  have hm3 := mod_three ha.1
  refine PCall.le ?_
  refine fn_ Tryz.func24 (by rfl) (by rfl) (rs := [.tmp 4, .tmp 5, .tmp 6]) (by rfl) (by simp [Tryz.f24]) ?_
  refine sq ?_
  refine rg [0, 3] [3] [] (by kernel_rfl) ?_; intro κ ξ hκ hξ
  try simp +decide only [go_sem, Nat.reduceMul, Nat.reduceAdd, Nat.reduceBEq, cond_false, hbw]
  repeat with_reducible refine And.intro (by first | assumption | omega | (simp; done) | (simp; omega) | (intro hg; simp +decide only [go_sem, hg]; done) | (intro hg; simp +decide only [go_sem, hg]; omega)) ?_
  refine hκ _ _ ?_; clear hκ hξ ξ κ
  refine sq ?_
  refine sq ?_
  refine rg [0, 3, 17] [] [] (by kernel_rfl) ?_; intro κ ξ hκ hξ
  try simp +decide only [go_sem, Nat.reduceMul, Nat.reduceAdd, Nat.reduceBEq, cond_false, hbw]
  repeat with_reducible refine And.intro (by first | assumption | omega | (simp; done) | (simp; omega) | (intro hg; simp +decide only [go_sem, hg]; done) | (intro hg; simp +decide only [go_sem, hg]; omega)) ?_
  refine hκ _ _ ?_; clear hκ hξ ξ κ
  refine bl ?_
  refine sq ?_
  refine rg [0, 3, 17, 18] [] [] (by kernel_rfl) ?_; intro κ ξ hκ hξ
  try simp +decide only [go_sem, Nat.reduceMul, Nat.reduceAdd, Nat.reduceBEq, cond_false, hbw]
  repeat with_reducible refine And.intro (by first | assumption | omega | (simp; done) | (simp; omega) | (intro hg; simp +decide only [go_sem, hg]; done) | (intro hg; simp +decide only [go_sem, hg]; omega)) ?_
  refine hκ _ _ ?_; clear hκ hξ ξ κ
  refine cd (by rfl) (fun c0 => ?_) (fun c0 => ?_)
  · try simp only [go_sem] at c0
    refine sq ?_
    refine rg [0, 7, 8] [] [] (by kernel_rfl) ?_; intro κ ξ hκ hξ
    try simp +decide only [go_sem, Nat.reduceMul, Nat.reduceAdd, Nat.reduceBEq, cond_false, hbw, c0]
    repeat with_reducible refine And.intro (by first | assumption | omega | (simp; done) | (simp; omega) | (intro hg; simp +decide only [go_sem, hg]; done) | (intro hg; simp +decide only [go_sem, hg]; omega)) ?_
    refine callF (doc_w _) ?_
    try simp +decide only [go_sem, Nat.reduceMul, Nat.reduceAdd, Nat.reduceBEq, cond_false, hbw, c0]
    repeat with_reducible refine And.intro (by first | assumption | omega | (simp; done) | (simp; omega) | (intro hg; simp +decide only [go_sem, hg]; done) | (intro hg; simp +decide only [go_sem, hg]; omega)) ?_
    refine callF (push_w _ _ _) ?_
    try simp +decide only [go_sem, Nat.reduceMul, Nat.reduceAdd, Nat.reduceBEq, cond_false, hbw, c0]
    repeat with_reducible refine And.intro (by first | assumption | omega | (simp; done) | (simp; omega) | (intro hg; simp +decide only [go_sem, hg]; done) | (intro hg; simp +decide only [go_sem, hg]; omega)) ?_
    refine hκ _ _ ?_; clear hκ hξ ξ κ
    refine sq ?_
    refine rg [0, 7, 31] [] [] (by kernel_rfl) ?_; intro κ ξ hκ hξ
    try simp +decide only [go_sem, Nat.reduceMul, Nat.reduceAdd, Nat.reduceBEq, cond_false, hbw, c0]
    repeat with_reducible refine And.intro (by first | assumption | omega | (simp; done) | (simp; omega) | (intro hg; simp +decide only [go_sem, hg]; done) | (intro hg; simp +decide only [go_sem, hg]; omega)) ?_
    refine hκ _ _ ?_; clear hκ hξ ξ κ
    refine cd (by rfl) (fun c1 => ?_) (fun c1 => ?_)
    · try simp only [go_sem] at c1
      refine sq ?_
      refine rg [4, 5, 6] [] [] (by kernel_rfl) ?_; intro κ ξ hκ hξ
      try simp +decide only [go_sem, Nat.reduceMul, Nat.reduceAdd, Nat.reduceBEq, cond_false, hbw, c0, c1]
      repeat with_reducible refine And.intro (by first | assumption | omega | (simp; done) | (simp; omega) | (intro hg; simp +decide only [go_sem, hg]; done) | (intro hg; simp +decide only [go_sem, hg]; omega)) ?_
      refine hκ _ _ ?_; clear hκ hξ ξ κ
      refine rt ?_
      refine retL ?_
      simp +decide only [go_sem, resD, resV, hbw, c0, c1]
      have e : playR l a b = ((pushR l (docC (b.tmod 101))).1, 0, 0) := by
        unfold playR
        rw [if_pos c0, if_pos c1]
      rw [e]
      exact DLe.tup ⟨DLe.refl _, DLe.refl _, DLe.refl _, trivial⟩
    · try simp only [go_sem] at c1
      refine sk ?_
      refine sq ?_
      refine rg [4, 5, 6] [] [] (by kernel_rfl) ?_; intro κ ξ hκ hξ
      try simp +decide only [go_sem, Nat.reduceMul, Nat.reduceAdd, Nat.reduceBEq, cond_false, hbw, c0, c1]
      repeat with_reducible refine And.intro (by first | assumption | omega | (simp; done) | (simp; omega) | (intro hg; simp +decide only [go_sem, hg]; done) | (intro hg; simp +decide only [go_sem, hg]; omega)) ?_
      refine hκ _ _ ?_; clear hκ hξ ξ κ
      refine rt ?_
      refine retL ?_
      simp +decide only [go_sem, resD, resV, hbw, c0, c1]
      have e : playR l a b = (l, 0, 0) := by
        unfold playR
        rw [if_pos c0, if_neg c1]
      rw [e]
      exact DLe.tup ⟨DLe.tok _ _ _, DLe.refl _, DLe.refl _, trivial⟩
  · try simp only [go_sem] at c0
    refine sq ?_
    refine rg [0, 3, 17, 33] [] [] (by kernel_rfl) ?_; intro κ ξ hκ hξ
    try simp +decide only [go_sem, Nat.reduceMul, Nat.reduceAdd, Nat.reduceBEq, cond_false, hbw, c0]
    repeat with_reducible refine And.intro (by first | assumption | omega | (simp; done) | (simp; omega) | (intro hg; simp +decide only [go_sem, hg]; done) | (intro hg; simp +decide only [go_sem, hg]; omega)) ?_
    refine hκ _ _ ?_; clear hκ hξ ξ κ
    refine cd (by rfl) (fun c2 => ?_) (fun c2 => ?_)
    · try simp only [go_sem] at c2
      refine sq ?_
      refine rg [0, 9, 10, 11] [] [] (by kernel_rfl) ?_; intro κ ξ hκ hξ
      try simp +decide only [go_sem, Nat.reduceMul, Nat.reduceAdd, Nat.reduceBEq, cond_false, hbw, c0, c2]
      repeat with_reducible refine And.intro (by first | assumption | omega | (simp; done) | (simp; omega) | (intro hg; simp +decide only [go_sem, hg]; done) | (intro hg; simp +decide only [go_sem, hg]; omega)) ?_
      refine callF (hold_w _ _) ?_
      try simp +decide only [go_sem, Nat.reduceMul, Nat.reduceAdd, Nat.reduceBEq, cond_false, hbw, c0, c2]
      repeat with_reducible refine And.intro (by first | assumption | omega | (simp; done) | (simp; omega) | (intro hg; simp +decide only [go_sem, hg]; done) | (intro hg; simp +decide only [go_sem, hg]; omega)) ?_
      refine hκ _ _ ?_; clear hκ hξ ξ κ
      refine sq ?_
      refine rg [0, 9, 10, 42] [] [] (by kernel_rfl) ?_; intro κ ξ hκ hξ
      try simp +decide only [go_sem, Nat.reduceMul, Nat.reduceAdd, Nat.reduceBEq, cond_false, hbw, c0, c2]
      repeat with_reducible refine And.intro (by first | assumption | omega | (simp; done) | (simp; omega) | (intro hg; simp +decide only [go_sem, hg]; done) | (intro hg; simp +decide only [go_sem, hg]; omega)) ?_
      refine hκ _ _ ?_; clear hκ hξ ξ κ
      refine cd (by rfl) (fun c3 => ?_) (fun c3 => ?_)
      · try simp only [go_sem] at c3
        refine sq ?_
        refine rg [4, 5, 6] [] [] (by kernel_rfl) ?_; intro κ ξ hκ hξ
        try simp +decide only [go_sem, Nat.reduceMul, Nat.reduceAdd, Nat.reduceBEq, cond_false, hbw, c0, c2, c3]
        repeat with_reducible refine And.intro (by first | assumption | omega | (simp; done) | (simp; omega) | (intro hg; simp +decide only [go_sem, hg]; done) | (intro hg; simp +decide only [go_sem, hg]; omega)) ?_
        refine hκ _ _ ?_; clear hκ hξ ξ κ
        refine rt ?_
        refine retL ?_
        simp +decide only [go_sem, resD, resV, hbw, c0, c2, c3]
        have e : playR l a b = ((holdR l).1, (holdR l).2.1, 0) := by
          unfold playR
          rw [if_neg c0, if_pos c2, if_pos c3]
        rw [e]
        exact DLe.tup ⟨DLe.refl _, DLe.refl _, DLe.refl _, trivial⟩
      · try simp only [go_sem] at c3
        refine sk ?_
        refine sq ?_
        refine rg [4, 5, 6] [] [] (by kernel_rfl) ?_; intro κ ξ hκ hξ
        try simp +decide only [go_sem, Nat.reduceMul, Nat.reduceAdd, Nat.reduceBEq, cond_false, hbw, c0, c2, c3]
        repeat with_reducible refine And.intro (by first | assumption | omega | (simp; done) | (simp; omega) | (intro hg; simp +decide only [go_sem, hg]; done) | (intro hg; simp +decide only [go_sem, hg]; omega)) ?_
        refine hκ _ _ ?_; clear hκ hξ ξ κ
        refine rt ?_
        refine retL ?_
        simp +decide only [go_sem, resD, resV, hbw, c0, c2, c3]
        have e : playR l a b = (l, 0, 0) := by
          unfold playR
          rw [if_neg c0, if_pos c2, if_neg c3]
        rw [e]
        exact DLe.tup ⟨DLe.tok _ _ _, DLe.refl _, DLe.refl _, trivial⟩
    · try simp only [go_sem] at c2
      refine sq ?_
      refine rg [0, 3, 45] [] [] (by kernel_rfl) ?_; intro κ ξ hκ hξ
      try simp +decide only [go_sem, Nat.reduceMul, Nat.reduceAdd, Nat.reduceBEq, cond_false, hbw, c0, c2]
      repeat with_reducible refine And.intro (by first | assumption | omega | (simp; done) | (simp; omega) | (intro hg; simp +decide only [go_sem, hg]; done) | (intro hg; simp +decide only [go_sem, hg]; omega)) ?_
      refine hκ _ _ ?_; clear hκ hξ ξ κ
      refine cd (by rfl) (fun c4 => ?_) (fun c4 => ?_)
      · simp only [go_sem] at c4
        refine sq ?_
        refine sq ?_
        refine rg [0, 3, 49] [] [] (by kernel_rfl) ?_; intro κ ξ hκ hξ
        try simp +decide only [go_sem, Nat.reduceMul, Nat.reduceAdd, Nat.reduceBEq, cond_false, hbw, c0, c2, c4]
        repeat with_reducible refine And.intro (by first | assumption | omega | (simp; done) | (simp; omega) | (intro hg; simp +decide only [go_sem, hg]; done) | (intro hg; simp +decide only [go_sem, hg]; omega)) ?_
        refine hκ _ _ ?_; clear hκ hξ ξ κ
        refine cd (by rfl) (fun c5 => ?_) (fun c5 => ?_)
        · simp only [go_sem] at c5
          refine sq ?_
          refine rg [4, 5, 6] [] [] (by kernel_rfl) ?_; intro κ ξ hκ hξ
          try simp +decide only [go_sem, Nat.reduceMul, Nat.reduceAdd, Nat.reduceBEq, cond_false, hbw, c0, c2, c4, c5]
          repeat with_reducible refine And.intro (by first | assumption | omega | (simp; done) | (simp; omega) | (intro hg; simp +decide only [go_sem, hg]; done) | (intro hg; simp +decide only [go_sem, hg]; omega)) ?_
          refine hκ _ _ ?_; clear hκ hξ ξ κ
          refine rt ?_
          refine retL ?_
          simp +decide only [go_sem, resD, resV, hbw, c0, c2, c4, c5]
          have e : playR l a b = (l, 0, 0) := by
            unfold playR
            rw [if_neg c0, if_neg c2, if_pos (by omega)]
          rw [e]
          exact DLe.tup ⟨DLe.tok _ _ _, DLe.refl _, DLe.refl _, trivial⟩
        · simp only [go_sem] at c5
          have hln : l.length ≠ 0 := by omega
          obtain ⟨k, hk, hkl⟩ := mod_ix hb.1 hln
          have hk1 : (k : Int) < l.length := by omega
          refine sk ?_
          refine sq ?_
          refine rg [0, 12] [] [] (by kernel_rfl) ?_; intro κ ξ hκ hξ
          try simp +decide only [go_sem, Nat.reduceMul, Nat.reduceAdd, Nat.reduceBEq, cond_false, hbw, c0, c2, c4, c5, hk, hk1]
          repeat with_reducible refine And.intro (by first | assumption | omega | (simp; done) | (simp; omega) | (intro hg; simp +decide only [go_sem, hg]; done) | (intro hg; simp +decide only [go_sem, hg]; omega)) ?_
          refine hκ _ _ ?_; clear hκ hξ ξ κ
          refine sq ?_
          refine rg [0, 12, 13, 14] [] [] (by kernel_rfl) ?_; intro κ ξ hκ hξ
          try simp +decide only [go_sem, Nat.reduceMul, Nat.reduceAdd, Nat.reduceBEq, cond_false, hbw, c0, c2, c4, c5, hk, hk1]
          repeat with_reducible refine And.intro (by first | assumption | omega | (simp; done) | (simp; omega) | (intro hg; simp +decide only [go_sem, hg]; done) | (intro hg; simp +decide only [go_sem, hg]; omega)) ?_
          refine callF (let_w _ _ _) ?_
          try simp +decide only [go_sem, Nat.reduceMul, Nat.reduceAdd, Nat.reduceBEq, cond_false, hbw, c0, c2, c4, c5, hk, hk1]
          repeat with_reducible refine And.intro (by first | assumption | omega | (simp; done) | (simp; omega) | (intro hg; simp +decide only [go_sem, hg]; done) | (intro hg; simp +decide only [go_sem, hg]; omega)) ?_
          refine hκ _ _ ?_; clear hκ hξ ξ κ
          refine sq ?_
          refine rg [0, 12, 13, 68] [] [] (by kernel_rfl) ?_; intro κ ξ hκ hξ
          try simp +decide only [go_sem, Nat.reduceMul, Nat.reduceAdd, Nat.reduceBEq, cond_false, hbw, c0, c2, c4, c5, hk, hk1]
          repeat with_reducible refine And.intro (by first | assumption | omega | (simp; done) | (simp; omega) | (intro hg; simp +decide only [go_sem, hg]; done) | (intro hg; simp +decide only [go_sem, hg]; omega)) ?_
          refine hκ _ _ ?_; clear hκ hξ ξ κ
          refine cd (by rfl) (fun c6 => ?_) (fun c6 => ?_)
          · try simp only [go_sem] at c6
            refine sq ?_
            refine rg [4, 5, 6] [] [] (by kernel_rfl) ?_; intro κ ξ hκ hξ
            try simp +decide only [go_sem, Nat.reduceMul, Nat.reduceAdd, Nat.reduceBEq, cond_false, hbw, c0, c2, c4, c5, hk, hk1, c6]
            repeat with_reducible refine And.intro (by first | assumption | omega | (simp; done) | (simp; omega) | (intro hg; simp +decide only [go_sem, hg]; done) | (intro hg; simp +decide only [go_sem, hg]; omega)) ?_
            refine hκ _ _ ?_; clear hκ hξ ξ κ
            refine rt ?_
            refine retL ?_
            simp +decide only [go_sem, resD, resV, hbw, c0, c2, c4, c5, hk, hk1, c6]
            have e : playR l a b = ((letR l (veat l k).num).1, 0, (veat l k).num) := by
              unfold playR
              rw [if_neg c0, if_neg c2, if_neg hln, hk, Int.toNat_natCast, if_pos c6]
            rw [e]
            exact DLe.tup ⟨DLe.refl _, DLe.refl _, DLe.refl _, trivial⟩
          · try simp only [go_sem] at c6
            refine sk ?_
            refine sq ?_
            refine rg [4, 5, 6] [] [] (by kernel_rfl) ?_; intro κ ξ hκ hξ
            try simp +decide only [go_sem, Nat.reduceMul, Nat.reduceAdd, Nat.reduceBEq, cond_false, hbw, c0, c2, c4, c5, hk, hk1, c6]
            repeat with_reducible refine And.intro (by first | assumption | omega | (simp; done) | (simp; omega) | (intro hg; simp +decide only [go_sem, hg]; done) | (intro hg; simp +decide only [go_sem, hg]; omega)) ?_
            refine hκ _ _ ?_; clear hκ hξ ξ κ
            refine rt ?_
            refine retL ?_
            simp +decide only [go_sem, resD, resV, hbw, c0, c2, c4, c5, hk, hk1, c6]
            have e : playR l a b = (l, 0, 0) := by
              unfold playR
              rw [if_neg c0, if_neg c2, if_neg hln, hk, Int.toNat_natCast, if_neg c6]
            rw [e]
            exact DLe.tup ⟨DLe.tok _ _ _, DLe.refl _, DLe.refl _, trivial⟩
      · simp only [go_sem] at c4
        omega

end Go.Proofs.YtjjkgeeafjagkaaGreat
