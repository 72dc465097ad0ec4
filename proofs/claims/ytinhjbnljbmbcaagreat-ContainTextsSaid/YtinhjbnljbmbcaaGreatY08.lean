/- The walks of value's small functions. Printed by a tool of our own. -/
import Derived.Test.YtinhjbnljbmbcaaGreatY06
import Derived.Test.YtinhjbnljbmbcaaGreatY05
import Derived.Test.YtinhjbnljbmbcaaGreatY07
import Derived.Test.YtinhjbnljbmbcaaGreatY03
import Derived.RecoverIn
import Derived.Test.YtinhjbnljbmbcaaGreatProg
import Derived.Tactics
import Derived.Tactics2
import Derived.TacticsInMore
import Derived.RegionIn
import Derived.Laws.Pointers
namespace Go.Proofs.YtinhjbnljbmbcaaGreat
open Go Go.RowKit
set_option linter.unusedSimpArgs false
set_option linter.unusedVariables false
set_option maxHeartbeats 4000000
set_option maxRecDepth 100000
theorem rw2_0 (x y : List D) : rowAt [x, y] 0 = x := rfl
theorem rw2_1 (x y : List D) : rowAt [x, y] 1 = y := rfl
theorem rw1_0 (x : List D) : rowAt [x] 0 = x := rfl
def iD (n : Int) : D := .int .i64 n
theorem iD_all (l : List Int) : (l.map iD).all D.isCell = true := by
 rw [List.all_map]
 exact List.all_eq_true.2 fun _ _ => rfl
theorem iD_len (l : List Int) : (l.map iD).length = l.length := List.length_map ..
theorem tdiv_bd {n d : Int} (hd : 0 < d) : (0 ≤ n → 0 ≤ n.tdiv d ∧ n.tdiv d ≤ n) ∧ (n ≤ 0 → n ≤ n.tdiv d ∧ n.tdiv d ≤ 0) := by
 have key : ∀ m : Int, 0 ≤ m → 0 ≤ m.tdiv d ∧ m.tdiv d ≤ m := fun m hm => ⟨Int.tdiv_nonneg hm (by omega), Int.tdiv_le_self _ hm⟩
 refine ⟨key n, fun hn => ?_⟩
 have h := key (-n) (by omega)
 rw [Int.neg_tdiv] at h
 omega
theorem fdiv_ge {n d : Int} (hd : 0 < d) (hn : n < 0) : n ≤ n / d ∧ n / d < 0 := by
 have h1 := Int.ediv_lt_of_lt_mul hd (show n < 0 * d by omega)
 have h2 := Int.le_ediv_of_mul_le hd (show n * d ≤ n by
   have := Int.mul_le_mul_of_nonpos_left (show n ≤ 0 by omega) (show (1 : Int) ≤ d by omega)
   simpa using this)
 omega
attribute [local go_sem] List.length_map rowAt_n nrow rowAt_t trow rowAt_i irow
attribute [local go_sem] rowAt_e rowAt_tm rowAt_dc rowAt_ru tmrow dcrow rurow
attribute [local go_sem] iD_all iD_len rw2_0 rw2_1 rw1_0 Int.toNat_one
theorem vwi_w (n lo hi : Int) : PCall Tryz.prog (.func 92) [.int .i64 n, .int .i64 lo, .int .i64 hi] (.bool (decide (lo ≤ n ∧ n ≤ hi))) := by
 refine PCall.le ?_
 refine fn_ Tryz.func92 (by rfl) (by rfl) (rs := [.tmp 6]) (by rfl) (by simp [Tryz.f92]) ?_
 refine sr_ [0, 1, 2] [] [] fun κ ξ hκ hξ => ?_
 try simp +decide only [go_sem]
 repeat with_reducible refine an_ ?_
 refine hκ _ _ ?_; clear hκ hξ ξ κ
 refine sr_ [6] [] [(3, 10)] fun κ ξ hκ hξ => ?_
 try simp +decide only [go_sem]
 repeat with_reducible refine an_ ?_
 refine hκ _ _ ?_; clear hκ hξ ξ κ
 refine rt ?_
 refine retE ?_
 simp +decide only [go_sem, resD, resV]
 all_goals congr 1
 all_goals rw [Bool.eq_iff_iff]
 all_goals simp []
 all_goals omega
theorem cwi_w (n lo hi : Int) : PCall Tryz.prog (.func 53) [.int .i64 n, .int .i64 lo, .int .i64 hi] (.bool (decide (lo ≤ n ∧ n ≤ hi))) := by
 refine PCall.le ?_
 refine fn_ Tryz.func53 (by rfl) (by rfl) (rs := [.tmp 6]) (by rfl) (by simp [Tryz.f53]) ?_
 refine sr_ [0, 1, 2] [] [] fun κ ξ hκ hξ => ?_
 try simp +decide only [go_sem]
 repeat with_reducible refine an_ ?_
 refine hκ _ _ ?_; clear hκ hξ ξ κ
 refine sr_ [6] [] [(3, 10)] fun κ ξ hκ hξ => ?_
 try simp +decide only [go_sem]
 repeat with_reducible refine an_ ?_
 refine hκ _ _ ?_; clear hκ hξ ξ κ
 refine rt ?_
 refine retE ?_
 simp +decide only [go_sem, resD, resV]
 all_goals congr 1
 all_goals rw [Bool.eq_iff_iff]
 all_goals simp []
 all_goals omega
theorem vov_w (n d : Int) (hd : 0 < d) : PCall Tryz.prog (.func 187) [.int .i64 n, .int .i64 d] (.int .i64 (n / d)) := by
 refine PCall.ok fun hok => ?_
 simp only [okAll, D.ok, okRows, and_true, true_and, lim_eq, inR_i64', inR_i32', inR_u8', inR_u16', inR_u64'] at hok
 obtain ⟨hn, hd2⟩ := hok
 have hd0 : ¬ d = 0 := by omega
 have hbd := tdiv_bd (n := n) hd
 have hfl := flo (n := n) hd
 have hqw : IntKind.wrap .i64 (n.tdiv d) = n.tdiv d := w64 (by omega)
 refine PCall.le ?_
 refine fn_ Tryz.func187 (by rfl) (by rfl) (rs := [.tmp 4]) (by rfl) (by simp [Tryz.f187]) ?_
 refine sr_ [0, 1] [] [] fun κ ξ hκ hξ => ?_
 try simp +decide only [go_sem, hqw]
 repeat with_reducible refine an_ ?_
 refine hκ _ _ ?_; clear hκ hξ ξ κ
 refine sr_ [0, 1, 5] [] [] fun κ ξ hκ hξ => ?_
 try simp +decide only [go_sem, hqw]
 repeat with_reducible refine an_ ?_
 refine hκ _ _ ?_; clear hκ hξ ξ κ
 refine sq ?_
 refine sr_ [5, 12] [] [] fun κ ξ hκ hξ => ?_
 try simp +decide only [go_sem, hqw]
 repeat with_reducible refine an_ ?_
 refine hκ _ _ ?_; clear hκ hξ ξ κ
 refine cd_ (fun c0 => ?_) (fun c0 => ?_)
 ·simp only [go_sem] at c0
  rw [if_pos c0] at hfl
  have hn0 : n < 0 := by
   rcases Int.lt_or_le n 0 with h | h
   ·exact h
   ·have := Int.tmod_nonneg d h; omega
  have hfg := fdiv_ge hd hn0
  have hrw : IntKind.wrap .i64 (n.tdiv d - 1) = n / d := by rw [hfl, w64 (by omega)]
  refine rr_ [5] [] [] fun κ ξ hκ hξ => ?_
  try simp +decide only [go_sem, hqw, c0, hrw]
  repeat with_reducible refine an_ ?_
  refine hκ _ _ ?_; clear hκ hξ ξ κ
  refine sr_ [4] [] [] fun κ ξ hκ hξ => ?_
  try simp +decide only [go_sem, hqw, c0, hrw]
  repeat with_reducible refine an_ ?_
  refine hκ _ _ ?_; clear hκ hξ ξ κ
  refine rt ?_
  refine retE ?_
  simp +decide only [go_sem, resD, resV, hqw, c0, hrw]
  
 ·simp only [go_sem] at c0
  rw [if_neg c0] at hfl
  refine sk ?_
  refine sr_ [4] [] [] fun κ ξ hκ hξ => ?_
  try simp +decide only [go_sem, hqw, c0, hfl]
  repeat with_reducible refine an_ ?_
  refine hκ _ _ ?_; clear hκ hξ ξ κ
  refine rt ?_
  refine retE ?_
  simp +decide only [go_sem, resD, resV, hqw, c0, hfl]
  
theorem shp_w (o : Int) : PCall Tryz.prog (.func 185) [.int .i64 o] (.tup [.ag [.int .i64 (sofT o).2.1, .int .i64 (sofT o).2.2, .int .i64 (sofT o).1], .bool (sofB o)]) := by
 refine PCall.le ?_
 refine fn_ Tryz.func185 (by rfl) (by rfl) (rs := [.cell 2 233, .tmp 3]) (by rfl) (by simp [Tryz.f185]) ?_
 refine sr_ [0, 2] [] [] fun κ ξ hκ hξ => ?_
 try simp +decide only [go_sem]
 repeat with_reducible refine an_ ?_
 intro b2 hb2
 try simp +decide only [go_sem, hb2]
 repeat with_reducible refine an_ ?_
 refine hκ _ _ ?_; clear hκ hξ ξ κ
 refine sq ?_
 refine sr_ [2, 4] [] [] fun κ ξ hκ hξ => ?_
 try simp +decide only [go_sem, hb2]
 repeat with_reducible refine an_ ?_
 refine hκ _ _ ?_; clear hκ hξ ξ κ
 refine bl ?_
 refine sr_ [2, 4, 5] [] [] fun κ ξ hκ hξ => ?_
 try simp +decide only [go_sem, hb2]
 repeat with_reducible refine an_ ?_
 refine hκ _ _ ?_; clear hκ hξ ξ κ
 refine cd_ (fun c0 => ?_) (fun c0 => ?_)
 ·try simp only [go_sem] at c0
  refine sr_ [2, 3] [] [] fun κ ξ hκ hξ => ?_
  try simp +decide only [go_sem, hb2, c0]
  repeat with_reducible refine an_ ?_
  refine hκ _ _ ?_; clear hκ hξ ξ κ
  refine rt ?_
  refine retE ?_
  simp +decide only [go_sem, resD, resV, hb2, c0]
  all_goals first
  | (exfalso; omega)
  | (have ho : o = 1 := by assumption
     subst ho; rfl)
  | (have ho : o = 2 := by assumption
     subst ho; rfl)
  | (have ho : o = 3 := by assumption
     subst ho; rfl)
  | (have ho : o = 4 := by assumption
     subst ho; rfl)
  | (have ho : o = 7 := by assumption
     subst ho; rfl)
  | (have ho : o = 8 := by assumption
     subst ho; rfl)
  | (have ho : o = 5 := by assumption
     subst ho; rfl)
  | (have ho : o = 6 := by assumption
     subst ho; rfl)
  | (have ho : o = 9 := by assumption
     subst ho; rfl)
  | (have ho : o = 10 := by assumption
     subst ho; rfl)
  | (have hs : sof o = none := by
       unfold sof
       simp [srt, *]
     simp [sofT, sofB, hs])
 ·try simp only [go_sem] at c0
  refine sq ?_
  refine sr_ [2, 4, 8] [] [] fun κ ξ hκ hξ => ?_
  try simp +decide only [go_sem, hb2, c0]
  repeat with_reducible refine an_ ?_
  refine hκ _ _ ?_; clear hκ hξ ξ κ
  refine cd_ (fun c1 => ?_) (fun c1 => ?_)
  ·try simp only [go_sem] at c1
   refine sk ?_
   refine cd_ (fun c2 => ?_) (fun c2 => ?_)
   ·simp only [go_sem] at c2
    refine sr_ [2, 3] [] [] fun κ ξ hκ hξ => ?_
    try simp +decide only [go_sem, hb2, c0, c1, c2]
    repeat with_reducible refine an_ ?_
    refine hκ _ _ ?_; clear hκ hξ ξ κ
    refine rt ?_
    refine retE ?_
    simp +decide only [go_sem, resD, resV, hb2, c0, c1, c2]
    all_goals first
    | (exfalso; omega)
    | (have ho : o = 1 := by assumption
       subst ho; rfl)
    | (have ho : o = 2 := by assumption
       subst ho; rfl)
    | (have ho : o = 3 := by assumption
       subst ho; rfl)
    | (have ho : o = 4 := by assumption
       subst ho; rfl)
    | (have ho : o = 7 := by assumption
       subst ho; rfl)
    | (have ho : o = 8 := by assumption
       subst ho; rfl)
    | (have ho : o = 5 := by assumption
       subst ho; rfl)
    | (have ho : o = 6 := by assumption
       subst ho; rfl)
    | (have ho : o = 9 := by assumption
       subst ho; rfl)
    | (have ho : o = 10 := by assumption
       subst ho; rfl)
    | (have hs : sof o = none := by
         unfold sof
         simp [srt, *]
       simp [sofT, sofB, hs])
   ·exfalso
    revert c2
    simp [c1]
  ·try simp only [go_sem] at c1
   refine rr_ [2, 4, 8] [] [] fun κ ξ hκ hξ => ?_
   try simp +decide only [go_sem, hb2, c0, c1]
   repeat with_reducible refine an_ ?_
   refine hκ _ _ ?_; clear hκ hξ ξ κ
   refine cd_ (fun c3 => ?_) (fun c3 => ?_)
   ·try simp only [go_sem] at c3
    refine sr_ [2, 3] [] [] fun κ ξ hκ hξ => ?_
    try simp +decide only [go_sem, hb2, c0, c1, c3]
    repeat with_reducible refine an_ ?_
    refine hκ _ _ ?_; clear hκ hξ ξ κ
    refine rt ?_
    refine retE ?_
    simp +decide only [go_sem, resD, resV, hb2, c0, c1, c3]
    all_goals first
    | (exfalso; omega)
    | (have ho : o = 1 := by assumption
       subst ho; rfl)
    | (have ho : o = 2 := by assumption
       subst ho; rfl)
    | (have ho : o = 3 := by assumption
       subst ho; rfl)
    | (have ho : o = 4 := by assumption
       subst ho; rfl)
    | (have ho : o = 7 := by assumption
       subst ho; rfl)
    | (have ho : o = 8 := by assumption
       subst ho; rfl)
    | (have ho : o = 5 := by assumption
       subst ho; rfl)
    | (have ho : o = 6 := by assumption
       subst ho; rfl)
    | (have ho : o = 9 := by assumption
       subst ho; rfl)
    | (have ho : o = 10 := by assumption
       subst ho; rfl)
    | (have hs : sof o = none := by
         unfold sof
         simp [srt, *]
       simp [sofT, sofB, hs])
   ·try simp only [go_sem] at c3
    refine sr_ [2, 4, 12] [] [] fun κ ξ hκ hξ => ?_
    try simp +decide only [go_sem, hb2, c0, c1, c3]
    repeat with_reducible refine an_ ?_
    refine hκ _ _ ?_; clear hκ hξ ξ κ
    refine cd_ (fun c4 => ?_) (fun c4 => ?_)
    ·try simp only [go_sem] at c4
     refine sr_ [2, 3] [] [] fun κ ξ hκ hξ => ?_
     try simp +decide only [go_sem, hb2, c0, c1, c3, c4]
     repeat with_reducible refine an_ ?_
     refine hκ _ _ ?_; clear hκ hξ ξ κ
     refine rt ?_
     refine retE ?_
     simp +decide only [go_sem, resD, resV, hb2, c0, c1, c3, c4]
     all_goals first
     | (exfalso; omega)
     | (have ho : o = 1 := by assumption
        subst ho; rfl)
     | (have ho : o = 2 := by assumption
        subst ho; rfl)
     | (have ho : o = 3 := by assumption
        subst ho; rfl)
     | (have ho : o = 4 := by assumption
        subst ho; rfl)
     | (have ho : o = 7 := by assumption
        subst ho; rfl)
     | (have ho : o = 8 := by assumption
        subst ho; rfl)
     | (have ho : o = 5 := by assumption
        subst ho; rfl)
     | (have ho : o = 6 := by assumption
        subst ho; rfl)
     | (have ho : o = 9 := by assumption
        subst ho; rfl)
     | (have ho : o = 10 := by assumption
        subst ho; rfl)
     | (have hs : sof o = none := by
          unfold sof
          simp [srt, *]
        simp [sofT, sofB, hs])
    ·try simp only [go_sem] at c4
     refine sr_ [2, 4, 15] [] [] fun κ ξ hκ hξ => ?_
     try simp +decide only [go_sem, hb2, c0, c1, c3, c4]
     repeat with_reducible refine an_ ?_
     refine hκ _ _ ?_; clear hκ hξ ξ κ
     refine cd_ (fun c5 => ?_) (fun c5 => ?_)
     ·try simp only [go_sem] at c5
      refine sr_ [2, 3] [] [] fun κ ξ hκ hξ => ?_
      try simp +decide only [go_sem, hb2, c0, c1, c3, c4, c5]
      repeat with_reducible refine an_ ?_
      refine hκ _ _ ?_; clear hκ hξ ξ κ
      refine rt ?_
      refine retE ?_
      simp +decide only [go_sem, resD, resV, hb2, c0, c1, c3, c4, c5]
      all_goals first
      | (exfalso; omega)
      | (have ho : o = 1 := by assumption
         subst ho; rfl)
      | (have ho : o = 2 := by assumption
         subst ho; rfl)
      | (have ho : o = 3 := by assumption
         subst ho; rfl)
      | (have ho : o = 4 := by assumption
         subst ho; rfl)
      | (have ho : o = 7 := by assumption
         subst ho; rfl)
      | (have ho : o = 8 := by assumption
         subst ho; rfl)
      | (have ho : o = 5 := by assumption
         subst ho; rfl)
      | (have ho : o = 6 := by assumption
         subst ho; rfl)
      | (have ho : o = 9 := by assumption
         subst ho; rfl)
      | (have ho : o = 10 := by assumption
         subst ho; rfl)
      | (have hs : sof o = none := by
           unfold sof
           simp [srt, *]
         simp [sofT, sofB, hs])
     ·try simp only [go_sem] at c5
      refine sr_ [2, 4, 18] [] [] fun κ ξ hκ hξ => ?_
      try simp +decide only [go_sem, hb2, c0, c1, c3, c4, c5]
      repeat with_reducible refine an_ ?_
      refine hκ _ _ ?_; clear hκ hξ ξ κ
      refine cd_ (fun c6 => ?_) (fun c6 => ?_)
      ·try simp only [go_sem] at c6
       refine sr_ [2, 3] [] [] fun κ ξ hκ hξ => ?_
       try simp +decide only [go_sem, hb2, c0, c1, c3, c4, c5, c6]
       repeat with_reducible refine an_ ?_
       refine hκ _ _ ?_; clear hκ hξ ξ κ
       refine rt ?_
       refine retE ?_
       simp +decide only [go_sem, resD, resV, hb2, c0, c1, c3, c4, c5, c6]
       all_goals first
       | (exfalso; omega)
       | (have ho : o = 1 := by assumption
          subst ho; rfl)
       | (have ho : o = 2 := by assumption
          subst ho; rfl)
       | (have ho : o = 3 := by assumption
          subst ho; rfl)
       | (have ho : o = 4 := by assumption
          subst ho; rfl)
       | (have ho : o = 7 := by assumption
          subst ho; rfl)
       | (have ho : o = 8 := by assumption
          subst ho; rfl)
       | (have ho : o = 5 := by assumption
          subst ho; rfl)
       | (have ho : o = 6 := by assumption
          subst ho; rfl)
       | (have ho : o = 9 := by assumption
          subst ho; rfl)
       | (have ho : o = 10 := by assumption
          subst ho; rfl)
       | (have hs : sof o = none := by
            unfold sof
            simp [srt, *]
          simp [sofT, sofB, hs])
      ·try simp only [go_sem] at c6
       refine sq ?_
       refine sr_ [2, 4, 21] [] [] fun κ ξ hκ hξ => ?_
       try simp +decide only [go_sem, hb2, c0, c1, c3, c4, c5, c6]
       repeat with_reducible refine an_ ?_
       refine hκ _ _ ?_; clear hκ hξ ξ κ
       refine cd_ (fun c7 => ?_) (fun c7 => ?_)
       ·try simp only [go_sem] at c7
        refine sk ?_
        refine cd_ (fun c8 => ?_) (fun c8 => ?_)
        ·simp only [go_sem] at c8
         refine sr_ [2, 3] [] [] fun κ ξ hκ hξ => ?_
         try simp +decide only [go_sem, hb2, c0, c1, c3, c4, c5, c6, c7, c8]
         repeat with_reducible refine an_ ?_
         refine hκ _ _ ?_; clear hκ hξ ξ κ
         refine rt ?_
         refine retE ?_
         simp +decide only [go_sem, resD, resV, hb2, c0, c1, c3, c4, c5, c6, c7, c8]
         all_goals first
         | (exfalso; omega)
         | (have ho : o = 1 := by assumption
            subst ho; rfl)
         | (have ho : o = 2 := by assumption
            subst ho; rfl)
         | (have ho : o = 3 := by assumption
            subst ho; rfl)
         | (have ho : o = 4 := by assumption
            subst ho; rfl)
         | (have ho : o = 7 := by assumption
            subst ho; rfl)
         | (have ho : o = 8 := by assumption
            subst ho; rfl)
         | (have ho : o = 5 := by assumption
            subst ho; rfl)
         | (have ho : o = 6 := by assumption
            subst ho; rfl)
         | (have ho : o = 9 := by assumption
            subst ho; rfl)
         | (have ho : o = 10 := by assumption
            subst ho; rfl)
         | (have hs : sof o = none := by
              unfold sof
              simp [srt, *]
            simp [sofT, sofB, hs])
        ·exfalso
         revert c8
         simp [c7]
       ·try simp only [go_sem] at c7
        refine sr_ [2, 4, 21] [] [] fun κ ξ hκ hξ => ?_
        try simp +decide only [go_sem, hb2, c0, c1, c3, c4, c5, c6, c7]
        repeat with_reducible refine an_ ?_
        refine hκ _ _ ?_; clear hκ hξ ξ κ
        refine cd_ (fun c9 => ?_) (fun c9 => ?_)
        ·try simp only [go_sem] at c9
         refine sk ?_
         refine cd_ (fun c10 => ?_) (fun c10 => ?_)
         ·simp only [go_sem] at c10
          refine sr_ [2, 3] [] [] fun κ ξ hκ hξ => ?_
          try simp +decide only [go_sem, hb2, c0, c1, c3, c4, c5, c6, c7, c9, c10]
          repeat with_reducible refine an_ ?_
          refine hκ _ _ ?_; clear hκ hξ ξ κ
          refine rt ?_
          refine retE ?_
          simp +decide only [go_sem, resD, resV, hb2, c0, c1, c3, c4, c5, c6, c7, c9, c10]
          all_goals first
          | (exfalso; omega)
          | (have ho : o = 1 := by assumption
             subst ho; rfl)
          | (have ho : o = 2 := by assumption
             subst ho; rfl)
          | (have ho : o = 3 := by assumption
             subst ho; rfl)
          | (have ho : o = 4 := by assumption
             subst ho; rfl)
          | (have ho : o = 7 := by assumption
             subst ho; rfl)
          | (have ho : o = 8 := by assumption
             subst ho; rfl)
          | (have ho : o = 5 := by assumption
             subst ho; rfl)
          | (have ho : o = 6 := by assumption
             subst ho; rfl)
          | (have ho : o = 9 := by assumption
             subst ho; rfl)
          | (have ho : o = 10 := by assumption
             subst ho; rfl)
          | (have hs : sof o = none := by
               unfold sof
               simp [srt, *]
             simp [sofT, sofB, hs])
         ·exfalso
          revert c10
          simp [c9]
        ·try simp only [go_sem] at c9
         refine sr_ [2, 4, 21] [] [] fun κ ξ hκ hξ => ?_
         try simp +decide only [go_sem, hb2, c0, c1, c3, c4, c5, c6, c7, c9]
         repeat with_reducible refine an_ ?_
         refine hκ _ _ ?_; clear hκ hξ ξ κ
         refine cd_ (fun c11 => ?_) (fun c11 => ?_)
         ·try simp only [go_sem] at c11
          refine sk ?_
          refine cd_ (fun c12 => ?_) (fun c12 => ?_)
          ·simp only [go_sem] at c12
           refine sr_ [2, 3] [] [] fun κ ξ hκ hξ => ?_
           try simp +decide only [go_sem, hb2, c0, c1, c3, c4, c5, c6, c7, c9, c11, c12]
           repeat with_reducible refine an_ ?_
           refine hκ _ _ ?_; clear hκ hξ ξ κ
           refine rt ?_
           refine retE ?_
           simp +decide only [go_sem, resD, resV, hb2, c0, c1, c3, c4, c5, c6, c7, c9, c11, c12]
           all_goals first
           | (exfalso; omega)
           | (have ho : o = 1 := by assumption
              subst ho; rfl)
           | (have ho : o = 2 := by assumption
              subst ho; rfl)
           | (have ho : o = 3 := by assumption
              subst ho; rfl)
           | (have ho : o = 4 := by assumption
              subst ho; rfl)
           | (have ho : o = 7 := by assumption
              subst ho; rfl)
           | (have ho : o = 8 := by assumption
              subst ho; rfl)
           | (have ho : o = 5 := by assumption
              subst ho; rfl)
           | (have ho : o = 6 := by assumption
              subst ho; rfl)
           | (have ho : o = 9 := by assumption
              subst ho; rfl)
           | (have ho : o = 10 := by assumption
              subst ho; rfl)
           | (have hs : sof o = none := by
                unfold sof
                simp [srt, *]
              simp [sofT, sofB, hs])
          ·exfalso
           revert c12
           simp [c11]
         ·try simp only [go_sem] at c11
          refine rr_ [2, 21] [] [] fun κ ξ hκ hξ => ?_
          try simp +decide only [go_sem, hb2, c0, c1, c3, c4, c5, c6, c7, c9, c11]
          repeat with_reducible refine an_ ?_
          refine hκ _ _ ?_; clear hκ hξ ξ κ
          refine cd_ (fun c13 => ?_) (fun c13 => ?_)
          ·try simp only [go_sem] at c13
           refine sr_ [2, 3] [] [] fun κ ξ hκ hξ => ?_
           try simp +decide only [go_sem, hb2, c0, c1, c3, c4, c5, c6, c7, c9, c11, c13]
           repeat with_reducible refine an_ ?_
           refine hκ _ _ ?_; clear hκ hξ ξ κ
           refine rt ?_
           refine retE ?_
           simp +decide only [go_sem, resD, resV, hb2, c0, c1, c3, c4, c5, c6, c7, c9, c11, c13]
           all_goals first
           | (exfalso; omega)
           | (have ho : o = 1 := by assumption
              subst ho; rfl)
           | (have ho : o = 2 := by assumption
              subst ho; rfl)
           | (have ho : o = 3 := by assumption
              subst ho; rfl)
           | (have ho : o = 4 := by assumption
              subst ho; rfl)
           | (have ho : o = 7 := by assumption
              subst ho; rfl)
           | (have ho : o = 8 := by assumption
              subst ho; rfl)
           | (have ho : o = 5 := by assumption
              subst ho; rfl)
           | (have ho : o = 6 := by assumption
              subst ho; rfl)
           | (have ho : o = 9 := by assumption
              subst ho; rfl)
           | (have ho : o = 10 := by assumption
              subst ho; rfl)
           | (have hs : sof o = none := by
                unfold sof
                simp [srt, *]
              simp [sofT, sofB, hs])
          ·try simp only [go_sem] at c13
           refine sk ?_
           refine sr_ [2, 3] [] [] fun κ ξ hκ hξ => ?_
           try simp +decide only [go_sem, hb2, c0, c1, c3, c4, c5, c6, c7, c9, c11, c13]
           repeat with_reducible refine an_ ?_
           refine hκ _ _ ?_; clear hκ hξ ξ κ
           refine rt ?_
           refine retE ?_
           simp +decide only [go_sem, resD, resV, hb2, c0, c1, c3, c4, c5, c6, c7, c9, c11, c13]
           all_goals first
           | (exfalso; omega)
           | (have ho : o = 1 := by assumption
              subst ho; rfl)
           | (have ho : o = 2 := by assumption
              subst ho; rfl)
           | (have ho : o = 3 := by assumption
              subst ho; rfl)
           | (have ho : o = 4 := by assumption
              subst ho; rfl)
           | (have ho : o = 7 := by assumption
              subst ho; rfl)
           | (have ho : o = 8 := by assumption
              subst ho; rfl)
           | (have ho : o = 5 := by assumption
              subst ho; rfl)
           | (have ho : o = 6 := by assumption
              subst ho; rfl)
           | (have ho : o = 9 := by assumption
              subst ho; rfl)
           | (have ho : o = 10 := by assumption
              subst ho; rfl)
           | (have hs : sof o = none := by
                unfold sof
                simp [srt, *]
              simp [sofT, sofB, hs])
theorem fmx_s (e : Ex) (bq L : Nat) (m : Int) (hL : L ≤ 30) (hm : -1000 ≤ m ∧ m ≤ 1000) (ih : ∀ k : Ex, exS k < exS e → ∀ (L : Nat) (m : Int), L ≤ 30 → (-1000 ≤ m ∧ m ≤ 1000) → RCall Tryz.prog (.func 139) [.ag [.int .i64 k.op, .int .i64 k.num, .sl 3 (k.kids.map erow) .no], .int .i64 L, .ptr bq 0] [(bq, .cells [.int .i64 m])] (fun y : Int => .bool (fmX k L m)) (fun y => [(bq, .cells [.int .i64 y])]) (fun y => fmX k L m = true → y = m - (exS k : Nat))) : RCall Tryz.prog (.func 139) [.ag [.int .i64 e.op, .int .i64 e.num, .sl 3 (e.kids.map erow) .no], .int .i64 L, .ptr bq 0] [(bq, .cells [.int .i64 m])] (fun y => .bool (fmX e L m)) (fun y => [(bq, .cells [.int .i64 y])]) (fun y => fmX e L m = true → y = m - (exS e : Nat)) := by
 refine RCall.ok fun hok => ?_
 simp only [okAll, D.ok, okRows, and_true, true_and, lim_eq, inR_i64', inR_i32', inR_u8', inR_u16', inR_u64'] at hok
 obtain ⟨⟨h1, h2, hl, hr⟩, _⟩ := hok; rw [List.length_map] at hl
 have hmw : IntKind.wrap .i64 (m - 1) = m - 1 := w64 (by omega)
 refine fn_ Tryz.func139 (by rfl) (by rfl) (rs := [.tmp 6]) (by rfl) (by simp [Tryz.f139]) ?_
 refine sr_ [1, 2, 3] [3] [] fun κ ξ hκ hξ => ?_
 try simp +decide only [go_sem, hmw]
 repeat with_reducible refine an_ ?_
 refine hκ _ _ ?_; clear hκ hξ ξ κ
 refine srz_ [(7, [])] [1, 2, 3, 7, 8] [] [] fun κ ξ hκ hξ => ?_
 try simp +decide only [go_sem, hmw]
 repeat with_reducible refine an_ ?_
 refine callF (shp_w _) ?_
 try simp +decide only [go_sem, hmw]
 repeat with_reducible refine an_ ?_
 intro b7 hb7
 try simp +decide only [go_sem, hmw, hb7]
 repeat with_reducible refine an_ ?_
 refine hκ _ _ ?_; clear hκ hξ ξ κ
 refine sr_ [1, 2, 3, 7, 8] [] [] fun κ ξ hκ hξ => ?_
 try simp +decide only [go_sem, hmw, hb7]
 repeat with_reducible refine an_ ?_
 refine hκ _ _ ?_; clear hκ hξ ξ κ
 refine sq ?_
 refine sr_ [1, 2, 3, 51] [] [(2, 24), (6, 28), (12, 34), (20, 42)] fun κ ξ hκ hξ => ?_
 try simp +decide only [go_sem, hmw, hb7]
 repeat with_reducible refine an_ ?_
 refine vo_gc ?_
 try simp +decide only [go_sem, hmw, hb7]
 refine gcF (vwi_w _ _ _) ?_
 try simp +decide only [go_sem, hmw, hb7]
 repeat with_reducible refine an_ ?_
 refine hκ _ _ ?_; clear hκ hξ ξ κ
 refine cd_ (fun c0 => ?_) (fun c0 => ?_)
 ·simp only [go_sem] at c0
  refine sr_ [6] [] [] fun κ ξ hκ hξ => ?_
  try simp +decide only [go_sem, hmw, hb7, c0]
  repeat with_reducible refine an_ ?_
  refine hκ _ _ ?_; clear hκ hξ ξ κ
  have hf : fmX e L m = false := by
   refine fmX_no ?_
   rcases c0 with (((c0 | c0) | c0) | c0) | c0
   ·exact .inl (by rw [srt_op, c0]; rfl)
   ·exact .inr (.inl (by omega))
   ·exact .inr (.inr (by omega))
   ·exact .inl (by rw [srt_op, decide_eq_false c0]; simp)
   ·exact .inl (by rw [srt_op, decide_eq_false c0]; simp)
  refine rt ?_
  refine retR (m - 1) ?_ ?_ ?_
  ·first | exact .refl _ | exact List.nil_sublist _ | exact List.sublist_cons_of_sublist _ (.refl _) | exact ((List.Sublist.refl _).cons _).cons _ | (simp [*]; done) | skip
  ·first | trivial | assumption | omega | (simp; done) | (simp [*]; done) | skip
  simp +decide only [go_sem, resD, resV, hmw, hb7, c0]
  rw [hf]
 ·simp only [go_sem] at c0
  have hop : opB e.op e.num e.kids.length = true := by
   rw [srt_op, c0.1.1.1.1, decide_eq_true (by omega), decide_eq_true (by omega)]; rfl
  have hL1 : 1 ≤ L := by omega
  have hm1 : 1 ≤ m := by omega
  have hlw : IntKind.wrap .i64 ((L : Int) - 1) = ((L - 1 : Nat) : Int) := by rw [w64 (by omega)]; omega
  replace c0 := hL1
  refine sk ?_
  refine sq ?_
  refine sr_ [1, 2, 53, 54, 55] [] [] fun κ ξ hκ hξ => ?_
  try simp +decide only [go_sem, hmw, hb7, c0, hlw]
  repeat with_reducible refine an_ ?_
  refine hκ _ _ ?_; clear hκ hξ ξ κ
  refine bl ?_
  refine lp (α := Nat) (fun i => mk [(1, .int .i64 L), (2, .ptr bq 0), (53, .sl 3 (e.kids.map erow) .no), (54, .int .i64 e.kids.length), (55, .int .i64 i)]) (fun i => [(bq, .cells [.int .i64 (m - 1 - (exSs (e.kids.take i) : Nat))])]) (fun i => (i ≤ e.kids.length ∧ (0 : Int) ≤ m - 1 - (exSs (e.kids.take i) : Nat)) ∧ ∀ j, j < i → exN (eat e.kids j) = true ∧ exD (eat e.kids j) ≤ L - 1) (fun i => e.kids.length - i) 0 ⟨⟨⟨by omega, by simp [exSs]; omega⟩, by intro j hj; omega⟩, EnvLe.of_eq rfl, by simp [exSs]⟩ ?_
  rintro i ⟨⟨hi, hn⟩, hj⟩
  refine sr_ [1, 2, 53, 54, 55, 56] [] [] fun κ ξ hκ hξ => ?_
  try simp +decide only [go_sem, hmw, hb7, c0, hlw]
  repeat with_reducible refine an_ ?_
  refine hκ _ _ ?_; clear hκ hξ ξ κ
  refine sq ?_
  refine cd_ (fun c1 => ?_) (fun c1 => ?_)
  ·try simp only [go_sem] at c1
   refine sk ?_
   refine sq ?_
   refine bl ?_
   refine srz_ [(10, [])] [1, 2, 10, 53, 54, 55] [] [] fun κ ξ hκ hξ => ?_
   try simp +decide only [go_sem, hmw, hb7, c0, hlw, c1]
   repeat with_reducible refine an_ ?_
   intro b10 hb10
   try simp +decide only [go_sem, hmw, hb7, c0, hlw, c1, hb10]
   repeat with_reducible refine an_ ?_
   refine hκ _ _ ?_; clear hκ hξ ξ κ
   refine sr_ [1, 2, 53, 54, 55, 64] [] [] fun κ ξ hκ hξ => ?_
   try simp +decide only [go_sem, hmw, hb7, c0, hlw, c1, hb10]
   repeat with_reducible refine an_ ?_
   refine callR (ih (eat e.kids i) (kid_lt (by omega)) (L - 1) (m - 1 - (exSs (e.kids.take i) : Nat)) (by omega) (by omega)) fun y hy => ?_
   try simp +decide only [go_sem, hmw, hb7, c0, hlw, c1, hb10]
   repeat with_reducible refine an_ ?_
   refine hκ _ _ ?_; clear hκ hξ ξ κ
   refine cd_ (fun c2 => ?_) (fun c2 => ?_)
   ·simp only [go_sem] at c2
    refine sr_ [6] [] [] fun κ ξ hκ hξ => ?_
    try simp +decide only [go_sem, hmw, hb7, c0, hlw, c1, hb10, c2]
    repeat with_reducible refine an_ ?_
    refine hκ _ _ ?_; clear hκ hξ ξ κ
    have hf : fmX e L m = false := fmX_kid (i := i) (by omega) c2 hL1
    refine rt ?_
    refine retR (y) ?_ ?_ ?_
    ·first | exact .refl _ | exact List.nil_sublist _ | exact List.sublist_cons_of_sublist _ (.refl _) | exact ((List.Sublist.refl _).cons _).cons _ | (simp [*]; done) | skip
    ·first | trivial | assumption | omega | (simp; done) | (simp [*]; done) | skip
    simp +decide only [go_sem, resD, resV, hmw, hb7, c0, hlw, c1, hb10, c2]
    rw [hf]
   ·simp only [go_sem] at c2
    have hk := fmX_true.1 c2
    have hy2 := hy c2
    refine sk ?_
    refine rr_ [1, 2, 53, 54, 55] [] [] fun κ ξ hκ hξ => ?_
    try simp +decide only [go_sem, hmw, hb7, c0, hlw, c1, hb10, c2]
    repeat with_reducible refine an_ ?_
    refine hκ _ _ ?_; clear hκ hξ ξ κ
    have hs := exSs_take (l := e.kids) (i := i) (by omega)
    refine ⟨i + 1, ⟨⟨⟨by omega, by omega⟩, ?_⟩, by omega⟩, EnvLe.of_eq (by rw [w64 (n := (i : Int) + 1) (by omega)]; rfl), ?_⟩
    ·intro j h
     rcases Nat.lt_succ_iff_lt_or_eq.1 h with h | rfl
     ·exact hj j h
     ·exact ⟨hk.1, hk.2.1⟩
    ·rw [hy2, show m - 1 - (exSs (e.kids.take i) : Nat) - (exS (eat e.kids i) : Nat) = m - 1 - ((exSs (e.kids.take (i + 1)) : Nat) : Int) by omega]; exact .refl _
  ·try simp only [go_sem] at c1
   refine ex ?_
   refine sr_ [6] [] [] fun κ ξ hκ hξ => ?_
   try simp +decide only [go_sem, hmw, hb7, c0, hlw, c1]
   repeat with_reducible refine an_ ?_
   refine hκ _ _ ?_; clear hκ hξ ξ κ
   have e1 : i = e.kids.length := by omega
   subst e1
   have hf : fmX e L m = true := by
    rw [List.take_length] at hn
    exact fmX_end hL1 hop hj (by omega)
   have hok2 : fmX e L m = true → m - 1 - ((exSs (e.kids.take e.kids.length) : Nat) : Int) = m - (exS e : Nat) := fun _ => by rw [List.take_length, exS_eq]; omega
   refine rt ?_
   refine retR (m - 1 - ((exSs (e.kids.take e.kids.length) : Nat) : Int)) ?_ ?_ ?_
   ·first | exact .refl _ | exact List.nil_sublist _ | exact List.sublist_cons_of_sublist _ (.refl _) | exact ((List.Sublist.refl _).cons _).cons _ | (simp [*]; done) | skip
   ·first | trivial | assumption | omega | (simp; done) | (simp [*]; done) | skip
   simp +decide only [go_sem, resD, resV, hmw, hb7, c0, hlw, c1]
   rw [hf]
theorem fmx_w (k : Ex) (bq L : Nat) (m : Int) (hL : L ≤ 30) (hm : -1000 ≤ m ∧ m ≤ 1000) : RCall Tryz.prog (.func 139) [.ag [.int .i64 k.op, .int .i64 k.num, .sl 3 (k.kids.map erow) .no], .int .i64 L, .ptr bq 0] [(bq, .cells [.int .i64 m])] (fun y : Int => .bool (fmX k L m)) (fun y => [(bq, .cells [.int .i64 y])]) (fun y => fmX k L m = true → y = m - (exS k : Nat)) := by
 suffices h : ∀ n (k : Ex), exS k ≤ n → ∀ (L : Nat) (m : Int), L ≤ 30 → (-1000 ≤ m ∧ m ≤ 1000) → RCall Tryz.prog (.func 139) [.ag [.int .i64 k.op, .int .i64 k.num, .sl 3 (k.kids.map erow) .no], .int .i64 L, .ptr bq 0] [(bq, .cells [.int .i64 m])] (fun y : Int => .bool (fmX k L m)) (fun y => [(bq, .cells [.int .i64 y])]) (fun y => fmX k L m = true → y = m - (exS k : Nat)) from h _ k (Nat.le_refl _) L m hL hm
 intro n
 induction n with
 | zero => intro e he; have := exS_pos e; omega
 | succ n ih => exact fun e he L m hL hm => fmx_s e bq L m hL hm fun k hk a b ha hb => ih k (by omega) a b ha hb
theorem vva_w (e : Ex) : PCall Tryz.prog (.func 90) [.ag [.int .i64 e.op, .int .i64 e.num, .sl 3 (e.kids.map erow) .no]] (.bool (exB e)) := by
 refine PCall.le ?_
 refine fn_ Tryz.func90 (by rfl) (by rfl) (rs := [.tmp 2]) (by rfl) (by simp [Tryz.f90]) ?_
 refine sr_ [1] [1] [] fun κ ξ hκ hξ => ?_
 try simp +decide only [go_sem]
 repeat with_reducible refine an_ ?_
 refine hκ _ _ ?_; clear hκ hξ ξ κ
 refine sr_ [1, 3] [] [] fun κ ξ hκ hξ => ?_
 try simp +decide only [go_sem]
 repeat with_reducible refine an_ ?_
 intro b3 hb3
 try simp +decide only [go_sem, hb3]
 repeat with_reducible refine an_ ?_
 refine hκ _ _ ?_; clear hκ hξ ξ κ
 refine sr_ [2] [] [] fun κ ξ hκ hξ => ?_
 try simp +decide only [go_sem, hb3]
 repeat with_reducible refine an_ ?_
 refine callR (fmx_w e b3 30 100 (by omega) (by omega)) fun y _ => ?_
 try simp +decide only [go_sem, hb3]
 repeat with_reducible refine an_ ?_
 refine hκ _ _ ?_; clear hκ hξ ξ κ
 refine rt ?_
 refine retE ?_
 simp +decide only [go_sem, resD, resV, hb3]
 rw [fmX_all]
theorem min_w (a b : Int) (t : Tok) : PCall Tryz.prog (.func 188) [.sl 1 [irow a, irow b] t] (.int .i64 (mnI a b)) := by
 refine PCall.le ?_
 refine fn_ Tryz.func188 (by rfl) (by rfl) (rs := [.tmp 2]) (by rfl) (by simp [Tryz.f188]) ?_
 refine sr_ [0] [] [] fun κ ξ hκ hξ => ?_
 try simp +decide only [go_sem]
 repeat with_reducible refine an_ ?_
 refine hκ _ _ ?_; clear hκ hξ ξ κ
 refine sq ?_
 refine sr_ [0, 7] [] [] fun κ ξ hκ hξ => ?_
 try simp +decide only [go_sem]
 repeat with_reducible refine an_ ?_
 refine hκ _ _ ?_; clear hκ hξ ξ κ
 refine cdf (by rfl) ?_
 refine sk ?_
 refine sr_ [0, 3] [] [] fun κ ξ hκ hξ => ?_
 try simp +decide only [go_sem]
 repeat with_reducible refine an_ ?_
 refine hκ _ _ ?_; clear hκ hξ ξ κ
 refine sq ?_
 refine sr_ [0, 3, 4] [] [] fun κ ξ hκ hξ => ?_
 try simp +decide only [go_sem]
 repeat with_reducible refine an_ ?_
 refine hκ _ _ ?_; clear hκ hξ ξ κ
 refine bl ?_
 refine lpN 2 ?_
 refine rnd ?_
 refine sq ?_
 refine sr_ [0, 3, 4, 15] [] [] fun κ ξ hκ hξ => ?_
 try simp +decide only [go_sem]
 repeat with_reducible refine an_ ?_
 refine hκ _ _ ?_; clear hκ hξ ξ κ
 refine cdt (by rfl) ?_
 refine sk ?_
 refine sq ?_
 refine bl ?_
 refine rr_ [0, 3, 4] [] [] fun κ ξ hκ hξ => ?_
 try simp +decide only [go_sem]
 repeat with_reducible refine an_ ?_
 refine hκ _ _ ?_; clear hκ hξ ξ κ
 refine rr_ [0, 3, 4] [] [] fun κ ξ hκ hξ => ?_
 try simp +decide only [go_sem]
 repeat with_reducible refine an_ ?_
 refine hκ _ _ ?_; clear hκ hξ ξ κ
 refine rnd ?_
 refine sq ?_
 refine sr_ [0, 3, 4, 15] [] [] fun κ ξ hκ hξ => ?_
 try simp +decide only [go_sem]
 repeat with_reducible refine an_ ?_
 refine hκ _ _ ?_; clear hκ hξ ξ κ
 refine cdf (by rfl) ?_
 refine ex ?_
 refine sr_ [2] [] [] fun κ ξ hκ hξ => ?_
 try simp +decide only [go_sem]
 repeat with_reducible refine an_ ?_
 refine hκ _ _ ?_; clear hκ hξ ξ κ
 refine rt ?_
 refine retE ?_
 simp +decide only [go_sem, resD, resV]
 
theorem max_w (a b : Int) (t : Tok) : PCall Tryz.prog (.func 189) [.sl 1 [irow a, irow b] t] (.int .i64 (mxI a b)) := by
 refine PCall.le ?_
 refine fn_ Tryz.func189 (by rfl) (by rfl) (rs := [.tmp 2]) (by rfl) (by simp [Tryz.f189]) ?_
 refine sr_ [0] [] [] fun κ ξ hκ hξ => ?_
 try simp +decide only [go_sem]
 repeat with_reducible refine an_ ?_
 refine hκ _ _ ?_; clear hκ hξ ξ κ
 refine sq ?_
 refine sr_ [0, 7] [] [] fun κ ξ hκ hξ => ?_
 try simp +decide only [go_sem]
 repeat with_reducible refine an_ ?_
 refine hκ _ _ ?_; clear hκ hξ ξ κ
 refine cdf (by rfl) ?_
 refine sk ?_
 refine sr_ [0, 3] [] [] fun κ ξ hκ hξ => ?_
 try simp +decide only [go_sem]
 repeat with_reducible refine an_ ?_
 refine hκ _ _ ?_; clear hκ hξ ξ κ
 refine sq ?_
 refine sr_ [0, 3, 4] [] [] fun κ ξ hκ hξ => ?_
 try simp +decide only [go_sem]
 repeat with_reducible refine an_ ?_
 refine hκ _ _ ?_; clear hκ hξ ξ κ
 refine bl ?_
 refine lpN 2 ?_
 refine rnd ?_
 refine sq ?_
 refine sr_ [0, 3, 4, 15] [] [] fun κ ξ hκ hξ => ?_
 try simp +decide only [go_sem]
 repeat with_reducible refine an_ ?_
 refine hκ _ _ ?_; clear hκ hξ ξ κ
 refine cdt (by rfl) ?_
 refine sk ?_
 refine sq ?_
 refine bl ?_
 refine rr_ [0, 3, 4] [] [] fun κ ξ hκ hξ => ?_
 try simp +decide only [go_sem]
 repeat with_reducible refine an_ ?_
 refine hκ _ _ ?_; clear hκ hξ ξ κ
 refine rr_ [0, 3, 4] [] [] fun κ ξ hκ hξ => ?_
 try simp +decide only [go_sem]
 repeat with_reducible refine an_ ?_
 refine hκ _ _ ?_; clear hκ hξ ξ κ
 refine rnd ?_
 refine sq ?_
 refine sr_ [0, 3, 4, 15] [] [] fun κ ξ hκ hξ => ?_
 try simp +decide only [go_sem]
 repeat with_reducible refine an_ ?_
 refine hκ _ _ ?_; clear hκ hξ ξ κ
 refine cdf (by rfl) ?_
 refine ex ?_
 refine sr_ [2] [] [] fun κ ξ hκ hξ => ?_
 try simp +decide only [go_sem]
 repeat with_reducible refine an_ ?_
 refine hκ _ _ ?_; clear hκ hξ ξ κ
 refine rt ?_
 refine retE ?_
 simp +decide only [go_sem, resD, resV]
 
end Go.Proofs.YtinhjbnljbmbcaaGreat
/- The walks of value's operators. Printed by a tool of our own. -/
namespace Go.Proofs.YtinhjbnljbmbcaaGreat
open Go Go.RowKit
set_option linter.unusedSimpArgs false
set_option linter.unusedVariables false
set_option maxHeartbeats 4000000
set_option maxRecDepth 100000
def opF (o : Int) : D := .fn (.func (if o = 1 then 144 else if o = 2 then 145 else if o = 3 then 146 else if o = 4 then 147 else if o = 5 then 148 else if o = 6 then 149 else if o = 7 then 150 else if o = 8 then 151 else if o = 9 then 152 else 153)) [] []
def opN (o : Int) : Bool := decide (1 ≤ o ∧ o ≤ 10)
def opsE : List (D × D) := [(.int .i64 1, .fn (.func 144) [] []), (.int .i64 2, .fn (.func 145) [] []), (.int .i64 3, .fn (.func 146) [] []), (.int .i64 4, .fn (.func 147) [] []), (.int .i64 5, .fn (.func 148) [] []), (.int .i64 6, .fn (.func 149) [] []), (.int .i64 7, .fn (.func 150) [] []), (.int .i64 8, .fn (.func 151) [] []), (.int .i64 9, .fn (.func 152) [] []), (.int .i64 10, .fn (.func 153) [] [])]
theorem ops_get (o : Int) : mget (.int .i64 o) opsE = some (if opN o = true then some (opF o) else none) := by
 unfold opsE opN opF
 by_cases h : 1 ≤ o ∧ o ≤ 10
 ·rw [decide_eq_true h, if_pos rfl]
  obtain ⟨a, b⟩ := h
  have : o = 1 ∨ o = 2 ∨ o = 3 ∨ o = 4 ∨ o = 5 ∨ o = 6 ∨ o = 7 ∨ o = 8 ∨ o = 9 ∨ o = 10 := by omega
  rcases this with rfl | rfl | rfl | rfl | rfl | rfl | rfl | rfl | rfl | rfl <;> rfl
 ·rw [decide_eq_false h, if_neg (by simp)]
  simp [mget, keqD, show ¬ o = 1 by omega, show ¬ o = 2 by omega, show ¬ o = 3 by omega, show ¬ o = 4 by omega, show ¬ o = 5 by omega, show ¬ o = 6 by omega, show ¬ o = 7 by omega, show ¬ o = 8 by omega, show ¬ o = 9 by omega, show ¬ o = 10 by omega]
theorem ops_look (o : Int) (h : opN o = true) : lookD false (.v .nilFunc) (if opN o = true then some (opF o) else none) = opF o := by rw [if_pos h, lookD_fs]
theorem hd_i {l : List Int} {k : Nat} (h : k < l.length) : (List.map iD (List.drop k l)).headD .top = .int .i64 (l.getD k 0) := by
 rw [List.drop_eq_getElem_cons h, List.map_cons, List.headD_cons, List.getD_eq_getElem?_getD, List.getElem?_eq_getElem h]
 rfl
def missD : D := .ifc 238 (.ag [])
theorem mul_bd {a b A B : Int} (ha : -A ≤ a ∧ a ≤ A) (hb : -B ≤ b ∧ b ≤ B) : -(A * B) ≤ a * b ∧ a * b ≤ A * B := by
 have hA : 0 ≤ A := by omega
 have hB : 0 ≤ B := by omega
 have h1 : (a * b).natAbs ≤ (A * B).natAbs := by
  rw [Int.natAbs_mul, Int.natAbs_mul]
  exact Nat.mul_le_mul (by omega) (by omega)
 have h2 := Int.mul_nonneg hA hB
 omega
attribute [local go_sem] List.length_map rowAt_n nrow rowAt_t trow rowAt_i irow
attribute [local go_sem] rowAt_e rowAt_tm rowAt_dc rowAt_ru tmrow dcrow rurow
attribute [local go_sem] iD_all iD_len rw2_0 rw2_1 rw1_0 Int.toNat_one
attribute [local go_sem] ops_get ops_look hd_i
theorem on_w (w s : Int) (vs : List Int) (hvs : vs.length = 8) (n : Int) (l : List Int) (t : Tok) : PCall Tryz.prog (.func 144) [.ag (.int .i64 w :: .int .i64 s :: vs.map iD), .int .i64 n, .sl 1 (l.map irow) t] (.int .i64 n) := by
 refine PCall.le ?_
 refine fn_ Tryz.func144 (by rfl) (by rfl) (rs := [.tmp 6]) (by rfl) (by simp [Tryz.f144]) ?_
 refine sr_ [1] [3] [] fun κ ξ hκ hξ => ?_
 try simp +decide only [go_sem]
 repeat with_reducible refine an_ ?_
 refine hκ _ _ ?_; clear hκ hξ ξ κ
 refine sr_ [6] [] [] fun κ ξ hκ hξ => ?_
 try simp +decide only [go_sem]
 repeat with_reducible refine an_ ?_
 refine hκ _ _ ?_; clear hκ hξ ξ κ
 refine rt ?_
 refine retE ?_
 simp +decide only [go_sem, resD, resV]
 
theorem op_w (w s : Int) (vs : List Int) (hvs : vs.length = 8) (n : Int) (l : List Int) (t : Tok) (hn : -10000 ≤ n ∧ n ≤ 10000) (hw : 0 ≤ w ∧ w ≤ 1000000) (hs : 0 ≤ s ∧ s ≤ 1000000) : PCall Tryz.prog (.func 145) [.ag (.int .i64 w :: .int .i64 s :: vs.map iD), .int .i64 n, .sl 1 (l.map irow) t] (.int .i64 (n * w / 100)) := by
 have hb := mul_bd (a := n) (b := w) (A := 10000) (B := 1000000) (by omega) (by omega)
 have hmw : IntKind.wrap .i64 (n * w) = n * w := w64 (by omega)
 refine PCall.le ?_
 refine fn_ Tryz.func145 (by rfl) (by rfl) (rs := [.tmp 6]) (by rfl) (by simp [Tryz.f145]) ?_
 refine sr_ [1, 3] [3] [] fun κ ξ hκ hξ => ?_
 try simp +decide only [go_sem, hmw]
 repeat with_reducible refine an_ ?_
 refine hκ _ _ ?_; clear hκ hξ ξ κ
 refine sr_ [6] [] [] fun κ ξ hκ hξ => ?_
 try simp +decide only [go_sem, hmw]
 repeat with_reducible refine an_ ?_
 refine callF (vov_w _ _ (by omega)) ?_
 try simp +decide only [go_sem, hmw]
 repeat with_reducible refine an_ ?_
 refine hκ _ _ ?_; clear hκ hξ ξ κ
 refine rt ?_
 refine retE ?_
 simp +decide only [go_sem, resD, resV, hmw]
 
theorem oe_w (w s : Int) (vs : List Int) (hvs : vs.length = 8) (n : Int) (l : List Int) (t : Tok) (hn : -10000 ≤ n ∧ n ≤ 10000) (hw : 0 ≤ w ∧ w ≤ 1000000) (hs : 0 ≤ s ∧ s ≤ 1000000) : PCall Tryz.prog (.func 146) [.ag (.int .i64 w :: .int .i64 s :: vs.map iD), .int .i64 n, .sl 1 (l.map irow) t] (.int .i64 (n * s / 100)) := by
 have hb := mul_bd (a := n) (b := s) (A := 10000) (B := 1000000) (by omega) (by omega)
 have hmw : IntKind.wrap .i64 (n * s) = n * s := w64 (by omega)
 refine PCall.le ?_
 refine fn_ Tryz.func146 (by rfl) (by rfl) (rs := [.tmp 6]) (by rfl) (by simp [Tryz.f146]) ?_
 refine sr_ [1, 3] [3] [] fun κ ξ hκ hξ => ?_
 try simp +decide only [go_sem, hmw]
 repeat with_reducible refine an_ ?_
 refine hκ _ _ ?_; clear hκ hξ ξ κ
 refine sr_ [6] [] [] fun κ ξ hκ hξ => ?_
 try simp +decide only [go_sem, hmw]
 repeat with_reducible refine an_ ?_
 refine callF (vov_w _ _ (by omega)) ?_
 try simp +decide only [go_sem, hmw]
 repeat with_reducible refine an_ ?_
 refine hκ _ _ ?_; clear hκ hξ ξ κ
 refine rt ?_
 refine retE ?_
 simp +decide only [go_sem, resD, resV, hmw]
 
theorem ov_w (w s : Int) (vs : List Int) (hvs : vs.length = 8) (n : Int) (l : List Int) (t : Tok) (hn : 1 ≤ n ∧ n ≤ 8) : PCall Tryz.prog (.func 147) [.ag (.int .i64 w :: .int .i64 s :: vs.map iD), .int .i64 n, .sl 1 (l.map irow) t] (.int .i64 (vs.getD (n - 1).toNat 0)) := by
 obtain ⟨k, hk⟩ : ∃ k : Nat, n - 1 = (k : Int) := ⟨(n - 1).toNat, by omega⟩
 have hnw : IntKind.wrap .i64 (k : Int) = k := w64 (by omega)
 have hkl : k < vs.length := by omega
 refine PCall.le ?_
 refine fn_ Tryz.func147 (by rfl) (by rfl) (rs := [.tmp 6]) (by rfl) (by simp [Tryz.f147]) ?_
 refine sr_ [1, 3] [3] [] fun κ ξ hκ hξ => ?_
 try simp +decide only [go_sem, hk, hnw, Int.toNat_natCast, Nat.mul_one, hd_i hkl]
 repeat with_reducible refine an_ ?_
 refine hκ _ _ ?_; clear hκ hξ ξ κ
 refine sr_ [6] [] [] fun κ ξ hκ hξ => ?_
 try simp +decide only [go_sem, hk, hnw, Int.toNat_natCast, Nat.mul_one, hd_i hkl]
 repeat with_reducible refine an_ ?_
 refine hκ _ _ ?_; clear hκ hξ ξ κ
 refine rt ?_
 refine retE ?_
 simp +decide only [go_sem, resD, resV, hk, hnw, Int.toNat_natCast, Nat.mul_one, hd_i hkl]
 
theorem os_w (w s : Int) (vs : List Int) (hvs : vs.length = 8) (n : Int) (l : List Int) (t : Tok) (hb : ∀ v ∈ l, -1000000000 ≤ v ∧ v ≤ 1000000000) (h2 : l.length = 2) : PCall Tryz.prog (.func 148) [.ag (.int .i64 w :: .int .i64 s :: vs.map iD), .int .i64 n, .sl 1 (l.map irow) t] (.int .i64 (l0 l + l1 l)) := by
 obtain ⟨a, b, rfl⟩ : ∃ a b, l = [a, b] := by
  match l, h2 with
  | [a, b], _ => exact ⟨a, b, rfl⟩
 have ha := hb a (by simp)
 have hbb := hb b (by simp)
 have hsw : IntKind.wrap .i64 (a + b) = a + b := w64 (by omega)
 refine PCall.le ?_
 refine fn_ Tryz.func148 (by rfl) (by rfl) (rs := [.tmp 6]) (by rfl) (by simp [Tryz.f148]) ?_
 refine sr_ [2] [3] [] fun κ ξ hκ hξ => ?_
 try simp +decide only [go_sem, hsw, List.map_cons, List.map_nil]
 repeat with_reducible refine an_ ?_
 refine hκ _ _ ?_; clear hκ hξ ξ κ
 refine srd_ [6] [] [] [] fun κ ξ hκ hξ => ?_
 try simp +decide only [go_sem, hsw, List.map_cons, List.map_nil]
 repeat with_reducible refine an_ ?_
 refine hκ _ _ ?_; clear hκ hξ ξ κ
 refine rt ?_
 refine retE ?_
 simp +decide only [go_sem, resD, resV, hsw, List.map_cons, List.map_nil]
 rfl
theorem ol_w (w s : Int) (vs : List Int) (hvs : vs.length = 8) (n : Int) (l : List Int) (t : Tok) (hb : ∀ v ∈ l, -1000000000 ≤ v ∧ v ≤ 1000000000) (h2 : l.length = 2) : PCall Tryz.prog (.func 149) [.ag (.int .i64 w :: .int .i64 s :: vs.map iD), .int .i64 n, .sl 1 (l.map irow) t] (.int .i64 (l0 l - l1 l)) := by
 obtain ⟨a, b, rfl⟩ : ∃ a b, l = [a, b] := by
  match l, h2 with
  | [a, b], _ => exact ⟨a, b, rfl⟩
 have ha := hb a (by simp)
 have hbb := hb b (by simp)
 have hsw : IntKind.wrap .i64 (a - b) = a - b := w64 (by omega)
 refine PCall.le ?_
 refine fn_ Tryz.func149 (by rfl) (by rfl) (rs := [.tmp 6]) (by rfl) (by simp [Tryz.f149]) ?_
 refine sr_ [2] [3] [] fun κ ξ hκ hξ => ?_
 try simp +decide only [go_sem, hsw, List.map_cons, List.map_nil]
 repeat with_reducible refine an_ ?_
 refine hκ _ _ ?_; clear hκ hξ ξ κ
 refine srd_ [6] [] [] [] fun κ ξ hκ hξ => ?_
 try simp +decide only [go_sem, hsw, List.map_cons, List.map_nil]
 repeat with_reducible refine an_ ?_
 refine hκ _ _ ?_; clear hκ hξ ξ κ
 refine rt ?_
 refine retE ?_
 simp +decide only [go_sem, resD, resV, hsw, List.map_cons, List.map_nil]
 rfl
theorem ot_w (w s : Int) (vs : List Int) (hvs : vs.length = 8) (n : Int) (l : List Int) (t : Tok) (hn : -1000 ≤ n ∧ n ≤ 1000) (hb : ∀ v ∈ l, -1000000000 ≤ v ∧ v ≤ 1000000000) (h1 : l.length = 1) : PCall Tryz.prog (.func 150) [.ag (.int .i64 w :: .int .i64 s :: vs.map iD), .int .i64 n, .sl 1 (l.map irow) t] (.int .i64 (n * l0 l)) := by
 obtain ⟨a, rfl⟩ : ∃ a, l = [a] := by
  match l, h1 with
  | [a], _ => exact ⟨a, rfl⟩
 have ha := hb a (by simp)
 have hmb := mul_bd (a := n) (b := a) (A := 1000) (B := 1000000000) (by omega) (by omega)
 have hmw : IntKind.wrap .i64 (n * a) = n * a := w64 (by omega)
 refine PCall.le ?_
 refine fn_ Tryz.func150 (by rfl) (by rfl) (rs := [.tmp 6]) (by rfl) (by simp [Tryz.f150]) ?_
 refine sr_ [1, 2] [3] [] fun κ ξ hκ hξ => ?_
 try simp +decide only [go_sem, hmw, List.map_cons, List.map_nil]
 repeat with_reducible refine an_ ?_
 refine hκ _ _ ?_; clear hκ hξ ξ κ
 refine sr_ [6] [] [] fun κ ξ hκ hξ => ?_
 try simp +decide only [go_sem, hmw, List.map_cons, List.map_nil]
 repeat with_reducible refine an_ ?_
 refine hκ _ _ ?_; clear hκ hξ ξ κ
 refine rt ?_
 refine retE ?_
 simp +decide only [go_sem, resD, resV, hmw, List.map_cons, List.map_nil]
 rfl
theorem oo_w (w s : Int) (vs : List Int) (hvs : vs.length = 8) (n : Int) (l : List Int) (t : Tok) (hn : 0 < n) (hb : ∀ v ∈ l, -1000000000 ≤ v ∧ v ≤ 1000000000) (h1 : l.length = 1) : PCall Tryz.prog (.func 151) [.ag (.int .i64 w :: .int .i64 s :: vs.map iD), .int .i64 n, .sl 1 (l.map irow) t] (.int .i64 (l0 l / n)) := by
 obtain ⟨a, rfl⟩ : ∃ a, l = [a] := by
  match l, h1 with
  | [a], _ => exact ⟨a, rfl⟩
 have ha := hb a (by simp)
 refine PCall.le ?_
 refine fn_ Tryz.func151 (by rfl) (by rfl) (rs := [.tmp 6]) (by rfl) (by simp [Tryz.f151]) ?_
 refine sr_ [1, 2] [3] [] fun κ ξ hκ hξ => ?_
 try simp +decide only [go_sem, List.map_cons, List.map_nil]
 repeat with_reducible refine an_ ?_
 refine hκ _ _ ?_; clear hκ hξ ξ κ
 refine sr_ [6] [] [] fun κ ξ hκ hξ => ?_
 try simp +decide only [go_sem, List.map_cons, List.map_nil]
 repeat with_reducible refine an_ ?_
 refine callF (vov_w _ _ (by omega)) ?_
 try simp +decide only [go_sem, List.map_cons, List.map_nil]
 repeat with_reducible refine an_ ?_
 refine hκ _ _ ?_; clear hκ hξ ξ κ
 refine rt ?_
 refine retE ?_
 simp +decide only [go_sem, resD, resV, List.map_cons, List.map_nil]
 rfl
theorem omn_w (w s : Int) (vs : List Int) (hvs : vs.length = 8) (n : Int) (l : List Int) (t : Tok) (h2 : l.length = 2) : PCall Tryz.prog (.func 152) [.ag (.int .i64 w :: .int .i64 s :: vs.map iD), .int .i64 n, .sl 1 (l.map irow) t] (.int .i64 (mnI (l0 l) (l1 l))) := by
 obtain ⟨a, b, rfl⟩ : ∃ a b, l = [a, b] := by
  match l, h2 with
  | [a, b], _ => exact ⟨a, b, rfl⟩
 refine PCall.le ?_
 refine fn_ Tryz.func152 (by rfl) (by rfl) (rs := [.tmp 6]) (by rfl) (by simp [Tryz.f152]) ?_
 refine sr_ [2] [3] [] fun κ ξ hκ hξ => ?_
 try simp +decide only [go_sem, List.map_cons, List.map_nil]
 repeat with_reducible refine an_ ?_
 refine hκ _ _ ?_; clear hκ hξ ξ κ
 refine sr_ [6] [] [] fun κ ξ hκ hξ => ?_
 try simp +decide only [go_sem, List.map_cons, List.map_nil]
 repeat with_reducible refine an_ ?_
 refine callF (min_w _ _ _) ?_
 try simp +decide only [go_sem, List.map_cons, List.map_nil]
 repeat with_reducible refine an_ ?_
 refine hκ _ _ ?_; clear hκ hξ ξ κ
 refine rt ?_
 refine retE ?_
 simp +decide only [go_sem, resD, resV, List.map_cons, List.map_nil]
 rfl
theorem omx_w (w s : Int) (vs : List Int) (hvs : vs.length = 8) (n : Int) (l : List Int) (t : Tok) (h2 : l.length = 2) : PCall Tryz.prog (.func 153) [.ag (.int .i64 w :: .int .i64 s :: vs.map iD), .int .i64 n, .sl 1 (l.map irow) t] (.int .i64 (mxI (l0 l) (l1 l))) := by
 obtain ⟨a, b, rfl⟩ : ∃ a b, l = [a, b] := by
  match l, h2 with
  | [a, b], _ => exact ⟨a, b, rfl⟩
 refine PCall.le ?_
 refine fn_ Tryz.func153 (by rfl) (by rfl) (rs := [.tmp 6]) (by rfl) (by simp [Tryz.f153]) ?_
 refine sr_ [2] [3] [] fun κ ξ hκ hξ => ?_
 try simp +decide only [go_sem, List.map_cons, List.map_nil]
 repeat with_reducible refine an_ ?_
 refine hκ _ _ ?_; clear hκ hξ ξ κ
 refine sr_ [6] [] [] fun κ ξ hκ hξ => ?_
 try simp +decide only [go_sem, List.map_cons, List.map_nil]
 repeat with_reducible refine an_ ?_
 refine callF (max_w _ _ _) ?_
 try simp +decide only [go_sem, List.map_cons, List.map_nil]
 repeat with_reducible refine an_ ?_
 refine hκ _ _ ?_; clear hκ hξ ξ κ
 refine rt ?_
 refine retE ?_
 simp +decide only [go_sem, resD, resV, List.map_cons, List.map_nil]
 rfl
theorem ops_w  : RCall Tryz.prog (.func 94) [] [] (fun (b : Nat) => .mp b) (fun (b : Nat) => [(b, .map opsE)]) (fun (b : Nat) => True) := by
 refine fn_ Tryz.func94 (by rfl) (by rfl) (rs := [.tmp 0]) (by rfl) (by simp [Tryz.f94]) ?_
 refine sr_ [] [] [] fun κ ξ hκ hξ => ?_
 try simp +decide only [go_sem]
 repeat with_reducible refine an_ ?_
 refine hκ _ _ ?_; clear hκ hξ ξ κ
 refine sr_ [0] [] [] fun κ ξ hκ hξ => ?_
 try simp +decide only [go_sem]
 repeat with_reducible refine an_ ?_
 intro b1 hb1
 try simp +decide only [go_sem, hb1]
 repeat with_reducible refine an_ ?_
 refine hκ _ _ ?_; clear hκ hξ ξ κ
 refine rt ?_
 refine retR (b1) ?_ ?_ ?_
 ·first | exact .refl _ | exact List.nil_sublist _ | exact List.sublist_cons_of_sublist _ (.refl _) | exact ((List.Sublist.refl _).cons _).cons _ | (simp [*]; done) | skip
 ·first | trivial | assumption | omega | (simp; done) | (simp [*]; done) | skip
 simp +decide only [go_sem, resD, resV, hb1]
 skip
end Go.Proofs.YtinhjbnljbmbcaaGreat
/- The walk of the value of an expression. Printed by a tool of our own. -/
namespace Go.Proofs.YtinhjbnljbmbcaaGreat
open Go Go.RowKit
set_option linter.unusedSimpArgs false
set_option linter.unusedVariables false
set_option maxHeartbeats 4000000
set_option maxRecDepth 100000
theorem chunk_i : ∀ {n : Nat} {l : List Int}, l.length = n → chunk 1 n (l.map iD) = l.map irow
 | 0, [], _ => rfl
 | n + 1, x :: l, h => by
  simp only [List.map_cons, chunk, List.take_succ_cons, List.take_zero, List.drop_succ_cons, List.drop_zero]
  rw [chunk_i (by simpa using h)]
  rfl
theorem ev_stop {w s : Int} {vs : List Int} {e : Ex} {i : Nat} {a : List Int} (hi : i < e.kids.length) (ha : evEs w s vs (e.kids.take i) = some a) (hk : evE w s vs (eat e.kids i) = none) : evE w s vs e = none := by
 have h1 : evEs w s vs (e.kids.take (i + 1)) = none := by rw [evEs_take hi, ha]; simp only [hk]
 rw [evE_eq, evEs_none h1]
theorem exN_kid_at {e : Ex} {i : Nat} (h : exN e = true) (hi : i < e.kids.length) : exN (eat e.kids i) = true := by
 cases hk : exN (eat e.kids i) with
 | true => rfl
 | false => rw [exN_kid hi hk] at h; cases h
theorem op_one {o n : Int} {k : Nat} (h : opB o n k = true) : opN o = true := by
 unfold opB at h
 unfold opN
 rw [decide_eq_true_eq]
 repeat' split at h
 all_goals first | omega | cases h
theorem op_len {o n : Int} {k : Nat} (h : opB o n k = true) : k ≤ 2 := by
 unfold opB at h
 repeat' split at h
 all_goals first | (have := of_decide_eq_true h; omega) | cases h
theorem callOp {σ : Store} {K X : D → Store → Prop} {w s : Int} {vs : List Int} {o n : Int} {l : List Int} {t : Tok} (hvs : vs.length = 8) (hw : 0 ≤ w ∧ w ≤ 1000000) (hs : 0 ≤ s ∧ s ≤ 1000000) (h : opB o n l.length = true) (hl : ∀ v ∈ l, -1000000000 ≤ v ∧ v ≤ 1000000000)
  (hk : K (.int .i64 (opV w s vs o n l)) σ) : CallK Tryz.prog (opF o) [.ag (.int .i64 w :: .int .i64 s :: vs.map iD), .int .i64 n, .sl 1 (l.map irow) t] K X σ := by
 unfold opB at h
 split at h
 ·rename_i ho; subst ho; exact callP (on_w w s vs hvs n l t) hk
 split at h
 ·rename_i h1 ho
  have hb := of_decide_eq_true h
  rcases ho with rfl | rfl
  ·exact callP (op_w w s vs hvs n l t (by omega) hw hs) hk
  ·exact callP (oe_w w s vs hvs n l t (by omega) hw hs) hk
 split at h
 ·rename_i ho; subst ho; have hb := of_decide_eq_true h; exact callP (ov_w w s vs hvs n l t (by omega)) hk
 split at h
 ·rename_i ho; subst ho; have hb := of_decide_eq_true h; exact callP (ot_w w s vs hvs n l t (by omega) hl hb.1) hk
 split at h
 ·rename_i ho; subst ho; have hb := of_decide_eq_true h; exact callP (oo_w w s vs hvs n l t (by omega) hl hb.1) hk
 split at h
 ·rename_i ho
  have hb := of_decide_eq_true h
  rcases ho with rfl | rfl | rfl | rfl
  ·exact callP (os_w w s vs hvs n l t hl hb.1) hk
  ·exact callP (ol_w w s vs hvs n l t hl hb.1) hk
  ·exact callP (omn_w w s vs hvs n l t hb.1) hk
  ·exact callP (omx_w w s vs hvs n l t hb.1) hk
 ·cases h
attribute [local go_sem] List.length_map rowAt_n nrow rowAt_t trow rowAt_i irow
attribute [local go_sem] rowAt_e rowAt_tm rowAt_dc rowAt_ru tmrow dcrow rurow
attribute [local go_sem] iD_all iD_len rw2_0 rw2_1 rw1_0 Int.toNat_one
attribute [local go_sem] ops_get ops_look
theorem vr1_w (n : Int) : PCall Tryz.prog (.func 140) [.int .i64 n] (.bool (!okV n)) := by
 refine PCall.le ?_
 refine fn_ Tryz.func140 (by rfl) (by rfl) (rs := [.tmp 2]) (by rfl) (by simp [Tryz.f140]) ?_
 refine sr_ [0] [] [] fun κ ξ hκ hξ => ?_
 try simp +decide only [go_sem]
 repeat with_reducible refine an_ ?_
 refine hκ _ _ ?_; clear hκ hξ ξ κ
 refine sr_ [2] [] [] fun κ ξ hκ hξ => ?_
 try simp +decide only [go_sem]
 repeat with_reducible refine an_ ?_
 refine callF (vwi_w _ _ _) ?_
 try simp +decide only [go_sem]
 repeat with_reducible refine an_ ?_
 refine hκ _ _ ?_; clear hκ hξ ξ κ
 refine rt ?_
 refine retE ?_
 simp +decide only [go_sem, resD, resV]
 rfl
theorem ifi_w (l : List Int) (t : Tok) : PCall Tryz.prog (.func 186) [.sl 1 (l.map irow) t, .fn (.func 140) [] []] (.int .i64 (fixI (fun x => !okV x) l)) := by
 refine PCall.ok fun hok => ?_
 simp only [okAll, D.ok, okRows, and_true, true_and, lim_eq, inR_i64', inR_i32', inR_u8', inR_u16', inR_u64'] at hok
 obtain ⟨hl, hr⟩ := hok; rw [List.length_map] at hl
 refine PCall.le ?_
 refine fn_ Tryz.func186 (by rfl) (by rfl) (rs := [.tmp 4]) (by rfl) (by simp [Tryz.f186]) ?_
 refine sr_ [0, 1] [] [] fun κ ξ hκ hξ => ?_
 try simp +decide only [go_sem]
 repeat with_reducible refine an_ ?_
 refine hκ _ _ ?_; clear hκ hξ ξ κ
 refine sq ?_
 refine sr_ [0, 1, 7, 8] [] [] fun κ ξ hκ hξ => ?_
 try simp +decide only [go_sem]
 repeat with_reducible refine an_ ?_
 refine hκ _ _ ?_; clear hκ hξ ξ κ
 refine bl ?_
 refine lp (α := Nat) (fun i => mk [(0, .sl 1 (l.map irow) t), (1, .fn (.func 140) [] []), (7, .int .i64 l.length), (8, .int .i64 i)]) (fun _ => []) (fun i => i ≤ l.length ∧ ∀ j, j < i → okV (iat l j) = true) (fun i => l.length - i) 0 ⟨⟨by omega, by intro j hj; omega⟩, EnvLe.of_eq rfl, .refl _⟩ ?_
 rintro i ⟨hi, hj⟩
 refine sr_ [0, 1, 7, 8, 9] [] [] fun κ ξ hκ hξ => ?_
 try simp +decide only [go_sem]
 repeat with_reducible refine an_ ?_
 refine hκ _ _ ?_; clear hκ hξ ξ κ
 refine sq ?_
 refine cd_ (fun c0 => ?_) (fun c0 => ?_)
 ·try simp only [go_sem] at c0
  refine sk ?_
  refine sq ?_
  refine bl ?_
  refine sr_ [0, 1, 5, 7, 8] [] [] fun κ ξ hκ hξ => ?_
  try simp +decide only [go_sem, c0]
  repeat with_reducible refine an_ ?_
  refine hκ _ _ ?_; clear hκ hξ ξ κ
  refine sr_ [0, 1, 5, 7, 8, 16] [] [] fun κ ξ hκ hξ => ?_
  try simp +decide only [go_sem, c0]
  repeat with_reducible refine an_ ?_
  refine callF (vr1_w _) ?_
  try simp +decide only [go_sem, c0]
  repeat with_reducible refine an_ ?_
  refine hκ _ _ ?_; clear hκ hξ ξ κ
  refine cd_ (fun c1 => ?_) (fun c1 => ?_)
  ·try simp only [go_sem] at c1
   refine sr_ [4] [] [] fun κ ξ hκ hξ => ?_
   try simp +decide only [go_sem, c0, c1]
   repeat with_reducible refine an_ ?_
   refine hκ _ _ ?_; clear hκ hξ ξ κ
   refine rt ?_
   refine retE ?_
   simp +decide only [go_sem, resD, resV, c0, c1]
   congr 1
   rw [fixI_some (p := fun x => !okV x) (d := 0) (i := i) (by omega) (by simpa [iat] using c1) fun j h => by simpa [iat] using hj j h]
  ·try simp only [go_sem] at c1
   refine sk ?_
   refine rr_ [0, 1, 7, 8] [] [] fun κ ξ hκ hξ => ?_
   try simp +decide only [go_sem, c0, c1]
   repeat with_reducible refine an_ ?_
   refine hκ _ _ ?_; clear hκ hξ ξ κ
   refine ⟨i + 1, ⟨⟨by omega, ?_⟩, by omega⟩, EnvLe.of_eq (by rw [w64 (by omega)]; rfl), List.nil_sublist _⟩
   intro j h
   rcases Nat.lt_succ_iff_lt_or_eq.1 h with h | rfl
   ·exact hj j h
   ·first | assumption | simpa using c1
 ·try simp only [go_sem] at c0
  refine ex ?_
  refine sr_ [4] [] [] fun κ ξ hκ hξ => ?_
  try simp +decide only [go_sem, c0]
  repeat with_reducible refine an_ ?_
  refine hκ _ _ ?_; clear hκ hξ ξ κ
  refine rt ?_
  refine retE ?_
  simp +decide only [go_sem, resD, resV, c0]
  congr 1
  rw [fixI_none (p := fun x => !okV x) (d := 0) fun j h => by simpa [iat] using hj j (by omega)]
theorem cfi_w (l : List Int) (t : Tok) : PCall Tryz.prog (.func 141) [.sl 1 (l.map irow) t, .fn (.func 140) [] []] (.bool (!l.all okV)) := by
 refine PCall.le ?_
 refine fn_ Tryz.func141 (by rfl) (by rfl) (rs := [.tmp 4]) (by rfl) (by simp [Tryz.f141]) ?_
 refine sr_ [0, 1] [] [] fun κ ξ hκ hξ => ?_
 try simp +decide only [go_sem]
 repeat with_reducible refine an_ ?_
 refine hκ _ _ ?_; clear hκ hξ ξ κ
 refine sr_ [4] [] [] fun κ ξ hκ hξ => ?_
 try simp +decide only [go_sem]
 repeat with_reducible refine an_ ?_
 refine callF (ifi_w _ _) ?_
 try simp +decide only [go_sem]
 repeat with_reducible refine an_ ?_
 refine hκ _ _ ?_; clear hκ hξ ξ κ
 refine rt ?_
 refine retE ?_
 simp +decide only [go_sem, resD, resV]
 all_goals congr 1
 all_goals exact fix_all _ 0 _
theorem vri_w (w s : Int) (vs : List Int) (hvs : vs.length = 8) : PCall Tryz.prog (.func 91) [.ag (.int .i64 w :: .int .i64 s :: vs.map iD)] (.bool (decide (50 ≤ s ∧ s ≤ 300) && vs.all okV)) := by
 have ht8 : vs.take 8 = vs := List.take_of_length_le (by omega)
 have hch := chunk_i hvs
 refine PCall.le ?_
 refine fn_ Tryz.func91 (by rfl) (by rfl) (rs := [.tmp 2]) (by rfl) (by simp [Tryz.f91]) ?_
 refine sr_ [1] [1] [] fun κ ξ hκ hξ => ?_
 try simp +decide only [go_sem, ht8, ↓hch, Int.toNat_natCast]
 repeat with_reducible refine an_ ?_
 refine hκ _ _ ?_; clear hκ hξ ξ κ
 refine sr_ [1, 3] [] [] fun κ ξ hκ hξ => ?_
 try simp +decide only [go_sem, ht8, ↓hch, Int.toNat_natCast]
 repeat with_reducible refine an_ ?_
 refine hκ _ _ ?_; clear hκ hξ ξ κ
 refine sr_ [2] [] [(3, 7)] fun κ ξ hκ hξ => ?_
 try simp +decide only [go_sem, ht8, ↓hch, Int.toNat_natCast]
 repeat with_reducible refine an_ ?_
 refine callF (vwi_w _ _ _) ?_
 try simp +decide only [go_sem, ht8, ↓hch, Int.toNat_natCast]
 repeat with_reducible refine an_ ?_
 refine vo_gc ?_
 try simp +decide only [go_sem, ht8, ↓hch, Int.toNat_natCast]
 refine gcF (cfi_w _ _) ?_
 try simp +decide only [go_sem, ht8, ↓hch, Int.toNat_natCast]
 repeat with_reducible refine an_ ?_
 refine hκ _ _ ?_; clear hκ hξ ξ κ
 refine rt ?_
 refine retE ?_
 simp +decide only [go_sem, resD, resV, ht8, ↓hch, Int.toNat_natCast]
 rw [Bool.not_not]
theorem val_s (w s : Int) (vs : List Int) (hvs : vs.length = 8) (b : Nat) (hw : 0 ≤ w ∧ w ≤ 1000000) (hs : 0 ≤ s ∧ s ≤ 1000000) (e : Ex) (hN : exN e = true) (ih : ∀ k : Ex, exS k < exS e → exN k = true → ACall Tryz.prog (.func 143) [.ag (.int .i64 w :: .int .i64 s :: vs.map iD), .ag [.int .i64 k.op, .int .i64 k.num, .sl 3 (k.kids.map erow) .no], .mp b] [(b, .map opsE)] (fun r σ' => σ' = [(b, .map opsE)] ∧ (∀ v, evE w s vs k = some v → r = .ret (.int .i64 v)) ∧ (evE w s vs k = none → r = .pan missD))) : ACall Tryz.prog (.func 143) [.ag (.int .i64 w :: .int .i64 s :: vs.map iD), .ag [.int .i64 e.op, .int .i64 e.num, .sl 3 (e.kids.map erow) .no], .mp b] [(b, .map opsE)] (fun r σ' => σ' = [(b, .map opsE)] ∧ (∀ v, evE w s vs e = some v → r = .ret (.int .i64 v)) ∧ (evE w s vs e = none → r = .pan missD)) := by
 refine ACall.ok fun hok => ?_
 simp only [okAll, D.ok, okRows, and_true, true_and, lim_eq, inR_i64', inR_i32', inR_u8', inR_u16', inR_u64'] at hok
 obtain ⟨_, h1, h2, hl, hr⟩ := hok; rw [List.length_map] at hl
 have ht8 : vs.take 8 = vs := List.take_of_length_le (by omega)
 have hNe := exN_eq e
 rw [hN] at hNe
 have hopB : opB e.op e.num e.kids.length = true := by cases h : opB e.op e.num e.kids.length <;> simp [h] at hNe ⊢
 have hopn := op_one hopB
 have hk2 := op_len hopB
 refine fn_ Tryz.func143 (by rfl) (by rfl) (rs := [.tmp 6]) (by rfl) (by simp [Tryz.f143]) ?_
 refine sr_ [2, 3, 4] [3, 4] [] fun κ ξ hκ hξ => ?_
 try simp +decide only [go_sem, ht8, hopn]
 repeat with_reducible refine an_ ?_
 refine hκ _ _ ?_; clear hκ hξ ξ κ
 refine sr_ [2, 3, 4, 7] [] [] fun κ ξ hκ hξ => ?_
 try simp +decide only [go_sem, ht8, hopn]
 repeat with_reducible refine an_ ?_
 refine hκ _ _ ?_; clear hκ hξ ξ κ
 refine sq ?_
 refine sr_ [2, 3, 4, 7, 12, 13, 14] [] [] fun κ ξ hκ hξ => ?_
 try simp +decide only [go_sem, ht8, hopn]
 repeat with_reducible refine an_ ?_
 refine hκ _ _ ?_; clear hκ hξ ξ κ
 refine bl ?_
 refine lp (α := Nat × List Int × Option (Nat × Nat)) (fun y => mk [(2, .mp b), (3, .el (.int .i64 w :: .int .i64 s :: vs.map iD)), (4, .el [.int .i64 e.op, .int .i64 e.num, .sl 3 (e.kids.map erow) .no]), (7, apD 1 (y.2.1.map irow) y.2.2), (12, .sl 3 (e.kids.map erow) .no), (13, .int .i64 e.kids.length), (14, .int .i64 y.1)]) (fun y => apS 1 y.2.1.length y.2.2 ++ [(b, .map opsE)]) (fun y => y.1 ≤ e.kids.length ∧ evEs w s vs (e.kids.take y.1) = some y.2.1 ∧ apOK (y.2.1.map irow) y.2.2 ∧ apFr y.2.2 [(b, .map opsE)]) (fun y => e.kids.length - y.1) (0, [], none) ⟨⟨by simp only; omega, by simp [evEs], fun _ => rfl, apFr_none _⟩, EnvLe.of_eq rfl, .refl _⟩ ?_
 rintro ⟨i, a, o⟩ ⟨hi, ha, ho, hfr⟩
 simp only at hi ha ho hfr
 refine sr_ [2, 3, 4, 7, 12, 13, 14, 15] [] [] fun κ ξ hκ hξ => ?_
 try simp +decide only [go_sem, ht8, hopn]
 repeat with_reducible refine an_ ?_
 refine hκ _ _ ?_; clear hκ hξ ξ κ
 refine sq ?_
 refine cd_ (fun c0 => ?_) (fun c0 => ?_)
 ·simp only [go_sem] at c0
  refine sk ?_
  refine sq ?_
  refine bl ?_
  refine srz_ [(9, [])] [2, 3, 4, 7, 9, 12, 13, 14] [] [] fun κ ξ hκ hξ => ?_
  try simp +decide only [go_sem, ht8, hopn, c0]
  repeat with_reducible refine an_ ?_
  intro b9 hb9
  try simp +decide only [go_sem, ht8, hopn, c0, hb9]
  repeat with_reducible refine an_ ?_
  refine hκ _ _ ?_; clear hκ hξ ξ κ
  refine rr_ [2, 3, 4, 7, 12, 13, 14] [] [] fun κ ξ hκ hξ => ?_
  try simp +decide only [go_sem, ht8, hopn, c0, hb9]
  repeat with_reducible refine an_ ?_
  refine callA ((ih (eat e.kids i) (kid_lt (by omega)) (exN_kid_at hN (by omega))).frameL (apS 1 a.length o)) ?_ (by
    rintro d σ' ⟨σ1, rfl, rfl, h1, h2⟩
    refine hξ _ _ ?_
    have hkn : evE w s vs (eat e.kids i) = none := by
      cases hv : evE w s vs (eat e.kids i) with
      | none => rfl
      | some v => cases h1 v hv
    have hd := h2 hkn
    cases hd
    have hst := ev_stop (by omega) ha hkn
    exact ⟨_, List.sublist_append_right _ _, rfl, fun v hv => (by rw [hst] at hv; cases hv), fun _ => rfl⟩)
  rintro d σ' ⟨σ1, rfl, rfl, h1, h2⟩
  obtain ⟨v, hv, rfl⟩ : ∃ v, evE w s vs (eat e.kids i) = some v ∧ d = .int .i64 v := by
   cases hv : evE w s vs (eat e.kids i) with
   | none => cases h2 hv
   | some v => cases h1 v hv; exact ⟨v, rfl, rfl⟩
  try simp +decide only [go_sem, ht8, hopn, c0, hb9]
  repeat with_reducible refine an_ ?_
  refine napp_growN (o := o) (rows := a.map irow) (ρ := [(b, _)]) ho hfr (List.length_map ..) rfl rfl (by simp +decide only [go_sem, Option.isSome_some]) tf220 tf221 tf36 (by refine ⟨⟨rfl, by decide, by decide⟩, by simp +decide only [go_sem], by simp, ?_⟩; have := evEs_len ha; rw [List.length_take] at this; simp [capB]; omega) ?_; intro b24 c24 hb24
  try simp +decide only [go_sem, ht8, hopn, c0, hb9]
  repeat with_reducible refine an_ ?_
  refine hκ _ _ ?_; clear hκ hξ ξ κ
  refine rr_ [2, 3, 4, 7, 12, 13, 14] [] [] fun κ ξ hκ hξ => ?_
  try simp +decide only [go_sem, ht8, hopn, c0, hb9]
  repeat with_reducible refine an_ ?_
  refine hκ _ _ ?_; clear hκ hξ ξ κ
  refine ⟨(i + 1, a ++ [v], some (b24, c24)), ⟨⟨by simp only; omega, by simp only; rw [evEs_take (by omega), ha]; simp only [hv], (fun h => by cases h), apFr_some hb24⟩, by simp only; omega⟩, EnvLe.of_eq ?_, ?_⟩
  ·rw [w64 (n := (i : Int) + 1) (by omega), List.map_append]; rfl
  ·rw [List.length_append]; exact .refl _
 ·simp only [go_sem] at c0
  obtain rfl : i = e.kids.length := by omega
  rw [List.take_length] at ha
  refine weak (mk [(7, apD 1 (a.map irow) o), (2, .mp b), (3, .el (.int .i64 w :: .int .i64 s :: vs.map iD)), (4, .el [.int .i64 e.op, .int .i64 e.num, .sl 3 (e.kids.map erow) .no])]) (EnvLe.of_l ⟨rfl, rfl, rfl, rfl, trivial⟩) (σ' := [(b, .map opsE)]) (List.sublist_append_right _ _) ?_
  refine weak (mk [(7, .sl 1 (a.map irow) .no), (2, .mp b), (3, .el (.int .i64 w :: .int .i64 s :: vs.map iD)), (4, .el [.int .i64 e.op, .int .i64 e.num, .sl 3 (e.kids.map erow) .no])]) (EnvLe.cons (apD_le 1 ho) (EnvLe.refl _)) (.refl _) ?_
  refine ex ?_
  refine sr_ [10] [] [] fun κ ξ hκ hξ => ?_
  try simp +decide only [go_sem, ht8, hopn, c0]
  repeat with_reducible refine an_ ?_
  refine callOp hvs hw hs (by rw [evEs_len ha]; exact hopB) (evEs_ok ha) ?_
  try simp +decide only [go_sem, ht8, hopn, c0]
  repeat with_reducible refine an_ ?_
  refine hκ _ _ ?_; clear hκ hξ ξ κ
  refine sq ?_
  refine sr_ [10, 37] [] [] fun κ ξ hκ hξ => ?_
  try simp +decide only [go_sem, ht8, hopn, c0]
  repeat with_reducible refine an_ ?_
  refine callF (vwi_w _ _ _) ?_
  try simp +decide only [go_sem, ht8, hopn, c0]
  repeat with_reducible refine an_ ?_
  refine hκ _ _ ?_; clear hκ hξ ξ κ
  refine cd_ (fun c1 => ?_) (fun c1 => ?_)
  ·simp only [go_sem] at c1
   refine rr_ [] [] [] fun κ ξ hκ hξ => ?_
   try simp +decide only [go_sem, ht8, hopn, c0, c1]
   repeat with_reducible refine an_ ?_
   refine hξ _ _ ?_
   have hst : evE w s vs e = none := by
    rw [evE_eq, ha]
    exact if_neg (by unfold okV; rw [decide_eq_true_eq]; exact c1)
   exact ⟨_, .refl _, rfl, fun v hv => (by rw [hst] at hv; cases hv), fun _ => rfl⟩
  ·simp only [go_sem] at c1
   refine sk ?_
   refine sr_ [6] [] [] fun κ ξ hκ hξ => ?_
   try simp +decide only [go_sem, ht8, hopn, c0, c1]
   repeat with_reducible refine an_ ?_
   refine hκ _ _ ?_; clear hκ hξ ξ κ
   refine rt ?_
   have hst : evE w s vs e = some (opV w s vs e.op e.num a) := by
    rw [evE_eq, ha]
    exact if_pos (by unfold okV; rw [decide_eq_true_eq]; exact c1)
   refine ret_ (σ' := [(b, .map opsE)]) ?_ (.refl _) ?_
   ·simp +decide only [go_sem, resD, resV]
   simp +decide only [go_sem, resD, resV]
   exact ⟨fun v hv => (by rw [hst] at hv; cases hv; rfl), fun hv => (by rw [hst] at hv; cases hv)⟩
theorem val_w (w s : Int) (vs : List Int) (hvs : vs.length = 8) (b : Nat) (hw : 0 ≤ w ∧ w ≤ 1000000) (hs : 0 ≤ s ∧ s ≤ 1000000) (e : Ex) (hN : exN e = true) : ACall Tryz.prog (.func 143) [.ag (.int .i64 w :: .int .i64 s :: vs.map iD), .ag [.int .i64 e.op, .int .i64 e.num, .sl 3 (e.kids.map erow) .no], .mp b] [(b, .map opsE)] (fun r σ' => σ' = [(b, .map opsE)] ∧ (∀ v, evE w s vs e = some v → r = .ret (.int .i64 v)) ∧ (evE w s vs e = none → r = .pan missD)) := by
 suffices h : ∀ n (e : Ex), exS e ≤ n → exN e = true → ACall Tryz.prog (.func 143) [.ag (.int .i64 w :: .int .i64 s :: vs.map iD), .ag [.int .i64 e.op, .int .i64 e.num, .sl 3 (e.kids.map erow) .no], .mp b] [(b, .map opsE)] (fun r σ' => σ' = [(b, .map opsE)] ∧ (∀ v, evE w s vs e = some v → r = .ret (.int .i64 v)) ∧ (evE w s vs e = none → r = .pan missD)) from h _ e (Nat.le_refl _) hN
 intro n
 induction n with
 | zero => intro e he; have := exS_pos e; omega
 | succ n ih => exact fun e he hN => val_s w s vs hvs b hw hs e hN fun k hk hkN => ih k (by omega) hkN
end Go.Proofs.YtinhjbnljbmbcaaGreat
/- Own layer, part 31: functions that defer a call which catches panics. -/
namespace Go.Proofs.YtinhjbnljbmbcaaGreat
open Go Go.RowKit
set_option linter.unusedSimpArgs false
set_option linter.unusedVariables false
section
variable {P : Program} {M : Mem} {w : World} {σ : Store} {r : Option Nat} {nt : Nat} {ops : Array Oper} {imm : List Nat} {gt : List (Nat × Nat)}
theorem vop_agree {o : Oper} {env : Env} {κ : Env → Store → Prop} {X : D → Store → Prop} (h : vop P imm gt o env σ κ X) : vop P imm gt o env σ (fun env' σ' => κ env' σ' ∧ ∀ t, o.dst ≠ some t → env' t = env t) X := by
 have key : ∀ d t, o.dst ≠ some t → env.put o.dst d t = env t := fun d t ht => put_apart fun x hx e => ht (by rw [hx, e])
 unfold vop at h ⊢
 cases hq : quiet o.op with
 | true => simp only [hq, cond_true] at h ⊢; exact ⟨h.1, h.2, key _⟩
 | false => simp only [hq, cond_false] at h ⊢; exact nv_mono (fun d σ' hk => ⟨hk, key _⟩) h
/-- As the region's rule; where a panic leaves it, some places are still known. -/
theorem vops_soundX (hgt : GT ops gt) {Q : AE → Env → Store → Prop} (keep kx : List Nat) {env0 : Env} {M0 : Mem} {w0 : World} {σ0 : Store} {a0 : Act} {B : Nat × List Deferred} : ∀ (l : List Oper) (k : Nat), (∀ j, l[j]? = ops[k + j]?) → l.all (okOp nt) = true → (∀ o ∈ l, ∀ t ∈ kx, o.dst ≠ some t) → ∀ (env : Env) (σ : Store) (M : Mem) (w : World) (a : Act),
  vops P imm gt (fun env σ => Q .normal (prune keep env) σ) (fun d σ => Q (.pan d) (prune kx env0) σ) l env σ → (∀ t ∈ kx, env t = env0 t) →
  Conc M w σ → EnvR M nt env a → DefOK B σ0 w0 a0.defers → a.defers = a0.defers → Step M0 w0 σ0 M w σ → wpOpsIn (WF r) 0 P ops (rgPost M0 w0 σ0 nt B Q) (List.range' k l.length) a w
 | [], k, _, _, _, env, σ, M, w, a, h, _, hc, he, hd, hda, hs => by
  simp only [List.length_nil, List.range'_zero, wpOpsIn]
  exact ⟨M, _, σ, .normal, hs, hc, he.prune keep, hda ▸ hd.step hs, trivial, h⟩
 | o :: l, k, hl, hok, hkx, env, σ, M, w, a, h, hag, hc, he, hd, hda, hs => by
  have h0 : ops[k]? = some o := by simpa using (hl 0).symm
  simp only [List.all_cons, Bool.and_eq_true] at hok
  simp only [List.length_cons, List.range'_succ]
  rw [wpOpsIn_cons]
  unfold wpOpIn
  simp only [h0]
  refine vop_sound (r := r) hgt hc he hok.1 (vop_agree h) ?_ ?_
  ·intro M' w' σ' env' a' s1 c1 e1 d1 k1
   exact vops_soundX hgt keep kx l (k + 1) (fun j => by have := hl (j + 1); simpa [Nat.add_assoc, Nat.add_comm 1 j] using this) hok.2 (fun o' ho' => hkx o' (List.mem_cons_of_mem _ ho')) env' σ' M' w' a' k1.1
    (fun t ht => (k1.2 t (hkx o (List.mem_cons_self ..) t ht)).trans (hag t ht)) c1 e1 hd (d1.trans hda) (hs.trans s1)
  ·intro M' w' σ' d v s1 c1 r1 x1
   refine ⟨M', prune kx env0, σ', .pan d, hs.trans s1, c1, ?_, hda ▸ hd.step (hs.trans s1), ⟨v, rfl, r1⟩, x1⟩
   have e2 : prune kx env0 = prune kx env := by
    unfold prune
    congr 1
    exact List.map_congr_left fun t ht => by rw [hag t ht]
   rw [e2]
   exact (he.mono s1.le).prune kx
def kxOK (l : List Oper) (kx : List Nat) : Bool := l.all fun o => kx.all fun t => o.dst != some t
theorem rgX (kx keep imm : List Nat) (gt : List (Nat × Nat)) {id : Nat} {l : List Oper} {env : Env} {Q : AE → Env → Store → Prop}
  (h : ∀ (κ : Env → Store → Prop) (ξ : D → Store → Prop), (∀ env σ, Q .normal env σ → κ env σ) → (∀ d σ, Q (.pan d) (prune kx env) σ → ξ d σ) → vops P imm gt (fun env σ => κ (prune keep env) σ) ξ l env σ)
  (hok : rgOK nt l.toArray gt = true := by kernel_rfl) (hk : kxOK l kx = true := by kernel_rfl) : AWp P r nt (.region id l.toArray false) env σ Q := by
 intro M w a B hc he hd
 refine wpIn_region ?_
 unfold rgOK at hok
 simp only [Bool.and_eq_true] at hok
 have hkx : ∀ o ∈ l, ∀ t ∈ kx, o.dst ≠ some t := fun o ho t ht => by
  have := List.all_eq_true.1 (List.all_eq_true.1 hk o ho) t ht
  simpa using this
 have := vops_soundX (P := P) (r := r) (imm := imm) (ops := l.toArray) (Q := Q) (GT.of hok.2) keep kx l 0 (by simp) (by simpa using hok.1) hkx env σ M w a (h (fun env σ => Q .normal env σ) (fun d σ => Q (.pan d) (prune kx env) σ) (fun _ _ h => h) (fun _ _ h => h)) (fun _ _ => rfl) hc he hd rfl (Step.refl _ _ _)
 rw [List.range_eq_range', show l.toArray.size = l.length from by simp]
 exact this
/-! ### What is deferred -/
/-- A deferred call of a function that returns. -/
def DCallR (P : Program) (fc : Nat) (ds : List D) (σ : Store) (Q : Store → Prop) : Prop := ∀ M w vs, Conc M w σ → RAll M ds vs →
 CallsDIn (WF none) 0 P fc (List.toArray vs) .returning w fun e u' w' => ∃ v M' σ', e = .returned v ∧ u' = .returning ∧ Step M w σ M' w' σ' ∧ Conc M' w' σ' ∧ Q σ'
/-- A deferred call of a function that panics, which catches this. -/
def DCallP (P : Program) (fc : Nat) (ds : List D) (σ : Store) (d : D) (Q : Store → Prop) : Prop := ∀ M w vs x, Conc M w σ → RAll M ds vs → R M d x →
 CallsDIn (WF none) 0 P fc (List.toArray vs) (.panicking [{ v := x, recovered := false }]) w fun e u' w' => ∃ v M' σ', e = .returned v ∧ u' = .panicking [{ v := x, recovered := true }] ∧ Step M w σ M' w' σ' ∧ Conc M' w' σ' ∧ Q σ'
def endD (P : Program) (rs : List ResultVar) (Q : Res → Store → Prop) (env : Env) (σ' : Store) : Prop := (resD P σ' env rs).1 ∧ ∃ σ2 : Store, σ2.Sublist σ' ∧ Q (.ret (resD P σ' env rs).2) σ2
def defQ (P : Program) (fc : Nat) (ds : List D) (rs : List ResultVar) (Q : Res → Store → Prop) : AE → Env → Store → Prop
 | .normal, env, σ => DCallR P fc ds σ (endD P rs Q env)
 | .ret, env, σ => DCallR P fc ds σ (endD P rs Q env)
 | .pan d, env, σ => DCallP P fc ds σ d (endD P rs Q env)
 | _, _, _ => False
theorem leaves_marks' {fn : Func} {tmps : Array Value} {R' : Ending → World → Prop} {u : FrameMode} (rest : List Deferred) (hu : u ≠ .run) {M0 : Mem} {w0 : World} {σ0 : Store} {n : Nat} (hn0 : n ≤ w0.heap.size) : ∀ (Ds : List Nat) (M : Mem) (w : World) (σ : Store), Step M0 w0 σ0 M w σ → Conc M w σ → Ds.Nodup →
  (∀ D ∈ Ds, w0.heap.size ≤ D ∧ w.heap[D]? = some (.deferred (some [])) ∧ D ∉ σ.keys) →
  (∀ w', (∀ k, k < w0.heap.size → w'.heap[k]? = w.heap[k]?) → Step M0 w0 σ0 M w' σ → Conc M w' σ → LeavesInM (WF none) 0 P fn tmps R' rest u w') →
  LeavesInM (WF none) 0 P fn tmps R' ((Ds.map fun D => { target := .collected D, args := #[] }) ++ rest) u w
 | [], M, w, σ, hs, hc, _, _, h => h w (fun _ _ => rfl) hs hc
 | D :: Ds, M, w, σ, hs, hc, hn, hD, h => by
  simp only [List.nodup_cons] at hn
  obtain ⟨h1, h2, h3⟩ := hD D (by simp)
  have hlt : D < w.heap.size := (Array.getElem?_eq_some_iff.1 h2).1
  have hother : ∀ k, k ≠ D → (w.putObj D (.deferred none)).heap[k]? = w.heap[k]? := fun k hk => World.putObj_heap_other hk
  refine ⟨hu, .inl ⟨D, _, rfl, run_takeDeferred h2, ?_⟩⟩
  have hc' : Conc M (w.putObj D (.deferred none)) σ := by
   refine ⟨fun b o v hv => ?_, hc.nodup, fun b x hb => ?_⟩
   ·have hcell := hc.mem b o v hv
    have hne : b ≠ D := by
     intro e; subst e
     simp only [World.cell?, h2] at hcell
     cases hcell
    simp only [World.cell?, hother b hne]
    exact hcell
   ·have hne : b ≠ D := fun e => h3 (e ▸ List.mem_map_of_mem (f := Prod.fst) hb)
    exact (hc.box b x hb).mono (Mem.le.refl _) (fun _ _ h => h) (hother b hne)
  refine leaves_marks' rest hu hn0 Ds M _ σ ?_ hc' hn.2 (fun D' hD' => ?_) (fun w' hk hs' hc2 => h w' (fun k hk2 => (hk k hk2).trans (hother k (by omega))) hs' hc2)
  ·exact ⟨hs.le, hs.os, hs.tape, hs.output, (by rw [World.putObj_size]; exact hs.size), fun b hb hk => (hother b (fun e => by omega)).trans (hs.block b hb hk), hs.keys, hs.grow⟩
  ·obtain ⟨e1, e2, e3⟩ := hD D' (List.mem_cons_of_mem _ hD')
   exact ⟨e1, (hother D' (fun e => hn.1 (e ▸ hD'))).trans e2, e3⟩
/-- A FUNCTION THAT DEFERS ONE CALL, which catches its panics. -/
theorem fnD {f fc i1 : Nat} {fn : Func} {c0 c1 : Code} {rs : List ResultVar} {args : List D} {Q : Res → Store → Prop} {xs : List Operand} {ts : Array TypeId} {T : TypeId} {pos : String} {aft : Array Edge}
  (hf : P.funcs[f]? = some fn) (hb : fn.body = some (.seq c0 (.seq (.region i1 #[⟨none, .defer ⟨.value (.func fc), xs.toArray, ts⟩, T, pos, aft, none⟩] false) c1))) (hname : (fn.name == "runtime.NumGoroutine") = false)
  (hres : fn.results = List.toArray rs) (hn : args.length ≤ fn.ntmps) (hcf : ∀ (w : World) (vs : Array Value), (callFunc fc vs).run P w = .ok (.enter fc vs) w)
  (h : AWp P none fn.ntmps c0 (mk (argEnv args 0)) σ (thenQ (fun env1 σ1 => AWp P none fn.ntmps c1 env1 σ1 (defQ P fc (xs.map (opd env1)) rs Q)) fun _ _ _ => False)) : ACall P (.func f) args σ Q := by
 intro M w vs hc hr
 have hlen := hr.length
 refine .inl ⟨callFunc_enter hf (by rw [hb]; rfl) hname _, ?_⟩
 have key : CallsIn (WF none) 0 P f (List.toArray vs) w fun e w' => ∃ M' σ' r, Step M w σ M' w' σ' ∧ Conc M' w' σ' ∧ ResR M' r e ∧ Q r σ' := by
  refine callsIn_of_wp_marks hf hb trivial ?_
  have he : EnvR M fn.ntmps (mk (argEnv args 0)) { tmps := List.toArray vs ++ Array.replicate (fn.ntmps - (List.toArray vs).size) undef, defers := [] } := by
   refine ⟨by simp; omega, fun i => argEnv_R args vs 0 i _ hr fun j v hj => ?_⟩
   have hjl := (List.getElem?_eq_some_iff.1 hj).1
   rw [Nat.zero_add, Array.getD_eq_getD_getElem?, Array.getElem?_append_left (by simpa using hjl)]
   simp [hj]
  refine wpIn_seq (wpIn_mono (h M w _ (w.heap.size, []) hc he (DefOK.nil (Nat.le_refl _))) ?_)
  rintro e a1 w1 ⟨M1, env1, σ1, ae, s1, c1', e1, d1, h5, h6⟩
  cases e with
  | exit i => cases ae <;> simp only [AER] at h5; exact h6.elim
  | goto i => cases ae <;> simp only [AER] at h5; exact h6.elim
  | ret => cases ae <;> simp only [AER] at h5; exact h6.elim
  | panic ch => cases ae <;> simp only [AER] at h5; exact h6.elim
  | outgrown => cases ae <;> simp only [AER] at h5
  | normal =>
  cases ae <;> simp only [AER] at h5
  have hds : RAll M1 (xs.map (opd env1)) (xs.map a1.eval) := RAll_map (opd_R e1) xs
  obtain ⟨dcall, hdc⟩ : ∃ d : Deferred, d = { target := .fn (.func fc) #[], args := List.toArray (xs.map a1.eval) } := ⟨_, rfl⟩
  refine wpIn_seq (wpIn_region ?_)
  have hrun : (execOp a1.eval ⟨none, .defer ⟨.value (.func fc), xs.toArray, ts⟩, T, pos, aft, none⟩).run P w1 = .ok (.defer dcall) w1 := by
   simp [execOp, resolve, Act.eval, Deferred.ofValue, hdc]
  show wpOpsIn (WF none) 0 P _ _ [0] a1 w1
  simp only [wpOpsIn, List.getElem?_toArray, List.getElem?_cons_zero]
  rw [if_pos (by simp [Region.wanted])]
  refine ⟨fun f _ => trivial, ?_⟩
  have hsem : (Oper.semAt (WF none).round a1.eval ⟨none, .defer ⟨.value (.func fc), xs.toArray, ts⟩, T, pos, aft, none⟩) = execOp a1.eval ⟨none, .defer ⟨.value (.func fc), xs.toArray, ts⟩, T, pos, aft, none⟩ := by
   rfl
  rw [hsem, hrun, Oper.uponIn_defer]
  have he2 : EnvR M1 fn.ntmps env1 ({ a1 with defers := dcall :: a1.defers }.put none undef) := e1
  refine wpIn_mono (h6 M1 w1 ({ a1 with defers := dcall :: a1.defers }.put none undef) (w1.heap.size, dcall :: a1.defers) c1' he2 (DefOK.base (Nat.le_refl _))) ?_
  rintro e a2 w2 ⟨M2, env2, σ2, ae, s2, c2, e2, ⟨_, Ds, hd1, hd2, hd3⟩, h7, h8⟩
  -- the last marks, behind the deferred call
  have tail : ∀ (w3 w4 : World) (M4 : Mem) (σ4 : Store), (∀ k, k < w1.heap.size → w3.heap[k]? = w2.heap[k]?) → Step M1 w1 σ1 M2 w3 σ2 → Step M2 w3 σ2 M4 w4 σ4 → Conc M4 w4 σ4 → endD P rs Q env2 σ4 →
    LeavesInM (WF none) 0 P fn a2.tmps (fun e w' => ∃ M' σ' r, Step M w σ M' w' σ' ∧ Conc M' w' σ' ∧ ResR M' r e ∧ Q r σ') a1.defers .returning w4 := by
   intro w3 w4 M4 σ4 hk3 st3 st4 c4 ⟨hr1, σ5, hsub, hq⟩
   obtain ⟨_, Ds0, g1, g2, g3⟩ := d1.step (st3.trans st4)
   rw [g1, List.append_nil]
   refine leaves_marks (by simp) Ds0 M4 w4 σ4 ((s1.trans st3).trans st4) c4 g2 g3 fun w5 st5 c5 => ?_
   obtain ⟨v, r1, r2⟩ := run_results (P := P) (w := w5) hres c5 (e2.mono st4.le) hr1
   exact ⟨v, r1, M4, σ5, .ret _, st5.sub hsub, c5.sub hsub, r2, hq⟩
  have fin1 : DCallR P fc (xs.map (opd env1)) σ2 (endD P rs Q env2) → LeavesInM (WF none) 0 P fn a2.tmps (fun e w' => ∃ M' σ' r, Step M w σ M' w' σ' ∧ Conc M' w' σ' ∧ ResR M' r e ∧ Q r σ') a2.defers .returning w2 := by
   intro hD
   rw [hd1]
   refine leaves_marks' (dcall :: a1.defers) (by simp) (Nat.le_refl _) Ds M2 w2 σ2 s2 c2 hd2 hd3 fun w3 hk3 st3 c3 => ?_
   refine ⟨by simp, .inr ⟨(by intro h; cases h), _, _, fc, List.toArray (xs.map a1.eval), by rw [hdc], ?_, fun g _ => trivial, ?_⟩⟩
   ·rw [hdc]
    simp only [invoke]
    have := hcf w3 (List.toArray (xs.map a1.eval) ++ #[])
    simpa using this
   ·have hc3 := hD M2 w3 (xs.map a1.eval) c3 (RAll.mono s2.le _ _ hds)
    refine CallsDIn.mono hc3 ?_
    rintro e u' w4 ⟨v, M4, σ4, rfl, rfl, st4, c4, hend⟩
    exact tail w3 w4 M4 σ4 hk3 st3 st4 c4 hend
  cases e with
  | normal => cases ae <;> simp only [AER] at h7; exact fin1 h8
  | ret => cases ae <;> simp only [AER] at h7; exact fin1 h8
  | exit i => cases ae <;> simp only [AER] at h7; exact h8.elim
  | goto i => cases ae <;> simp only [AER] at h7; exact h8.elim
  | outgrown => cases ae <;> simp only [AER] at h7
  | panic ch =>
   cases ch with
   | nil => cases ae <;> simp only [AER] at h7
   | cons p0 ps =>
   cases ps with
   | cons _ _ => cases ae <;> simp only [AER] at h7
   | nil =>
   cases ae <;> simp only [AER] at h7
   obtain ⟨x, rfl, hx⟩ := h7
   show LeavesInM _ _ _ _ _ _ a2.defers (.panicking _) w2
   rw [hd1]
   refine leaves_marks' (dcall :: a1.defers) (by simp) (Nat.le_refl _) Ds M2 w2 σ2 s2 c2 hd2 hd3 fun w3 hk3 st3 c3 => ?_
   refine ⟨by simp, .inr ⟨(by intro h; cases h), _, _, fc, List.toArray (xs.map a1.eval), by rw [hdc], ?_, fun g _ => trivial, ?_⟩⟩
   ·rw [hdc]
    simp only [invoke]
    have := hcf w3 (List.toArray (xs.map a1.eval) ++ #[])
    simpa using this
   ·have hc3 := h8 M2 w3 (xs.map a1.eval) x c3 (RAll.mono s2.le _ _ hds) hx
    refine CallsDIn.mono hc3 ?_
    rintro e u' w4 ⟨v, M4, σ4, rfl, rfl, st4, c4, hend⟩
    exact tail w3 w4 M4 σ4 hk3 st3 st4 c4 hend
 exact key
/-! ### Functions that recover -/
theorem recover_then {id t : Nat} {fn : Func} {c : Code} {ts : Array TypeId} {T : TypeId} {pos : String} {aft : Array Edge} {c₀ : Frame} {cs : List Frame} {R : Ending → FrameMode → World → Prop} {a0 : Act} {w : World} {x : Value}
  (hu : c₀.mode = .panicking [{ v := x, recovered := false }])
  (h : c.wpIn (WF none) 0 P (fun e a' w' => bodyPostS P fn c₀ cs R e a' ({ c₀ with mode := .panicking [{ v := x, recovered := true }] } :: cs) w') (a0.put (some t) x) w) :
  (Code.seq (.region id #[⟨some t, .call ⟨.builtin .recover, #[], ts⟩, T, pos, aft, none⟩] false) c).wpSIn (WF none) 0 P (bodyPostS P fn c₀ cs R) a0 (c₀ :: cs) w := by
 apply wpSIn_seq
 apply wpSIn_region
 show wpOpsSIn (WF none) 0 P _ _ [0] a0 (c₀ :: cs) w
 simp only [wpOpsSIn, List.getElem?_toArray, List.getElem?_cons_zero]
 refine ⟨fun f _ => trivial, ?_⟩
 rw [if_pos (by simp [Region.wanted])]
 have hrun : (execOp a0.eval ⟨some t, .call ⟨.builtin .recover, #[], ts⟩, T, pos, aft, none⟩).run P w = .ok .recover w := rfl
 rw [hrun]
 have hrec : recoverD (c₀ :: cs) = some (x, { c₀ with mode := .panicking [{ v := x, recovered := true }] } :: cs) := by simp [recoverD, hu]
 simp only [hrec]
 exact wpSIn_of_wpIn rfl h
theorem recover_none {id t : Nat} {fn : Func} {c : Code} {ts : Array TypeId} {T : TypeId} {pos : String} {aft : Array Edge} {c₀ : Frame} {cs : List Frame} {R : Ending → FrameMode → World → Prop} {a0 : Act} {w : World}
  (hu : c₀.mode = .returning)
  (h : c.wpIn (WF none) 0 P (fun e a' w' => bodyPostS P fn c₀ cs R e a' (c₀ :: cs) w') (a0.put (some t) .nilIface) w) :
  (Code.seq (.region id #[⟨some t, .call ⟨.builtin .recover, #[], ts⟩, T, pos, aft, none⟩] false) c).wpSIn (WF none) 0 P (bodyPostS P fn c₀ cs R) a0 (c₀ :: cs) w := by
 apply wpSIn_seq
 apply wpSIn_region
 show wpOpsSIn (WF none) 0 P _ _ [0] a0 (c₀ :: cs) w
 simp only [wpOpsSIn, List.getElem?_toArray, List.getElem?_cons_zero]
 refine ⟨fun f _ => trivial, ?_⟩
 rw [if_pos (by simp [Region.wanted])]
 have hrun : (execOp a0.eval ⟨some t, .call ⟨.builtin .recover, #[], ts⟩, T, pos, aft, none⟩).run P w = .ok .recover w := rfl
 rw [hrun]
 have hrec : recoverD (c₀ :: cs) = none := by simp [recoverD, hu]
 simp only [hrec]
 exact wpSIn_of_wpIn rfl h
/-- A box of one cell is written to. -/
theorem Conc.set1 {b : Nat} {c d : D} {v : Value} (hc : Conc M w σ) (hg : σ.get b = some (.cells [c])) (hd : R M d v) (hcell : d.isCell = true) :
  Conc M (w.setCell ⟨b, 0, none⟩ v) (σ.upd b (.cells [d])) ∧ Step M w σ M (w.setCell ⟨b, 0, none⟩ v) (σ.upd b (.cells [d])) := by
 obtain ⟨⟨vs, T, h1, h2, h3⟩, h4⟩ := hc.box _ _ (Store.mem_of_get hg)
 have hw := Wr.setCell w b 0 v
 match vs, h2 with
 | [y], h2 => exact hc.turn (Store.get_mem hg) hw.size hw.os hw.tape hw.output hw.other (fun o v hm => by rw [h4 o] at hm; cases hm) ⟨⟨[v], T, setCell_heap h1 v, ⟨hd, trivial⟩, by simpa using hcell⟩, h4⟩
 | [], h2 => exact absurd h2 (by simp [RAll])
 | _ :: _ :: _, h2 => exact absurd h2 (by simp [RAll])
theorem Conc.cell1 {b : Nat} {c : D} (hc : Conc M w σ) (hg : σ.get b = some (.cells [c])) : (∃ y, w.cell? ⟨b, 0, none⟩ = some y) ∧ w.frozen? ⟨b, 0, none⟩ = false ∧ b < w.heap.size := by
 obtain ⟨⟨vs, T, h1, h2, h3⟩, h4⟩ := hc.box _ _ (Store.mem_of_get hg)
 refine ⟨?_, by simp [World.frozen?, h1], hc.lt (Store.get_mem hg)⟩
 match vs, h2 with
 | [y], h2 => exact ⟨y, by simp [World.cell?, h1]⟩
 | [], h2 => exact absurd h2 (by simp [RAll])
 | _ :: _ :: _, h2 => exact absurd h2 (by simp [RAll])
end
end Go.Proofs.YtinhjbnljbmbcaaGreat
/- value.caught, at machine level. -/
namespace Go.Proofs.YtinhjbnljbmbcaaGreat
open Go Go.RowKit
set_option linter.unusedSimpArgs false
set_option linter.unusedVariables false
@[go_sem] theorem as238 (v : Value) (W : World) : (Instr.typeAssert (.iface 238 v) 20 238 true).run Tryz.prog W = .ok (.tuple #[v, .bool true]) W := by kernel_rfl
set_option maxHeartbeats 4000000 in
set_option maxRecDepth 1000000 in
theorem caught_pan (b c : Nat) (x y : Value) (w : World) (hbc : b ≠ c) (hc : w.cell? ⟨b, 0, none⟩ = some x) (hz : w.frozen? ⟨b, 0, none⟩ = false) (hc2 : w.cell? ⟨c, 0, none⟩ = some y) (hz2 : w.frozen? ⟨c, 0, none⟩ = false) (hb : b < w.heap.size) (hcs : c < w.heap.size) :
  CallsDIn (WF none) 0 Tryz.prog 142 #[.pointer (some ⟨b, 0, none⟩), .pointer (some ⟨c, 0, none⟩)] (.panicking [{ v := .iface 238 (.agg #[]), recovered := false }]) w fun e u' w' =>
   e = .returned (.tuple #[]) ∧ u' = .panicking [{ v := .iface 238 (.agg #[]), recovered := true }] ∧ w' = ((w.setCell ⟨b, 0, none⟩ (.int .i64 0)).setCell ⟨c, 0, none⟩ (.int .i64 3)).alloc (.cells #[] 238) := by
 have k1 : (w.alloc (.cells #[] 238)).cell? ⟨b, 0, none⟩ = some x := (World.cell?_alloc_lt w _ _ hb).trans hc
 have k2 : (w.alloc (.cells #[] 238)).frozen? ⟨b, 0, none⟩ = false := (World.frozen?_alloc_old w _ _ (Nat.ne_of_lt hb)).trans hz
 have k3 : ((w.alloc (.cells #[] 238)).setCell ⟨b, 0, none⟩ (.int .i64 0)).cell? ⟨c, 0, none⟩ = some y := by
  rw [World.cell?_setCell_other _ _ _ _ (by intro h; simp only [Addr.mk.injEq] at h; omega), World.cell?_alloc_lt w _ _ hcs, hc2]
 have k4 : ((w.alloc (.cells #[] 238)).setCell ⟨b, 0, none⟩ (.int .i64 0)).frozen? ⟨c, 0, none⟩ = false := by
  rw [World.frozen?_setCell, World.frozen?_alloc_old w _ _ (Nat.ne_of_lt hcs), hz2]
 refine callsDIn_of_wpSIn Tryz.func142 rfl trivial fun c₀ cs hu => recover_then hu ?_
 refine wpIn_block ?_
 gi_wp2_with fail
 simp [bodyPostS, results, Tryz.results142]
set_option maxHeartbeats 4000000 in
set_option maxRecDepth 1000000 in
theorem caught_idle (b c : Nat) (w : World) : CallsDIn (WF none) 0 Tryz.prog 142 #[.pointer (some ⟨b, 0, none⟩), .pointer (some ⟨c, 0, none⟩)] .returning w fun e u' w' =>
   e = .returned (.tuple #[]) ∧ u' = .returning ∧ w' = w := by
 refine callsDIn_of_wpSIn Tryz.func142 rfl trivial fun c₀ cs hu => recover_none hu ?_
 refine wpIn_block ?_
 gi_wp2_with fail
 cases c₀
 simp_all [bodyPostS, results, Tryz.results142]
theorem caught_R {b c : Nat} {σ : Store} {Q : Store → Prop} (h : Q σ) : DCallR Tryz.prog 142 [.ptr b 0, .ptr c 0] σ Q := by
 intro M w vs hc hr
 match vs, hr with
 | [v1, v2], hr =>
  simp only [RAll, R] at hr
  obtain ⟨rfl, rfl, -⟩ := hr
  refine (caught_idle b c w).mono ?_
  rintro e u' w' ⟨rfl, rfl, rfl⟩
  exact ⟨_, M, σ, rfl, rfl, Step.refl M w' σ, hc, h⟩
 | [], hr => exact absurd hr (by simp [RAll])
 | [_], hr => exact absurd hr (by simp [RAll])
 | _ :: _ :: _ :: _, hr => exact absurd hr (by simp [RAll])
theorem caught_P {b c : Nat} {x y : D} {σ : Store} {Q : Store → Prop} (hbc : b ≠ c) (hx : σ.get b = some (.cells [x])) (hy : (σ.upd b (.cells [.int .i64 0])).get c = some (.cells [y])) (hy0 : σ.get c = some (.cells [y])) (h : Q ((σ.upd b (.cells [.int .i64 0])).upd c (.cells [.int .i64 3]))) : DCallP Tryz.prog 142 [.ptr b 0, .ptr c 0] σ missD Q := by
 intro M w vs u hc hr hu
 match vs, hr with
 | [v1, v2], hr =>
  simp only [RAll, R] at hr
  obtain ⟨rfl, rfl, -⟩ := hr
  obtain ⟨v, rfl, h2⟩ := hu
  simp only [R] at h2
  obtain ⟨us, rfl, h3⟩ := h2
  match us, h3 with
  | [], _ =>
   obtain ⟨⟨x', e1⟩, e2, e3⟩ := hc.cell1 hx
   obtain ⟨⟨y', e4⟩, e5, e6⟩ := hc.cell1 hy0
   refine (caught_pan b c x' y' w hbc e1 e2 e4 e5 e3 e6).mono ?_
   rintro e u' w' ⟨rfl, rfl, rfl⟩
   obtain ⟨c1, s1⟩ := hc.set1 (d := .int .i64 0) (v := .int .i64 0) hx (by simp [R, inR_i64']) rfl
   obtain ⟨c2, s2⟩ := c1.set1 (d := .int .i64 3) (v := .int .i64 3) hy (by simp [R, inR_i64']) rfl
   obtain ⟨c3, s3⟩ := c2.allocOther (.cells #[] 238)
   exact ⟨_, M, _, rfl, rfl, (s1.trans s2).trans s3, c3, h⟩
  | _ :: _, h3 => exact absurd h3 (by simp [RAll])
 | [], hr => exact absurd hr (by simp [RAll])
 | [_], hr => exact absurd hr (by simp [RAll])
 | _ :: _ :: _ :: _, hr => exact absurd hr (by simp [RAll])
end Go.Proofs.YtinhjbnljbmbcaaGreat
/- The walk of eval. Printed by a tool of our own. -/
namespace Go.Proofs.YtinhjbnljbmbcaaGreat
open Go Go.RowKit
set_option linter.unusedSimpArgs false
set_option linter.unusedVariables false
set_option maxHeartbeats 4000000
set_option maxRecDepth 100000
attribute [local go_sem] List.length_map rowAt_n nrow rowAt_t trow rowAt_i irow
attribute [local go_sem] rowAt_e rowAt_tm rowAt_dc rowAt_ru tmrow dcrow rurow
attribute [local go_sem] iD_all iD_len rw2_0 rw2_1 rw1_0 Int.toNat_one
attribute [local go_sem] ops_get ops_look
theorem eval_w (w s : Int) (vs : List Int) (hvs : vs.length = 8) (b : Nat) (hw : 0 ≤ w ∧ w ≤ 1000000) (hs : 0 ≤ s ∧ s ≤ 1000000) (e : Ex) (hN : exN e = true) : ACall Tryz.prog (.func 93) [.ag (.int .i64 w :: .int .i64 s :: vs.map iD), .ag [.int .i64 e.op, .int .i64 e.num, .sl 3 (e.kids.map erow) .no], .mp b] [(b, .map opsE)] (fun r σ' => σ' = [(b, .map opsE)] ∧ r = .ret (.tup [.int .i64 ((evE w s vs e).getD 0), .int .i64 (if (evE w s vs e).isSome = true then 0 else 3)])) := by
 have ht8 : vs.take 8 = vs := List.take_of_length_le (by omega)
 refine fnD Tryz.func93 (by rfl) (by rfl) (rs := [.cell 6 3, .cell 7 34]) (by rfl) (by simp [Tryz.f93]) (fun w vs => callFunc_enter Tryz.func142 (by rfl) (by rfl) vs) ?_
 refine rr_ [2, 3, 4, 6, 7] [3, 4] [] fun κ ξ hκ hξ => ?_
 try simp +decide only [go_sem, ht8]
 repeat with_reducible refine an_ ?_
 intro b6 hb6
 try simp +decide only [go_sem, ht8, hb6]
 repeat with_reducible refine an_ ?_
 intro b7 hb7
 try simp +decide only [go_sem, ht8, hb6, hb7]
 repeat with_reducible refine an_ ?_
 refine hκ _ _ ?_; clear hκ hξ ξ κ
 refine sq ?_
 have h76 : b7 ≠ b6 := fun h => hb7.1 h.symm
 have h67 : b6 ≠ b7 := fun h => h76 h.symm
 refine rgX [6, 7] [6, 7] [] [] fun κ ξ hκ hξ => ?_
 try simp +decide only [go_sem, ht8, hb6, hb7]
 repeat with_reducible refine an_ ?_
 refine callA ((val_w w s vs hvs b hw hs e hN).frameL [(b7, .cells [.int .i64 0]), (b6, .cells [.int .i64 0])]) ?_ (by
   rintro d σ' ⟨σ1, rfl, rfl, h1, h2⟩
   refine hξ _ _ ?_
   have hkn : evE w s vs e = none := by
     cases hv : evE w s vs e with
     | none => rfl
     | some v => cases h1 v hv
   have hd := h2 hkn
   cases hd
   refine caught_P (x := .int .i64 0) (y := .int .i64 0) h67 (by simp [Store.get, h67, h76]) (by simp [Store.get, Store.upd, h67, h76]) (by simp [Store.get, h67, h76]) ?_
   simp +decide only [go_sem, endD, resD, resV, List.cons_append, List.nil_append, Store.upd, Store.get, h67, h76, ↓reduceIte]
   exact ⟨_, ((List.Sublist.refl _).cons _).cons _, rfl, by rw [hkn]; rfl⟩)
 rintro d σ' ⟨σ1, rfl, rfl, h1, h2⟩
 obtain ⟨v, hv, rfl⟩ : ∃ v, evE w s vs e = some v ∧ d = .int .i64 v := by
  cases hv : evE w s vs e with
  | none => cases h2 hv
  | some v => cases h1 v hv; exact ⟨v, rfl, rfl⟩
 try simp +decide only [go_sem, ht8, hb6, hb7, hv, h67, h76]
 repeat with_reducible refine an_ ?_
 refine hκ _ _ ?_; clear hκ hξ ξ κ
 refine rt ?_
 refine caught_R ?_
 simp +decide only [go_sem, endD, resD, resV, Store.upd, Store.get, h67, h76, ↓reduceIte]
 exact ⟨_, ((List.Sublist.refl _).cons _).cons _, rfl, by rw [hv]; rfl⟩
end Go.Proofs.YtinhjbnljbmbcaaGreat
/- The walk of Eval. Printed by a tool of our own. -/
namespace Go.Proofs.YtinhjbnljbmbcaaGreat
open Go Go.RowKit
set_option linter.unusedSimpArgs false
set_option linter.unusedVariables false
set_option maxHeartbeats 4000000
set_option maxRecDepth 100000
def evV (w s : Int) (vs : List Int) (e : Ex) : Int × Int :=
 if (exB e = true ∧ (50 ≤ s ∧ s ≤ 300) ∧ vs.all okV = true) ∧ 0 ≤ w ∧ w ≤ 1000000 then ((evE w s vs e).getD 0, if (evE w s vs e).isSome = true then 0 else 3) else (0, 1)
attribute [local go_sem] List.length_map rowAt_n nrow rowAt_t trow rowAt_i irow
attribute [local go_sem] rowAt_e rowAt_tm rowAt_dc rowAt_ru tmrow dcrow rurow
attribute [local go_sem] iD_all iD_len rw2_0 rw2_1 rw1_0 Int.toNat_one
attribute [local go_sem] ops_get ops_look
theorem eval_R (w s : Int) (vs : List Int) (hvs : vs.length = 8) (b : Nat) (hw : 0 ≤ w ∧ w ≤ 1000000) (hs : 0 ≤ s ∧ s ≤ 1000000) (e : Ex) (hN : exN e = true) : RCall Tryz.prog (.func 93) [.ag (.int .i64 w :: .int .i64 s :: vs.map iD), .ag [.int .i64 e.op, .int .i64 e.num, .sl 3 (e.kids.map erow) .no], .mp b] [(b, .map opsE)] (fun (y : Unit) => .tup [.int .i64 ((evE w s vs e).getD 0), .int .i64 (if (evE w s vs e).isSome = true then 0 else 3)]) (fun y => [(b, .map opsE)]) (fun y => True) :=
 (eval_w w s vs hvs b hw hs e hN).mono fun r σ' ⟨h1, h2⟩ => ⟨(), trivial, h2, h1⟩
theorem ev_w (w s : Int) (vs : List Int) (hvs : vs.length = 8) (e : Ex) : PCall Tryz.prog (.func 57) [.ag [.int .i64 e.op, .int .i64 e.num, .sl 3 (e.kids.map erow) .no], .int .i64 w, .int .i64 s, .ag (vs.map iD)] (.tup [.int .i64 (evV w s vs e).1, .int .i64 (evV w s vs e).2]) := by
 have ht8 : vs.take 8 = vs := List.take_of_length_le (by omega)
 refine PCall.le ?_
 refine fn_ Tryz.func57 (by rfl) (by rfl) (rs := [.tmp 8, .tmp 9]) (by rfl) (by simp [Tryz.f57]) ?_
 refine sr_ [1, 2, 4, 7] [4, 7] [] fun κ ξ hκ hξ => ?_
 try simp +decide only [go_sem, ht8, hvs, List.append_nil]
 repeat with_reducible refine an_ ?_
 refine hκ _ _ ?_; clear hκ hξ ξ κ
 refine srz_ [(10, [])] [1, 4, 10] [] [] fun κ ξ hκ hξ => ?_
 try simp +decide only [go_sem, ht8, hvs, List.append_nil]
 repeat with_reducible refine an_ ?_
 intro b10 hb10
 try simp +decide only [go_sem, ht8, hvs, List.append_nil, hb10]
 repeat with_reducible refine an_ ?_
 refine hκ _ _ ?_; clear hκ hξ ξ κ
 refine sq ?_
 refine sr_ [4, 10, 27] [] [(3, 18), (8, 23)] fun κ ξ hκ hξ => ?_
 try simp +decide only [go_sem, ht8, hvs, List.append_nil, hb10]
 repeat with_reducible refine an_ ?_
 refine callF (vva_w e) ?_
 try simp +decide only [go_sem, ht8, hvs, List.append_nil, hb10]
 repeat with_reducible refine an_ ?_
 refine vo_gc ?_
 try simp +decide only [go_sem, ht8, hvs, List.append_nil, hb10]
 refine gcF (vri_w w s vs hvs) ?_
 try simp +decide only [go_sem, ht8, hvs, List.append_nil, hb10]
 repeat with_reducible refine an_ ?_
 refine vo_gc ?_
 try simp +decide only [go_sem, ht8, hvs, List.append_nil, hb10]
 refine gcF (vwi_w _ _ _) ?_
 try simp +decide only [go_sem, ht8, hvs, List.append_nil, hb10]
 repeat with_reducible refine an_ ?_
 refine hκ _ _ ?_; clear hκ hξ ξ κ
 refine cd_ (fun c0 => ?_) (fun c0 => ?_)
 ·simp only [go_sem] at c0
  have hE : evV w s vs e = (0, 1) := by
   unfold evV
   refine if_neg fun h => ?_
   rcases c0 with (c | c | c) | c
   ·rw [h.1.1] at c; cases c
   ·exact c h.1.2.1
   ·rw [h.1.2.2] at c; cases c
   ·exact c h.2
  refine sr_ [8, 9] [] [] fun κ ξ hκ hξ => ?_
  try simp +decide only [go_sem, ht8, hvs, List.append_nil, hb10, c0]
  repeat with_reducible refine an_ ?_
  refine hκ _ _ ?_; clear hκ hξ ξ κ
  refine rt ?_
  refine retE ?_
  simp +decide only [go_sem, resD, resV, ht8, hvs, List.append_nil, hb10, c0]
  rw [hE]
 ·simp only [go_sem] at c0
  have hE : evV w s vs e = ((evE w s vs e).getD 0, if (evE w s vs e).isSome = true then 0 else 3) := by
   unfold evV
   exact if_pos c0
  have hN : exN e = true := (Bool.and_eq_true _ _ ▸ (show (exN e && _) = true from c0.1.1)).1
  have hw := c0.2
  have hs : 0 ≤ s ∧ s ≤ 1000000 := by have := c0.1.2.1; omega
  refine sk ?_
  refine srd_ [8, 9] [] [] [] fun κ ξ hκ hξ => ?_
  try simp +decide only [go_sem, ht8, hvs, List.append_nil, hb10, c0]
  repeat with_reducible refine an_ ?_
  refine callR ops_w fun b _ => ?_
  try simp +decide only [go_sem, ht8, hvs, List.append_nil, hb10, c0]
  repeat with_reducible refine an_ ?_
  refine ⟨Ext_cons (by simp [Store.keys]), callR (eval_R w s vs hvs b hw hs e hN) fun _ _ => ?_⟩
  try simp +decide only [go_sem, ht8, hvs, List.append_nil, hb10, c0]
  repeat with_reducible refine an_ ?_
  refine hκ _ _ ?_; clear hκ hξ ξ κ
  refine rt ?_
  refine retE ?_
  simp +decide only [go_sem, resD, resV, ht8, hvs, List.append_nil, hb10, c0]
  rw [hE]
end Go.Proofs.YtinhjbnljbmbcaaGreat
