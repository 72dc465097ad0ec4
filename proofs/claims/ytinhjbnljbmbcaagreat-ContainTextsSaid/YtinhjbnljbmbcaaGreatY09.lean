/- Comparisons, readers, small functions. Printed by a tool of our own. -/
import Derived.Test.YtinhjbnljbmbcaaGreatY08
import Derived.Test.YtinhjbnljbmbcaaGreatY06
import Derived.Test.YtinhjbnljbmbcaaGreatY05
import Derived.Test.YtinhjbnljbmbcaaGreatY03
namespace Go.Proofs.YtinhjbnljbmbcaaGreat
open Go Go.RowKit
set_option linter.unusedSimpArgs false
set_option linter.unusedVariables false
set_option maxHeartbeats 4000000
set_option maxRecDepth 100000
def cmpI (x y : Int) : Int := if x < y then -1 else if y < x then 1 else 0
def cmpL : List Int → List Int → Int
 | [], [] => 0
 | [], _ :: _ => -1
 | _ :: _, [] => 1
 | x :: l, y :: m => if cmpI x y = 0 then cmpL l m else cmpI x y
theorem cmpL_step {l m : List Int} {i : Nat} (h1 : i < l.length) (h2 : i < m.length) : cmpL (l.drop i) (m.drop i) = if cmpI (l.getD i 0) (m.getD i 0) = 0 then cmpL (l.drop (i + 1)) (m.drop (i + 1)) else cmpI (l.getD i 0) (m.getD i 0) := by
 rw [List.drop_eq_getElem_cons h1, List.drop_eq_getElem_cons h2, List.getD_eq_getElem?_getD, List.getD_eq_getElem?_getD, List.getElem?_eq_getElem h1, List.getElem?_eq_getElem h2]
 rfl
theorem cmpL_left {l m : List Int} {i : Nat} (h1 : i < l.length) (h2 : m.length ≤ i) : cmpL (l.drop i) (m.drop i) = 1 := by
 rw [List.drop_eq_getElem_cons h1, List.drop_eq_nil_of_le h2]; rfl
theorem cmpL_right {l m : List Int} {i : Nat} (h1 : l.length ≤ i) (h2 : i ≤ m.length) : cmpL (l.drop i) (m.drop i) = if i < m.length then -1 else 0 := by
 rw [List.drop_eq_nil_of_le h1]
 split
 ·rename_i h; rw [List.drop_eq_getElem_cons h]; rfl
 ·rw [List.drop_eq_nil_of_le (by omega)]; rfl
def rdB (w s l : Int) : Bool := decide ((0 ≤ l ∧ l < 4) ∧ (50 ≤ s ∧ s ≤ 300) ∧ 200 ≤ w ∧ w ≤ 4000)
def isBx (n : Int) : Bool := decide (-1 ≤ n ∧ n ≤ 1000000)
attribute [local go_sem] List.length_map rowAt_n nrow rowAt_t trow rowAt_i irow
attribute [local go_sem] rowAt_e rowAt_tm rowAt_dc rowAt_ru tmrow dcrow rurow
attribute [local go_sem] iD_all iD_len rw2_0 rw2_1 rw1_0 Int.toNat_one
theorem inan_w (n : Int) : PCall Tryz.prog (.func 184) [.int .i64 n] (.bool false) := by
 refine PCall.le ?_
 refine fn_ Tryz.func184 (by rfl) (by rfl) (rs := [.tmp 2]) (by rfl) (by simp [Tryz.f184]) ?_
 refine sr_ [0] [] [] fun κ ξ hκ hξ => ?_
 try simp +decide only [go_sem]
 repeat with_reducible refine an_ ?_
 refine hκ _ _ ?_; clear hκ hξ ξ κ
 refine sr_ [2] [] [] fun κ ξ hκ hξ => ?_
 try simp +decide only [go_sem]
 repeat with_reducible refine an_ ?_
 refine hκ _ _ ?_; clear hκ hξ ξ κ
 refine rt ?_
 refine retE ?_
 simp +decide only [go_sem, resD, resV]
 
theorem cmpi_w (x y : Int) : PCall Tryz.prog (.func 138) [.int .i64 x, .int .i64 y] (.int .i64 (cmpI x y)) := by
 refine PCall.le ?_
 refine fn_ Tryz.func138 (by rfl) (by rfl) (rs := [.tmp 4]) (by rfl) (by simp [Tryz.f138]) ?_
 refine sr_ [0, 1] [] [] fun κ ξ hκ hξ => ?_
 try simp +decide only [go_sem]
 repeat with_reducible refine an_ ?_
 refine hκ _ _ ?_; clear hκ hξ ξ κ
 refine sr_ [0, 1, 5] [] [] fun κ ξ hκ hξ => ?_
 try simp +decide only [go_sem]
 repeat with_reducible refine an_ ?_
 refine callF (inan_w _) ?_
 try simp +decide only [go_sem]
 repeat with_reducible refine an_ ?_
 refine hκ _ _ ?_; clear hκ hξ ξ κ
 refine sr_ [0, 1, 5, 6] [] [] fun κ ξ hκ hξ => ?_
 try simp +decide only [go_sem]
 repeat with_reducible refine an_ ?_
 refine callF (inan_w _) ?_
 try simp +decide only [go_sem]
 repeat with_reducible refine an_ ?_
 refine hκ _ _ ?_; clear hκ hξ ξ κ
 refine sq ?_
 refine sr_ [0, 1, 6, 11] [] [] fun κ ξ hκ hξ => ?_
 try simp +decide only [go_sem]
 repeat with_reducible refine an_ ?_
 refine hκ _ _ ?_; clear hκ hξ ξ κ
 refine cdf (by rfl) ?_
 refine sk ?_
 refine sq ?_
 refine sr_ [0, 1, 13] [] [] fun κ ξ hκ hξ => ?_
 try simp +decide only [go_sem]
 repeat with_reducible refine an_ ?_
 refine hκ _ _ ?_; clear hκ hξ ξ κ
 refine cdf (by rfl) ?_
 refine sk ?_
 refine sq ?_
 refine sr_ [0, 1, 16] [] [] fun κ ξ hκ hξ => ?_
 try simp +decide only [go_sem]
 repeat with_reducible refine an_ ?_
 refine hκ _ _ ?_; clear hκ hξ ξ κ
 refine cd_ (fun c0 => ?_) (fun c0 => ?_)
 ·try simp only [go_sem] at c0
  refine sr_ [4] [] [] fun κ ξ hκ hξ => ?_
  try simp +decide only [go_sem, c0]
  repeat with_reducible refine an_ ?_
  refine hκ _ _ ?_; clear hκ hξ ξ κ
  refine rt ?_
  refine retE ?_
  simp +decide only [go_sem, resD, resV, c0]
  congr 1
  unfold cmpI
  rw [if_pos (by assumption)]
 ·try simp only [go_sem] at c0
  refine sk ?_
  refine sq ?_
  refine sr_ [19] [] [] fun κ ξ hκ hξ => ?_
  try simp +decide only [go_sem, c0]
  repeat with_reducible refine an_ ?_
  refine hκ _ _ ?_; clear hκ hξ ξ κ
  refine cd_ (fun c1 => ?_) (fun c1 => ?_)
  ·try simp only [go_sem] at c1
   refine sr_ [4] [] [] fun κ ξ hκ hξ => ?_
   try simp +decide only [go_sem, c0, c1]
   repeat with_reducible refine an_ ?_
   refine hκ _ _ ?_; clear hκ hξ ξ κ
   refine rt ?_
   refine retE ?_
   simp +decide only [go_sem, resD, resV, c0, c1]
   congr 1
   unfold cmpI
   rw [if_neg (by omega), if_pos (by omega)]
  ·try simp only [go_sem] at c1
   refine sk ?_
   refine sr_ [4] [] [] fun κ ξ hκ hξ => ?_
   try simp +decide only [go_sem, c0, c1]
   repeat with_reducible refine an_ ?_
   refine hκ _ _ ?_; clear hκ hξ ξ κ
   refine rt ?_
   refine retE ?_
   simp +decide only [go_sem, resD, resV, c0, c1]
   congr 1
   unfold cmpI
   rw [if_neg (by omega), if_neg (by omega)]
theorem scmp_w (l m : List Int) (t u : Tok) : PCall Tryz.prog (.func 89) [.sl 1 (l.map irow) t, .sl 1 (m.map irow) u] (.int .i64 (cmpL l m)) := by
 refine PCall.ok fun hok => ?_
 simp only [okAll, D.ok, okRows, and_true, true_and, lim_eq, inR_i64', inR_i32', inR_u8', inR_u16', inR_u64'] at hok
 obtain ⟨⟨hl, hr⟩, hm, hs⟩ := hok; rw [List.length_map] at hl hm
 refine PCall.le ?_
 refine fn_ Tryz.func89 (by rfl) (by rfl) (rs := [.tmp 4]) (by rfl) (by simp [Tryz.f89]) ?_
 refine sr_ [0, 1] [] [] fun κ ξ hκ hξ => ?_
 try simp +decide only [go_sem]
 repeat with_reducible refine an_ ?_
 refine hκ _ _ ?_; clear hκ hξ ξ κ
 refine sq ?_
 refine sr_ [0, 1, 9, 10, 11] [] [] fun κ ξ hκ hξ => ?_
 try simp +decide only [go_sem]
 repeat with_reducible refine an_ ?_
 refine hκ _ _ ?_; clear hκ hξ ξ κ
 refine bl ?_
 refine lp (α := Nat) (fun i => mk [(0, .sl 1 (l.map irow) t), (1, .sl 1 (m.map irow) u), (9, .sl 1 (l.map irow) t), (10, .int .i64 l.length), (11, .int .i64 i)]) (fun _ => []) (fun i => i ≤ l.length ∧ i ≤ m.length ∧ cmpL (l.drop i) (m.drop i) = cmpL l m) (fun i => l.length - i) 0 ⟨⟨by omega, by omega, rfl⟩, EnvLe.of_eq rfl, .refl _⟩ ?_
 rintro i ⟨hi, him, hj⟩
 refine sr_ [0, 1, 9, 10, 11, 12] [] [] fun κ ξ hκ hξ => ?_
 try simp +decide only [go_sem]
 repeat with_reducible refine an_ ?_
 refine hκ _ _ ?_; clear hκ hξ ξ κ
 refine sq ?_
 refine cd_ (fun c0 => ?_) (fun c0 => ?_)
 ·try simp only [go_sem] at c0
  refine sk ?_
  refine sq ?_
  refine bl ?_
  refine sr_ [0, 1, 5, 6, 9, 10, 11] [] [] fun κ ξ hκ hξ => ?_
  try simp +decide only [go_sem, c0]
  repeat with_reducible refine an_ ?_
  refine hκ _ _ ?_; clear hκ hξ ξ κ
  refine sq ?_
  refine sr_ [0, 1, 5, 6, 9, 10, 11, 19] [] [] fun κ ξ hκ hξ => ?_
  try simp +decide only [go_sem, c0]
  repeat with_reducible refine an_ ?_
  refine hκ _ _ ?_; clear hκ hξ ξ κ
  refine cd_ (fun c1 => ?_) (fun c1 => ?_)
  ·simp only [go_sem] at c1
   refine sr_ [4] [] [] fun κ ξ hκ hξ => ?_
   try simp +decide only [go_sem, c0, c1]
   repeat with_reducible refine an_ ?_
   refine hκ _ _ ?_; clear hκ hξ ξ κ
   refine rt ?_
   refine retE ?_
   simp +decide only [go_sem, resD, resV, c0, c1]
   congr 1
   rw [← hj, cmpL_left (by omega) (by omega)]
  ·simp only [go_sem] at c1
   have c1' : (i : Int) < m.length := by omega
   refine sk ?_
   refine sr_ [0, 1, 6, 7, 9, 10, 11] [] [] fun κ ξ hκ hξ => ?_
   try simp +decide only [go_sem, c0, c1, c1']
   repeat with_reducible refine an_ ?_
   refine hκ _ _ ?_; clear hκ hξ ξ κ
   refine sr_ [0, 1, 8, 9, 10, 11] [] [] fun κ ξ hκ hξ => ?_
   try simp +decide only [go_sem, c0, c1, c1']
   repeat with_reducible refine an_ ?_
   refine callF (cmpi_w _ _) ?_
   try simp +decide only [go_sem, c0, c1, c1']
   repeat with_reducible refine an_ ?_
   refine hκ _ _ ?_; clear hκ hξ ξ κ
   refine sr_ [0, 1, 8, 9, 10, 11, 28] [] [] fun κ ξ hκ hξ => ?_
   try simp +decide only [go_sem, c0, c1, c1']
   repeat with_reducible refine an_ ?_
   refine hκ _ _ ?_; clear hκ hξ ξ κ
   refine cd_ (fun c2 => ?_) (fun c2 => ?_)
   ·try simp only [go_sem] at c2
    refine sr_ [4] [] [] fun κ ξ hκ hξ => ?_
    try simp +decide only [go_sem, c0, c1, c1', c2]
    repeat with_reducible refine an_ ?_
    refine hκ _ _ ?_; clear hκ hξ ξ κ
    refine rt ?_
    refine retE ?_
    simp +decide only [go_sem, resD, resV, c0, c1, c1', c2]
    congr 1
    rw [← hj, cmpL_step (by omega) (by omega), if_neg (by simpa [iat] using c2)]
    rfl
   ·try simp only [go_sem] at c2
    refine sk ?_
    refine rr_ [0, 1, 9, 10, 11] [] [] fun κ ξ hκ hξ => ?_
    try simp +decide only [go_sem, c0, c1, c1', c2]
    repeat with_reducible refine an_ ?_
    refine hκ _ _ ?_; clear hκ hξ ξ κ
    refine ⟨i + 1, ⟨⟨by omega, by omega, ?_⟩, by omega⟩, EnvLe.of_eq (by rw [w64 (by omega)]; rfl), List.nil_sublist _⟩
    rw [← hj, cmpL_step (i := i) (by omega) (by omega), if_pos (by simpa [iat] using c2)]
 ·try simp only [go_sem] at c0
  refine ex ?_
  refine sq ?_
  refine sr_ [35] [] [] fun κ ξ hκ hξ => ?_
  try simp +decide only [go_sem, c0]
  repeat with_reducible refine an_ ?_
  refine hκ _ _ ?_; clear hκ hξ ξ κ
  refine cd_ (fun c3 => ?_) (fun c3 => ?_)
  ·try simp only [go_sem] at c3
   refine sr_ [4] [] [] fun κ ξ hκ hξ => ?_
   try simp +decide only [go_sem, c0, c3]
   repeat with_reducible refine an_ ?_
   refine hκ _ _ ?_; clear hκ hξ ξ κ
   refine rt ?_
   refine retE ?_
   simp +decide only [go_sem, resD, resV, c0, c3]
   congr 1
   rw [← hj, cmpL_right (by omega) (by omega), if_pos (by omega)]
  ·try simp only [go_sem] at c3
   refine sk ?_
   refine sr_ [4] [] [] fun κ ξ hκ hξ => ?_
   try simp +decide only [go_sem, c0, c3]
   repeat with_reducible refine an_ ?_
   refine hκ _ _ ?_; clear hκ hξ ξ κ
   refine rt ?_
   refine retE ?_
   simp +decide only [go_sem, resD, resV, c0, c3]
   congr 1
   rw [← hj, cmpL_right (by omega) (by omega), if_neg (by omega)]
theorem zwi_w (a b lo hi : Int) : PCall Tryz.prog (.func 176) [.ag [.int .i64 a, .int .i64 b], .int .i64 lo, .int .i64 hi] (.bool (decide (lo ≤ a ∧ a ≤ b ∧ b ≤ hi))) := by
 refine PCall.le ?_
 refine fn_ Tryz.func176 (by rfl) (by rfl) (rs := [.tmp 6]) (by rfl) (by simp [Tryz.f176]) ?_
 refine sr_ [1, 2, 3] [3] [] fun κ ξ hκ hξ => ?_
 try simp +decide only [go_sem]
 repeat with_reducible refine an_ ?_
 refine hκ _ _ ?_; clear hκ hξ ξ κ
 refine sr_ [6] [] [(4, 11), (11, 18)] fun κ ξ hκ hξ => ?_
 try simp +decide only [go_sem]
 repeat with_reducible refine an_ ?_
 refine hκ _ _ ?_; clear hκ hξ ξ κ
 refine rt ?_
 refine retE ?_
 simp +decide only [go_sem, resD, resV]
 all_goals congr 1
 all_goals rw [Bool.eq_iff_iff]
 all_goals simp []
 all_goals omega
theorem zva_w (l a b c d : Int) : PCall Tryz.prog (.func 128) [.ag [.int .i64 l, .int .i64 a, .int .i64 b, .int .i64 c, .int .i64 d]] (.bool (decide ((0 ≤ l ∧ l < 4) ∧ (50 ≤ a ∧ a ≤ b ∧ b ≤ 300) ∧ 200 ≤ c ∧ c ≤ d ∧ d ≤ 4000))) := by
 refine PCall.le ?_
 refine fn_ Tryz.func128 (by rfl) (by rfl) (rs := [.tmp 2]) (by rfl) (by simp [Tryz.f128]) ?_
 refine sr_ [1] [1] [] fun κ ξ hκ hξ => ?_
 try simp +decide only [go_sem]
 repeat with_reducible refine an_ ?_
 refine hκ _ _ ?_; clear hκ hξ ξ κ
 refine sr_ [2] [] [(3, 6), (8, 11), (13, 16)] fun κ ξ hκ hξ => ?_
 try simp +decide only [go_sem]
 repeat with_reducible refine an_ ?_
 refine vo_gc ?_
 try simp +decide only [go_sem]
 refine gcF (zwi_w _ _ _ _) ?_
 try simp +decide only [go_sem]
 repeat with_reducible refine an_ ?_
 refine vo_gc ?_
 try simp +decide only [go_sem]
 refine gcF (zwi_w _ _ _ _) ?_
 try simp +decide only [go_sem]
 repeat with_reducible refine an_ ?_
 refine hκ _ _ ?_; clear hκ hξ ξ κ
 refine rt ?_
 refine retE ?_
 simp +decide only [go_sem, resD, resV]
 all_goals congr 1
 all_goals rw [Bool.eq_iff_iff]
 all_goals simp []
 all_goals omega
theorem zon_w (w s l : Int) : PCall Tryz.prog (.func 129) [.ag [.int .i64 w, .int .i64 s, .int .i64 l]] (.ag [.int .i64 l, .int .i64 s, .int .i64 s, .int .i64 w, .int .i64 w]) := by
 refine PCall.le ?_
 refine fn_ Tryz.func129 (by rfl) (by rfl) (rs := [.cell 2 189]) (by rfl) (by simp [Tryz.f129]) ?_
 refine sr_ [1, 2] [1] [] fun κ ξ hκ hξ => ?_
 try simp +decide only [go_sem]
 repeat with_reducible refine an_ ?_
 intro b2 hb2
 try simp +decide only [go_sem, hb2]
 repeat with_reducible refine an_ ?_
 refine hκ _ _ ?_; clear hκ hξ ξ κ
 refine sr_ [2] [] [] fun κ ξ hκ hξ => ?_
 try simp +decide only [go_sem, hb2]
 repeat with_reducible refine an_ ?_
 refine hκ _ _ ?_; clear hκ hξ ξ κ
 refine rt ?_
 refine retE ?_
 simp +decide only [go_sem, resD, resV, hb2]
 
theorem ifz_w (t : Tok) (f : D) : PCall Tryz.prog (.func 177) [.sl 0 [] t, f] (.int .i64 (-1)) := by
 refine PCall.le ?_
 refine fn_ Tryz.func177 (by rfl) (by rfl) (rs := [.tmp 4]) (by rfl) (by simp [Tryz.f177]) ?_
 refine sr_ [0, 1] [] [] fun κ ξ hκ hξ => ?_
 try simp +decide only [go_sem]
 repeat with_reducible refine an_ ?_
 refine hκ _ _ ?_; clear hκ hξ ξ κ
 refine sq ?_
 refine sr_ [0, 1, 7, 8] [] [] fun κ ξ hκ hξ => ?_
 try simp +decide only [go_sem]
 repeat with_reducible refine an_ ?_
 refine hκ _ _ ?_; clear hκ hξ ξ κ
 refine bl ?_
 refine lpN 1 ?_
 refine rnd ?_
 refine sr_ [0, 1, 7, 8, 9] [] [] fun κ ξ hκ hξ => ?_
 try simp +decide only [go_sem]
 repeat with_reducible refine an_ ?_
 refine hκ _ _ ?_; clear hκ hξ ξ κ
 refine sq ?_
 refine cdf (by rfl) ?_
 refine ex ?_
 refine sr_ [4] [] [] fun κ ξ hκ hξ => ?_
 try simp +decide only [go_sem]
 repeat with_reducible refine an_ ?_
 refine hκ _ _ ?_; clear hκ hξ ξ κ
 refine rt ?_
 refine retE ?_
 simp +decide only [go_sem, resD, resV]
 
theorem cfz_w (t : Tok) (f : D) : PCall Tryz.prog (.func 130) [.sl 0 [] t, f] (.bool false) := by
 refine PCall.le ?_
 refine fn_ Tryz.func130 (by rfl) (by rfl) (rs := [.tmp 4]) (by rfl) (by simp [Tryz.f130]) ?_
 refine sr_ [0, 1] [] [] fun κ ξ hκ hξ => ?_
 try simp +decide only [go_sem]
 repeat with_reducible refine an_ ?_
 refine hκ _ _ ?_; clear hκ hξ ξ κ
 refine sr_ [4] [] [] fun κ ξ hκ hξ => ?_
 try simp +decide only [go_sem]
 repeat with_reducible refine an_ ?_
 refine callF (ifz_w _ _) ?_
 try simp +decide only [go_sem]
 repeat with_reducible refine an_ ?_
 refine hκ _ _ ?_; clear hκ hξ ξ κ
 refine rt ?_
 refine retE ?_
 simp +decide only [go_sem, resD, resV]
 
theorem zvl_w (t : Tok) : PCall Tryz.prog (.func 127) [.sl 0 [] t] (.bool true) := by
 refine PCall.le ?_
 refine fn_ Tryz.func127 (by rfl) (by rfl) (rs := [.tmp 2]) (by rfl) (by simp [Tryz.f127]) ?_
 refine sr_ [0] [] [] fun κ ξ hκ hξ => ?_
 try simp +decide only [go_sem]
 repeat with_reducible refine an_ ?_
 refine hκ _ _ ?_; clear hκ hξ ξ κ
 refine sr_ [2] [] [(3, 6)] fun κ ξ hκ hξ => ?_
 try simp +decide only [go_sem]
 repeat with_reducible refine an_ ?_
 refine vo_gc ?_
 try simp +decide only [go_sem]
 refine gcF (cfz_w _ _) ?_
 try simp +decide only [go_sem]
 repeat with_reducible refine an_ ?_
 refine hκ _ _ ?_; clear hκ hξ ξ κ
 refine rt ?_
 refine retE ?_
 simp +decide only [go_sem, resD, resV]
 
theorem zhs_w (t : Tok) (w s l : Int) : PCall Tryz.prog (.func 83) [.sl 0 [] t, .ag [.int .i64 w, .int .i64 s, .int .i64 l]] (.tup [.bool false, .int .i64 (if rdB w s l = true then 0 else 1)]) := by
 refine PCall.le ?_
 refine fn_ Tryz.func83 (by rfl) (by rfl) (rs := [.tmp 4, .tmp 5]) (by rfl) (by simp [Tryz.f83]) ?_
 refine sr_ [0, 3] [3] [] fun κ ξ hκ hξ => ?_
 try simp +decide only [go_sem]
 repeat with_reducible refine an_ ?_
 refine hκ _ _ ?_; clear hκ hξ ξ κ
 refine sq ?_
 refine sr_ [0, 3, 14] [] [(3, 9)] fun κ ξ hκ hξ => ?_
 try simp +decide only [go_sem]
 repeat with_reducible refine an_ ?_
 refine callF (zvl_w _) ?_
 try simp +decide only [go_sem]
 repeat with_reducible refine an_ ?_
 refine vo_gc ?_
 try simp +decide only [go_sem]
 refine gcF (zon_w _ _ _) ?_
 try simp +decide only [go_sem]
 repeat with_reducible refine an_ ?_
 refine vo_gc ?_
 try simp +decide only [go_sem]
 refine gcF (zva_w _ _ _ _ _) ?_
 try simp +decide only [go_sem]
 repeat with_reducible refine an_ ?_
 refine hκ _ _ ?_; clear hκ hξ ξ κ
 refine cd_ (fun c0 => ?_) (fun c0 => ?_)
 ·try simp only [go_sem] at c0
  refine sr_ [4, 5] [] [] fun κ ξ hκ hξ => ?_
  try simp +decide only [go_sem, c0]
  repeat with_reducible refine an_ ?_
  refine hκ _ _ ?_; clear hκ hξ ξ κ
  refine rt ?_
  refine retE ?_
  simp +decide only [go_sem, resD, resV, c0]
  rw [if_neg (by unfold rdB; simp; omega)]
 ·try simp only [go_sem] at c0
  refine sk ?_
  refine sr_ [4, 5] [] [] fun κ ξ hκ hξ => ?_
  try simp +decide only [go_sem, c0]
  repeat with_reducible refine an_ ?_
  refine callF (cfz_w _ _) ?_
  try simp +decide only [go_sem, c0]
  repeat with_reducible refine an_ ?_
  refine hκ _ _ ?_; clear hκ hξ ξ κ
  refine rt ?_
  refine retE ?_
  simp +decide only [go_sem, resD, resV, c0]
  rw [if_pos (by unfold rdB; simp; omega)]
theorem crd_w (w s l : Int) : PCall Tryz.prog (.func 49) [.ag [.int .i64 w, .int .i64 s, .int .i64 l]] (.bool (rdB w s l)) := by
 refine PCall.le ?_
 refine fn_ Tryz.func49 (by rfl) (by rfl) (rs := [.tmp 2]) (by rfl) (by simp [Tryz.f49]) ?_
 refine sr_ [1] [1] [] fun κ ξ hκ hξ => ?_
 try simp +decide only [go_sem]
 repeat with_reducible refine an_ ?_
 refine hκ _ _ ?_; clear hκ hξ ξ κ
 refine sr_ [4] [] [] fun κ ξ hκ hξ => ?_
 try simp +decide only [go_sem]
 repeat with_reducible refine an_ ?_
 refine callF (zhs_w _ _ _ _) ?_
 try simp +decide only [go_sem]
 repeat with_reducible refine an_ ?_
 refine hκ _ _ ?_; clear hκ hξ ξ κ
 refine sr_ [2] [] [] fun κ ξ hκ hξ => ?_
 try simp +decide only [go_sem]
 repeat with_reducible refine an_ ?_
 refine hκ _ _ ?_; clear hκ hξ ξ κ
 refine rt ?_
 refine retE ?_
 simp +decide only [go_sem, resD, resV]
 all_goals congr 1
 all_goals rw [Bool.eq_iff_iff]
 all_goals simp [rdB]
 all_goals omega
theorem drd_w (w s l : Int) : PCall Tryz.prog (.func 86) [.ag [.int .i64 w, .int .i64 s, .int .i64 l]] (.bool (rdB w s l)) := by
 refine PCall.le ?_
 refine fn_ Tryz.func86 (by rfl) (by rfl) (rs := [.tmp 2]) (by rfl) (by simp [Tryz.f86]) ?_
 refine sr_ [1] [1] [] fun κ ξ hκ hξ => ?_
 try simp +decide only [go_sem]
 repeat with_reducible refine an_ ?_
 refine hκ _ _ ?_; clear hκ hξ ξ κ
 refine sr_ [4] [] [] fun κ ξ hκ hξ => ?_
 try simp +decide only [go_sem]
 repeat with_reducible refine an_ ?_
 refine callF (zhs_w _ _ _ _) ?_
 try simp +decide only [go_sem]
 repeat with_reducible refine an_ ?_
 refine hκ _ _ ?_; clear hκ hξ ξ κ
 refine sr_ [2] [] [] fun κ ξ hκ hξ => ?_
 try simp +decide only [go_sem]
 repeat with_reducible refine an_ ?_
 refine hκ _ _ ?_; clear hκ hξ ξ κ
 refine rt ?_
 refine retE ?_
 simp +decide only [go_sem, resD, resV]
 all_goals congr 1
 all_goals rw [Bool.eq_iff_iff]
 all_goals simp [rdB]
 all_goals omega
theorem rrd_w (w s l : Int) : PCall Tryz.prog (.func 50) [.ag [.int .i64 w, .int .i64 s, .int .i64 l]] (.bool (rdB w s l)) := by
 refine PCall.le ?_
 refine fn_ Tryz.func50 (by rfl) (by rfl) (rs := [.tmp 2]) (by rfl) (by simp [Tryz.f50]) ?_
 refine sr_ [1] [1] [] fun κ ξ hκ hξ => ?_
 try simp +decide only [go_sem]
 repeat with_reducible refine an_ ?_
 refine hκ _ _ ?_; clear hκ hξ ξ κ
 refine sr_ [2] [] [(3, 6), (8, 11), (13, 16), (18, 21), (23, 26)] fun κ ξ hκ hξ => ?_
 try simp +decide only [go_sem]
 repeat with_reducible refine an_ ?_
 refine hκ _ _ ?_; clear hκ hξ ξ κ
 refine rt ?_
 refine retE ?_
 simp +decide only [go_sem, resD, resV]
 all_goals congr 1
 all_goals rw [Bool.eq_iff_iff]
 all_goals simp [rdB]
 all_goals omega
theorem flag_w (n : Int) : PCall Tryz.prog (.func 85) [.int .i64 n] (.int .i64 (if n = 0 then 0 else 1)) := by
 refine PCall.le ?_
 refine fn_ Tryz.func85 (by rfl) (by rfl) (rs := [.tmp 2]) (by rfl) (by simp [Tryz.f85]) ?_
 refine sr_ [0] [] [] fun κ ξ hκ hξ => ?_
 try simp +decide only [go_sem]
 repeat with_reducible refine an_ ?_
 refine hκ _ _ ?_; clear hκ hξ ξ κ
 refine sq ?_
 refine sr_ [4] [] [] fun κ ξ hκ hξ => ?_
 try simp +decide only [go_sem]
 repeat with_reducible refine an_ ?_
 refine hκ _ _ ?_; clear hκ hξ ξ κ
 refine cd_ (fun c0 => ?_) (fun c0 => ?_)
 ·try simp only [go_sem] at c0
  refine sr_ [2] [] [] fun κ ξ hκ hξ => ?_
  try simp +decide only [go_sem, c0]
  repeat with_reducible refine an_ ?_
  refine hκ _ _ ?_; clear hκ hξ ξ κ
  refine rt ?_
  refine retE ?_
  simp +decide only [go_sem, resD, resV, c0]
  all_goals simp [*]
 ·try simp only [go_sem] at c0
  refine sk ?_
  refine sr_ [2] [] [] fun κ ξ hκ hξ => ?_
  try simp +decide only [go_sem, c0]
  repeat with_reducible refine an_ ?_
  refine hκ _ _ ?_; clear hκ hξ ξ κ
  refine rt ?_
  refine retE ?_
  simp +decide only [go_sem, resD, resV, c0]
  all_goals simp [*]
theorem isbox_w (n : Int) : PCall Tryz.prog (.func 87) [.int .i64 n] (.bool (isBx n)) := by
 refine PCall.le ?_
 refine fn_ Tryz.func87 (by rfl) (by rfl) (rs := [.tmp 2]) (by rfl) (by simp [Tryz.f87]) ?_
 refine sr_ [0] [] [] fun κ ξ hκ hξ => ?_
 try simp +decide only [go_sem]
 repeat with_reducible refine an_ ?_
 refine hκ _ _ ?_; clear hκ hξ ξ κ
 refine sr_ [2] [] [] fun κ ξ hκ hξ => ?_
 try simp +decide only [go_sem]
 repeat with_reducible refine an_ ?_
 refine callF (cwi_w _ _ _) ?_
 try simp +decide only [go_sem]
 repeat with_reducible refine an_ ?_
 refine hκ _ _ ?_; clear hκ hξ ξ κ
 refine rt ?_
 refine retE ?_
 simp +decide only [go_sem, resD, resV]
 rfl
end Go.Proofs.YtinhjbnljbmbcaaGreat
/- Rows may be told with less; arguments too. -/
namespace Go.Proofs.YtinhjbnljbmbcaaGreat
open Go Go.RowKit
theorem RCells.le {M : Mem} : ∀ {cs cs' : List D} {b o : Nat}, DsLe cs cs' → RCells M cs' b o → RCells M cs b o
 | [], _, _, _, _, _ => by simp only [RCells]
 | c :: cs, [], _, _, h, _ => by simp [DsLe] at h
 | c :: cs, c' :: cs', b, o, h, hr => by
  simp only [DsLe] at h
  simp only [RCells] at hr ⊢
  obtain ⟨⟨x, h1, h2⟩, h3⟩ := hr
  exact ⟨⟨x, h1, h.1 _ _ h2⟩, RCells.le h.2 h3⟩
theorem DsLe.len : ∀ {cs cs' : List D}, DsLe cs cs' → cs.length = cs'.length
 | [], [], _ => rfl
 | [], _ :: _, h => by simp [DsLe] at h
 | _ :: _, [], h => by simp [DsLe] at h
 | _ :: _, _ :: _, h => by simp only [DsLe] at h; simp [DsLe.len h.2]
def RowsLe : List (List D) → List (List D) → Prop
 | [], [] => True
 | r :: rs, r' :: rs' => DsLe r r' ∧ RowsLe rs rs'
 | _, _ => False
theorem RowsLe.len : ∀ {rs rs' : List (List D)}, RowsLe rs rs' → rs.length = rs'.length
 | [], [], _ => rfl
 | [], _ :: _, h => by simp [RowsLe] at h
 | _ :: _, [], h => by simp [RowsLe] at h
 | _ :: _, _ :: _, h => by simp only [RowsLe] at h; simp [RowsLe.len h.2]
theorem RRows.le {M : Mem} {sz : Nat} : ∀ {rs rs' : List (List D)} {b o : Nat}, RowsLe rs rs' → RRows M sz rs' b o → RRows M sz rs b o
 | [], _, _, _, _, _ => by simp only [RRows]
 | _ :: _, [], _, _, h, _ => by simp [RowsLe] at h
 | r :: rs, r' :: rs', b, o, h, hr => by
  simp only [RowsLe] at h
  simp only [RRows] at hr ⊢
  exact ⟨h.1.len.trans hr.1, RCells.le h.1 hr.2.1, RRows.le h.2 hr.2.2⟩
theorem DLe.rows {sz : Nat} {rs rs' : List (List D)} {t : Tok} (h : RowsLe rs rs') : DLe (.sl sz rs .no) (.sl sz rs' t) := by
 intro M v hr
 simp only [R] at hr ⊢
 obtain ⟨p, cap, h1, h2, h3, h4, h5⟩ := hr
 rw [← h.len] at h1 h2 h3
 refine ⟨p, cap, h1, h2, h3, fun hn => ?_, trivial⟩
 obtain ⟨b, o, e, hr⟩ := h4 (by intro e; have := h.len; rw [e] at this; exact hn (List.eq_nil_of_length_eq_zero this))
 exact ⟨b, o, e, RRows.le h hr⟩
theorem ACall.args {P : Program} {f : Fn} {ys xs : List D} {σ : Store} {Q : Res → Store → Prop} (h : ACall P f ys σ Q) (hl : DsLe ys xs) : ACall P f xs σ Q := fun M w vs hc hr => h M w vs hc (hl.R hr)
theorem PCall.args {P : Program} {f : Fn} {ys xs : List D} {d : D} (h : PCall P f ys d) (hl : DsLe ys xs) : PCall P f xs d := ACall.args h hl
theorem callFc {P : Program} {σ : Store} {g : Nat} {fs cs xs : List D} {d : D} {K X : D → Store → Prop} (h : PCall P (.func g) (fs ++ xs ++ cs) d) (hk : K d σ) : CallK P (.fn (.func g) fs cs) xs K X σ := by
 unfold CallK
 exact ⟨fun e => by simp [isYield] at e, .inl ⟨d, h, hk⟩⟩
end Go.Proofs.YtinhjbnljbmbcaaGreat
/- Terms that hold. Printed by a tool of our own. -/
namespace Go.Proofs.YtinhjbnljbmbcaaGreat
open Go Go.RowKit
set_option linter.unusedSimpArgs false
set_option linter.unusedVariables false
set_option maxHeartbeats 4000000
set_option maxRecDepth 100000
def askB (o : Int) : Bool := decide (o = 1 ∨ o = 2 ∨ o = 3 ∨ o = 4 ∨ o = 6 ∨ o = 7)
def askV (w s b o : Int) : Int := if o = 1 ∨ o = 2 then w else if o = 3 ∨ o = 4 then s else b
def asksE (w s b : Int) : List (D × D) := [(.int .i64 1, .int .i64 w), (.int .i64 2, .int .i64 w), (.int .i64 3, .int .i64 s), (.int .i64 4, .int .i64 s), (.int .i64 6, .int .i64 b), (.int .i64 7, .int .i64 b)]
theorem asks_get (w s b o : Int) : mget (.int .i64 o) (asksE w s b) = some (if askB o = true then some (.int .i64 (askV w s b o)) else none) := by
 by_cases h : o = 1 ∨ o = 2 ∨ o = 3 ∨ o = 4 ∨ o = 6 ∨ o = 7
 ·rcases h with rfl | rfl | rfl | rfl | rfl | rfl <;> rfl
 ·rw [if_neg (by unfold askB; rw [decide_eq_true_eq]; exact h)]
  simp only [not_or] at h
  simp [asksE, mget, keqD, h.1, h.2.1, h.2.2.1, h.2.2.2.1, h.2.2.2.2.1, h.2.2.2.2.2]
theorem asks_look (w s b o : Int) : lookD true (.int .i64 0) (if askB o = true then some (.int .i64 (askV w s b o)) else none) = .tup [.int .i64 (if askB o = true then askV w s b o else 0), .bool (askB o)] := by
 cases h : askB o <;> rfl
def hdB (t : Tm) (w s l b : Int) : Bool :=
 if askB t.what = true then (if 6 ≤ t.what ∧ b < 0 then false else if t.what = 1 ∨ t.what = 3 ∨ t.what = 6 then decide (askV w s b t.what < t.n) else decide (t.n ≤ askV w s b t.what)) else decide (l = t.n)
def conB (l : List Tm) : Bool := decide (l.length ≤ 8) && l.all tmB
theorem con_one (l : List Tm) : rulesB [⟨0, [ts0], l, []⟩] = conB l := by
 have h : selB [ts0] = true := by decide
 simp [rulesB, ruB, conB, h]
theorem fix_any {α : Type} (p : α → Bool) (d : α) (l : List α) : decide (0 ≤ fixI p l) = l.any p := by
 have h := fix_all (fun x => !p x) d l
 simp only [Bool.not_not] at h
 rw [h, List.not_all_eq_any_not]
 congr 1
 funext x
 exact Bool.not_not _
attribute [local go_sem] List.length_map rowAt_n nrow rowAt_t trow rowAt_i irow
attribute [local go_sem] rowAt_e rowAt_tm rowAt_dc rowAt_ru tmrow dcrow rurow
attribute [local go_sem] iD_all iD_len rw2_0 rw2_1 rw1_0 Int.toNat_one
attribute [local go_sem] asks_get asks_look
theorem clip_w (a b : Int) : PCall Tryz.prog (.func 84) [.int .i64 a, .int .i64 b] (.fn (.func 133) [] [.el [.int .i64 a], .el [.int .i64 b]]) := by
 refine PCall.le ?_
 refine fn_ Tryz.func84 (by rfl) (by rfl) (rs := [.tmp 4]) (by rfl) (by simp [Tryz.f84]) ?_
 refine sr_ [2, 3] [2, 3] [] fun κ ξ hκ hξ => ?_
 try simp +decide only [go_sem]
 repeat with_reducible refine an_ ?_
 refine hκ _ _ ?_; clear hκ hξ ξ κ
 refine sr_ [4] [] [] fun κ ξ hκ hξ => ?_
 try simp +decide only [go_sem]
 repeat with_reducible refine an_ ?_
 refine hκ _ _ ?_; clear hκ hξ ξ κ
 refine rt ?_
 refine retE ?_
 simp +decide only [go_sem, resD, resV]
 
theorem clp_w (n a b : Int) : PCall Tryz.prog (.func 133) [.int .i64 n, .el [.int .i64 a], .el [.int .i64 b]] (.int .i64 (mnI (mxI n a) b)) := by
 refine PCall.le ?_
 refine fn_ Tryz.func133 (by rfl) (by rfl) (rs := [.tmp 4]) (by rfl) (by simp [Tryz.f133]) ?_
 refine sr_ [0, 1, 2] [] [] fun κ ξ hκ hξ => ?_
 try simp +decide only [go_sem]
 repeat with_reducible refine an_ ?_
 refine hκ _ _ ?_; clear hκ hξ ξ κ
 refine sr_ [4] [] [] fun κ ξ hκ hξ => ?_
 try simp +decide only [go_sem]
 repeat with_reducible refine an_ ?_
 refine hκ _ _ ?_; clear hκ hξ ξ κ
 refine rt ?_
 refine retE ?_
 simp +decide only [go_sem, resD, resV]
 
theorem hlds_w (t : Tm) (w s lg bx : Int) : PCall Tryz.prog (.func 182) [.ag (tmrow t), .ag [.int .i64 w, .int .i64 s, .int .i64 lg], .int .i64 bx] (.bool (hdB t w s lg bx)) := by
 refine PCall.le ?_
 refine fn_ Tryz.func182 (by rfl) (by rfl) (rs := [.tmp 6]) (by rfl) (by simp [Tryz.f182]) ?_
 refine sr_ [2, 3, 4] [3, 4] [] fun κ ξ hκ hξ => ?_
 try simp +decide only [go_sem]
 repeat with_reducible refine an_ ?_
 refine hκ _ _ ?_; clear hκ hξ ξ κ
 refine sr_ [2, 3, 4, 7] [] [] fun κ ξ hκ hξ => ?_
 try simp +decide only [go_sem]
 repeat with_reducible refine an_ ?_
 intro b10 hb10
 try simp +decide only [go_sem, hb10]
 repeat with_reducible refine an_ ?_
 refine hκ _ _ ?_; clear hκ hξ ξ κ
 refine weak _ (EnvLe.refl _) (σ' := [(b10, .map (asksE w s bx))]) (.refl _) ?_
 refine sr_ [2, 3, 4, 8, 9] [] [] fun κ ξ hκ hξ => ?_
 try simp +decide only [go_sem, hb10]
 repeat with_reducible refine an_ ?_
 refine hκ _ _ ?_; clear hκ hξ ξ κ
 refine sq ?_
 refine bl ?_
 refine sr_ [2, 3, 4, 8, 29] [] [] fun κ ξ hκ hξ => ?_
 try simp +decide only [go_sem, hb10]
 repeat with_reducible refine an_ ?_
 refine hκ _ _ ?_; clear hκ hξ ξ κ
 refine cd_ (fun c0 => ?_) (fun c0 => ?_)
 ·try simp only [go_sem] at c0
  refine sr_ [6] [] [] fun κ ξ hκ hξ => ?_
  try simp +decide only [go_sem, hb10, c0]
  repeat with_reducible refine an_ ?_
  refine hκ _ _ ?_; clear hκ hξ ξ κ
  refine rt ?_
  refine retE ?_
  simp +decide only [go_sem, resD, resV, hb10, c0]
  congr 1
  unfold hdB
  rw [if_neg (by rw [c0]; simp)]
 ·try simp only [go_sem] at c0
  refine sr_ [3, 8, 37] [] [(3, 41)] fun κ ξ hκ hξ => ?_
  try simp +decide only [go_sem, hb10, c0]
  repeat with_reducible refine an_ ?_
  refine hκ _ _ ?_; clear hκ hξ ξ κ
  refine cd_ (fun c1 => ?_) (fun c1 => ?_)
  ·try simp only [go_sem] at c1
   refine sr_ [6] [] [] fun κ ξ hκ hξ => ?_
   try simp +decide only [go_sem, hb10, c0, c1]
   repeat with_reducible refine an_ ?_
   refine hκ _ _ ?_; clear hκ hξ ξ κ
   refine rt ?_
   refine retE ?_
   simp +decide only [go_sem, resD, resV, hb10, c0, c1]
   congr 1
   unfold hdB
   rw [if_pos c0, if_pos c1]
  ·try simp only [go_sem] at c1
   refine sr_ [3, 8, 45] [] [(3, 49), (8, 54)] fun κ ξ hκ hξ => ?_
   try simp +decide only [go_sem, hb10, c0, c1]
   repeat with_reducible refine an_ ?_
   refine hκ _ _ ?_; clear hκ hξ ξ κ
   refine cd_ (fun c2 => ?_) (fun c2 => ?_)
   ·try simp only [go_sem] at c2
    refine sr_ [6] [] [] fun κ ξ hκ hξ => ?_
    try simp +decide only [go_sem, hb10, c0, c1, c2]
    repeat with_reducible refine an_ ?_
    refine hκ _ _ ?_; clear hκ hξ ξ κ
    refine rt ?_
    refine retE ?_
    simp +decide only [go_sem, resD, resV, hb10, c0, c1, c2]
    congr 1
    unfold hdB
    rw [if_pos c0, if_neg (by omega), if_pos (by omega)]
   ·try simp only [go_sem] at c2
    refine sk ?_
    refine sr_ [6] [] [] fun κ ξ hκ hξ => ?_
    try simp +decide only [go_sem, hb10, c0, c1, c2]
    repeat with_reducible refine an_ ?_
    refine hκ _ _ ?_; clear hκ hξ ξ κ
    refine rt ?_
    refine retE ?_
    simp +decide only [go_sem, resD, resV, hb10, c0, c1, c2]
    congr 1
    unfold hdB
    rw [if_pos c0, if_neg (by omega), if_neg (by omega)]
theorem hl1_w (t : Tm) (w s lg bx : Int) : PCall Tryz.prog (.func 181) [.ag (tmrow t), .el [.int .i64 w, .int .i64 s, .int .i64 lg], .el [.int .i64 bx]] (.bool (!hdB t w s lg bx)) := by
 refine PCall.le ?_
 refine fn_ Tryz.func181 (by rfl) (by rfl) (rs := [.tmp 4]) (by rfl) (by simp [Tryz.f181]) ?_
 refine sr_ [1, 2, 3] [3] [] fun κ ξ hκ hξ => ?_
 try simp +decide only [go_sem]
 repeat with_reducible refine an_ ?_
 refine hκ _ _ ?_; clear hκ hξ ξ κ
 refine sr_ [4] [] [] fun κ ξ hκ hξ => ?_
 try simp +decide only [go_sem]
 repeat with_reducible refine an_ ?_
 refine callF (hlds_w _ _ _ _ _) ?_
 try simp +decide only [go_sem]
 repeat with_reducible refine an_ ?_
 refine hκ _ _ ?_; clear hκ hξ ξ κ
 refine rt ?_
 refine retE ?_
 simp +decide only [go_sem, resD, resV]
 
theorem ift2_w (F : D) (p : Tm → Bool) (hF : ∀ (x : Tm) (σ : Store) (K X : D → Store → Prop), K (.bool (p x)) σ → CallK Tryz.prog F [.ag (tmrow x)] K X σ) (l : List Tm) (t : Tok) : PCall Tryz.prog (.func 167) [.sl 2 (l.map tmrow) t, F] (.int .i64 (fixI p l)) := by
 refine PCall.ok fun hok => ?_
 simp only [okAll, D.ok, okRows, and_true, true_and, lim_eq, inR_i64', inR_i32', inR_u8', inR_u16', inR_u64'] at hok
 have hl := hok.1.1; rw [List.length_map] at hl
 refine PCall.le ?_
 refine fn_ Tryz.func167 (by rfl) (by rfl) (rs := [.tmp 4]) (by rfl) (by simp [Tryz.f167]) ?_
 refine sr_ [0, 1] [] [] fun κ ξ hκ hξ => ?_
 try simp +decide only [go_sem]
 repeat with_reducible refine an_ ?_
 refine hκ _ _ ?_; clear hκ hξ ξ κ
 refine sq ?_
 refine sr_ [0, 1, 7, 8] [] [] fun κ ξ hκ hξ => ?_
 try simp +decide only [go_sem]
 repeat with_reducible refine an_ ?_
 refine hκ _ _ ?_; clear hκ hξ ξ κ
 refine bl ?_
 refine lp (α := Nat) (fun i => mk [(0, .sl 2 (l.map tmrow) t), (1, F), (7, .int .i64 l.length), (8, .int .i64 i)]) (fun _ => []) (fun i => i ≤ l.length ∧ ∀ j, j < i → p (tmat l j) = false) (fun i => l.length - i) 0 ⟨⟨by omega, by intro j hj; omega⟩, EnvLe.of_eq rfl, .refl _⟩ ?_
 rintro i ⟨hi, hj⟩
 refine sr_ [0, 1, 7, 8, 9] [] [] fun κ ξ hκ hξ => ?_
 try simp +decide only [go_sem]
 repeat with_reducible refine an_ ?_
 refine hκ _ _ ?_; clear hκ hξ ξ κ
 refine sq ?_
 refine cd_ (fun c0 => ?_) (fun c0 => ?_)
 ·try simp only [go_sem] at c0
  refine sk ?_
  refine sq ?_
  refine bl ?_
  refine sr_ [0, 1, 5, 7, 8] [] [] fun κ ξ hκ hξ => ?_
  try simp +decide only [go_sem, c0]
  repeat with_reducible refine an_ ?_
  refine hκ _ _ ?_; clear hκ hξ ξ κ
  refine sr_ [0, 1, 5, 7, 8, 16] [] [] fun κ ξ hκ hξ => ?_
  try simp +decide only [go_sem, c0]
  repeat with_reducible refine an_ ?_
  refine hF _ _ _ _ ?_
  try simp +decide only [go_sem, c0]
  repeat with_reducible refine an_ ?_
  refine hκ _ _ ?_; clear hκ hξ ξ κ
  refine cd_ (fun c1 => ?_) (fun c1 => ?_)
  ·try simp only [go_sem] at c1
   refine sr_ [4] [] [] fun κ ξ hκ hξ => ?_
   try simp +decide only [go_sem, c0, c1]
   repeat with_reducible refine an_ ?_
   refine hκ _ _ ?_; clear hκ hξ ξ κ
   refine rt ?_
   refine retE ?_
   simp +decide only [go_sem, resD, resV, c0, c1]
   congr 1
   rw [fixI_some (p := p) (d := tm0) (i := i) (by omega) (by simpa [tmat] using c1) fun j h => by simpa [tmat] using hj j h]
  ·try simp only [go_sem] at c1
   refine sk ?_
   refine rr_ [0, 1, 7, 8] [] [] fun κ ξ hκ hξ => ?_
   try simp +decide only [go_sem, c0, c1]
   repeat with_reducible refine an_ ?_
   refine hκ _ _ ?_; clear hκ hξ ξ κ
   refine ⟨i + 1, ⟨⟨by omega, ?_⟩, by omega⟩, EnvLe.of_eq (by rw [w64 (by omega)]; rfl), List.nil_sublist _⟩
   intro j h
   rcases Nat.lt_succ_iff_lt_or_eq.1 h with h | rfl
   ·exact hj j h
   ·first | assumption | simpa using c1
 ·try simp only [go_sem] at c0
  refine ex ?_
  refine sr_ [4] [] [] fun κ ξ hκ hξ => ?_
  try simp +decide only [go_sem, c0]
  repeat with_reducible refine an_ ?_
  refine hκ _ _ ?_; clear hκ hξ ξ κ
  refine rt ?_
  refine retE ?_
  simp +decide only [go_sem, resD, resV, c0]
  congr 1
  rw [fixI_none (p := p) (d := tm0) fun j h => by simpa [tmat] using hj j (by omega)]
theorem cft2_w (F : D) (p : Tm → Bool) (hF : ∀ (x : Tm) (σ : Store) (K X : D → Store → Prop), K (.bool (p x)) σ → CallK Tryz.prog F [.ag (tmrow x)] K X σ) (l : List Tm) (t : Tok) : PCall Tryz.prog (.func 111) [.sl 2 (l.map tmrow) t, F] (.bool (l.any p)) := by
 refine PCall.le ?_
 refine fn_ Tryz.func111 (by rfl) (by rfl) (rs := [.tmp 4]) (by rfl) (by simp [Tryz.f111]) ?_
 refine sr_ [0, 1] [] [] fun κ ξ hκ hξ => ?_
 try simp +decide only [go_sem]
 repeat with_reducible refine an_ ?_
 refine hκ _ _ ?_; clear hκ hξ ξ κ
 refine sr_ [4] [] [] fun κ ξ hκ hξ => ?_
 try simp +decide only [go_sem]
 repeat with_reducible refine an_ ?_
 refine callF (ift2_w F p hF _ _) ?_
 try simp +decide only [go_sem]
 repeat with_reducible refine an_ ?_
 refine hκ _ _ ?_; clear hκ hξ ξ κ
 refine rt ?_
 refine retE ?_
 simp +decide only [go_sem, resD, resV]
 all_goals congr 1
 all_goals exact fix_any _ tm0 _
theorem isco_w (l : List Tm) (t : Tok) : PCall Tryz.prog (.func 180) [.sl 2 (l.map tmrow) t] (.bool (conB l)) := by
 refine PCall.le ?_
 refine fn_ Tryz.func180 (by rfl) (by rfl) (rs := [.tmp 2]) (by rfl) (by simp [Tryz.f180]) ?_
 refine sr_ [0] [] [] fun κ ξ hκ hξ => ?_
 try simp +decide only [go_sem]
 repeat with_reducible refine an_ ?_
 refine hκ _ _ ?_; clear hκ hξ ξ κ
 refine sr_ [2] [] [] fun κ ξ hκ hξ => ?_
 try simp +decide only [go_sem]
 repeat with_reducible refine an_ ?_
 refine callF ((shv_w [⟨0, [ts0], l, []⟩] .no).args ⟨DLe.rows ⟨⟨DLe.refl _, DLe.rows ⟨⟨DLe.refl _, DLe.refl _, DLe.refl _, DLe.refl _, trivial⟩, trivial⟩, DLe.tok _ _ _, DLe.nil _ _ _, trivial⟩, trivial⟩, trivial⟩) ?_
 try simp +decide only [go_sem]
 repeat with_reducible refine an_ ?_
 refine hκ _ _ ?_; clear hκ hξ ξ κ
 refine rt ?_
 refine retE ?_
 simp +decide only [go_sem, resD, resV]
 congr 1
 rw [con_one]
theorem hol_w (l : List Tm) (t : Tok) (w s lg bx : Int) : PCall Tryz.prog (.func 136) [.sl 2 (l.map tmrow) t, .ag [.int .i64 w, .int .i64 s, .int .i64 lg], .int .i64 bx] (.tup [.bool (conB l && rdB w s lg && isBx bx && l.all fun t => hdB t w s lg bx), .int .i64 (if (conB l && rdB w s lg && isBx bx) = true then 0 else 1)]) := by
 refine PCall.le ?_
 refine fn_ Tryz.func136 (by rfl) (by rfl) (rs := [.tmp 6, .tmp 7]) (by rfl) (by simp [Tryz.f136]) ?_
 refine sr_ [0, 4, 5] [4, 5] [] fun κ ξ hκ hξ => ?_
 try simp +decide only [go_sem]
 repeat with_reducible refine an_ ?_
 refine hκ _ _ ?_; clear hκ hξ ξ κ
 refine sq ?_
 refine sr_ [0, 4, 5, 20] [] [(3, 11), (8, 16)] fun κ ξ hκ hξ => ?_
 try simp +decide only [go_sem]
 repeat with_reducible refine an_ ?_
 refine callF (isco_w _ _) ?_
 try simp +decide only [go_sem]
 repeat with_reducible refine an_ ?_
 refine vo_gc ?_
 try simp +decide only [go_sem]
 refine gcF (drd_w _ _ _) ?_
 try simp +decide only [go_sem]
 repeat with_reducible refine an_ ?_
 refine vo_gc ?_
 try simp +decide only [go_sem]
 refine gcF (isbox_w _) ?_
 try simp +decide only [go_sem]
 repeat with_reducible refine an_ ?_
 refine hκ _ _ ?_; clear hκ hξ ξ κ
 refine cd_ (fun c0 => ?_) (fun c0 => ?_)
 ·try simp only [go_sem] at c0
  refine sr_ [6, 7] [] [] fun κ ξ hκ hξ => ?_
  try simp +decide only [go_sem, c0]
  repeat with_reducible refine an_ ?_
  refine hκ _ _ ?_; clear hκ hξ ξ κ
  refine rt ?_
  refine retE ?_
  simp +decide only [go_sem, resD, resV, c0]
  rw [if_neg (by rintro ⟨⟨a, b⟩, c⟩; rcases c0 with (h | h) | h <;> simp_all)]
  congr 3
  rcases c0 with (h | h) | h <;> simp [h]
 ·try simp only [go_sem] at c0
  refine sk ?_
  refine sr_ [6, 7] [] [] fun κ ξ hκ hξ => ?_
  try simp +decide only [go_sem, c0]
  repeat with_reducible refine an_ ?_
  trace_state
  refine callF (cft2_w (.fn (.func 181) [] [.el [.int .i64 w, .int .i64 s, .int .i64 lg], .el [.int .i64 bx]]) (fun t => !hdB t w s lg bx) (fun x σ K X h => callFc (hl1_w x w s lg bx) h) _ _) ?_
  try simp +decide only [go_sem, c0]
  repeat with_reducible refine an_ ?_
  refine hκ _ _ ?_; clear hκ hξ ξ κ
  refine rt ?_
  refine retE ?_
  simp +decide only [go_sem, resD, resV, c0]
  congr 3
  rw [List.all_eq_not_any_not]
end Go.Proofs.YtinhjbnljbmbcaaGreat
/- The walk of the places of a tree. Printed by a tool of our own. -/
namespace Go.Proofs.YtinhjbnljbmbcaaGreat
open Go Go.RowKit
set_option linter.unusedSimpArgs false
set_option linter.unusedVariables false
set_option maxHeartbeats 4000000
set_option maxRecDepth 100000
attribute [local go_sem] List.length_map rowAt_n nrow rowAt_t trow rowAt_i irow
attribute [local go_sem] pl_get pl_look pl_look'
theorem places_w (l : List Nd) (t : Tok) : RCall Tryz.prog (.func 66) [.sl 5 (l.map nrow) t] [] (fun (b : Nat) => bif treB l then .tup [.mp b, .bool true] else .tup [.v (.map none), .bool false]) (fun (b : Nat) => bif treB l then [(b, .map (plE l l.length))] else []) (fun (b : Nat) => True) := by
 refine RCall.ok fun hok => ?_
 simp only [okAll, D.ok, okRows, and_true, true_and, lim_eq, inR_i64', inR_i32', inR_u8', inR_u16', inR_u64'] at hok
 obtain ⟨hl, hr⟩ := hok; rw [List.length_map] at hl
 refine fn_ Tryz.func66 (by rfl) (by rfl) (rs := [.tmp 2, .tmp 3]) (by rfl) (by simp [Tryz.f66]) ?_
 refine sr_ [0] [] [] fun κ ξ hκ hξ => ?_
 try simp +decide only [go_sem]
 repeat with_reducible refine an_ ?_
 refine hκ _ _ ?_; clear hκ hξ ξ κ
 refine sq ?_
 by_cases hl0 : 0 < l.length
 ·have hl1 : ¬ (l.length : Int) < 1 := by omega
  have hl2 : ((0 : Nat) : Int) < (l.length : Int) := by omega
  have hl3 : (0 : Int) < (l.length : Int) := by omega
  refine sr_ [0, 30] [] [(3, 12), (8, 17), (15, 24)] fun κ ξ hκ hξ => ?_
  try simp +decide only [go_sem, hl1, hl2, hl3]
  repeat with_reducible refine an_ ?_
  refine hκ _ _ ?_; clear hκ hξ ξ κ
  refine cd_ (fun c0 => ?_) (fun c0 => ?_)
  ·try simp only [go_sem] at c0
   refine sr_ [2, 3] [] [] fun κ ξ hκ hξ => ?_
   try simp +decide only [go_sem, hl1, hl2, hl3, c0]
   repeat with_reducible refine an_ ?_
   refine hκ _ _ ?_; clear hκ hξ ξ κ
   have ht : treB l = false := by
    rw [← Bool.not_eq_true, treB_true]
    intro t
    have := t.len
    have := t.root
    omega
   refine rt ?_
   refine retR (0) ?_ ?_ ?_
   ·first | exact .refl _ | exact List.nil_sublist _ | exact List.sublist_cons_of_sublist _ (.refl _) | exact ((List.Sublist.refl _).cons _).cons _ | (simp [*]; done) | skip
   ·first | trivial | assumption | omega | (simp; done) | skip
   simp +decide only [go_sem, resD, resV, hl1, hl2, hl3, c0]
   rw [ht]; rfl
  ·try simp only [go_sem] at c0
   refine sk ?_
   refine sr_ [0, 4] [] [] fun κ ξ hκ hξ => ?_
   try simp +decide only [go_sem, hl1, hl2, hl3, c0]
   repeat with_reducible refine an_ ?_
   intro b31 hb31
   try simp +decide only [go_sem, hl1, hl2, hl3, c0, hb31]
   repeat with_reducible refine an_ ?_
   refine hκ _ _ ?_; clear hκ hξ ξ κ
   refine sq ?_
   refine sr_ [0, 4, 32, 33, 34] [] [] fun κ ξ hκ hξ => ?_
   try simp +decide only [go_sem, hl1, hl2, hl3, c0, hb31]
   repeat with_reducible refine an_ ?_
   refine hκ _ _ ?_; clear hκ hξ ξ κ
   refine bl ?_
   refine lp (α := Nat) (fun i => mk [(0, .sl 5 (l.map nrow) t), (4, .mp b31), (32, .sl 5 (l.map nrow) t), (33, .int .i64 l.length), (34, .int .i64 i)]) (fun i => [(b31, .map (plE l i))]) (fun i => i ≤ l.length ∧ ∀ j, j < i → okAt l j = true) (fun i => l.length - i) 0 ⟨⟨by omega, by intro j hj; omega⟩, EnvLe.of_eq rfl, .refl _⟩ ?_
   rintro i ⟨hi, hj⟩
   have hpar : dpt l i = (plk l i (nat l i).par).2 + 1 := plk_dpt l i
   obtain ⟨hk0, hk1⟩ := plk_bounds l hi (nat l i).par
   have hth := plk_there l i (nat l i).id
   have hge := idx_ge (l.take i) (nat l i).id
   obtain ⟨k, hpk, hkl⟩ : ∃ k : Nat, (plk l i (nat l i).par).1 = (k : Int) ∧ (k : Int) < l.length := by
    by_cases h : 0 ≤ idx (l.take i) (nat l i).par
    ·obtain ⟨h1, _⟩ := hk1 h
     exact ⟨(plk l i (nat l i).par).1.toNat, by omega, by omega⟩
    ·have : plk l i (nat l i).par = (0, 0) := by unfold plk; rw [if_neg h]
     exact ⟨0, by rw [this]; rfl, by omega⟩
   refine sr_ [0, 4, 32, 33, 34, 35] [] [] fun κ ξ hκ hξ => ?_
   try simp +decide only [go_sem, hl1, hl2, hl3, c0, hb31, hi]
   repeat with_reducible refine an_ ?_
   refine hκ _ _ ?_; clear hκ hξ ξ κ
   refine sq ?_
   refine cd_ (fun c1 => ?_) (fun c1 => ?_)
   ·try simp only [go_sem] at c1
    refine sk ?_
    refine sq ?_
    refine bl ?_
    refine srz_ [(6, [])] [0, 4, 5, 6, 32, 33, 34] [] [] fun κ ξ hκ hξ => ?_
    try simp +decide only [go_sem, hl1, hl2, hl3, c0, hb31, hi, c1]
    repeat with_reducible refine an_ ?_
    intro b6 hb6
    try simp +decide only [go_sem, hl1, hl2, hl3, c0, hb31, hi, c1, hb6]
    repeat with_reducible refine an_ ?_
    refine hκ _ _ ?_; clear hκ hξ ξ κ
    refine srz_ [(7, [])] [0, 4, 5, 6, 7, 8, 32, 33, 34] [] [] fun κ ξ hκ hξ => ?_
    try simp +decide only [go_sem, hl1, hl2, hl3, c0, hb31, hi, c1, hb6]
    repeat with_reducible refine an_ ?_
    intro b7 hb7
    try simp +decide only [go_sem, hl1, hl2, hl3, c0, hb31, hi, c1, hb6, hb7]
    repeat with_reducible refine an_ ?_
    skip
    refine hκ _ _ ?_; clear hκ hξ ξ κ
    refine sq ?_
    refine srd_ [0, 4, 5, 6, 7, 32, 33, 34, 81] [] [47, 72] [(3, 49), (11, 57), (14, 60), (17, 63), (31, 77)] fun κ ξ hκ hξ => ?_
    try simp +decide only [go_sem, hl1, hl2, hl3, c0, hb31, hi, c1, hb6, hb7, hpk, hkl]
    repeat with_reducible refine an_ ?_
    refine scallF (formed_w _) ?_
    try simp +decide only [go_sem, hl1, hl2, hl3, c0, hb31, hi, c1, hb6, hb7, hpk, hkl]
    repeat with_reducible refine an_ ?_
    refine vd_gc (by rfl) ?_
    try simp +decide only [go_sem, hl1, hl2, hl3, c0, hb31, hi, c1, hb6, hb7, hpk, hkl]
    refine gcF (stands_w _ _) ?_
    try simp +decide only [go_sem, hl1, hl2, hl3, c0, hb31, hi, c1, hb6, hb7, hpk, hkl]
    repeat with_reducible refine an_ ?_
    refine hκ _ _ ?_; clear hκ hξ ξ κ
    refine cd_ (fun c2 => ?_) (fun c2 => ?_)
    ·simp only [go_sem] at c2
     refine sr_ [2, 3] [] [] fun κ ξ hκ hξ => ?_
     try simp +decide only [go_sem, hl1, hl2, hl3, c0, hb31, hi, c1, hb6, hb7, hpk, hkl, c2]
     repeat with_reducible refine an_ ?_
     refine hκ _ _ ?_; clear hκ hξ ξ κ
     have ht : treB l = false := by
      refine treB_false (i := i) (by omega) ?_
      rw [← Bool.not_eq_true, ok_prog (by omega) hj hpk]
      rintro ⟨a, ⟨b1, b2⟩, d, e⟩
      rcases c2 with (((h | h | h) | ⟨h0, h | h⟩) | h)
      ·rw [a] at h; cases h
      ·exact h b1
      ·exact h b2
      ·exact h (d (by omega)).1
      ·rw [(d (by omega)).2] at h; cases h
      ·exact e h
     refine rt ?_
     refine retR (0) ?_ ?_ ?_
     ·first | exact .refl _ | exact List.nil_sublist _ | exact List.sublist_cons_of_sublist _ (.refl _) | exact ((List.Sublist.refl _).cons _).cons _ | (simp [*]; done) | skip
     ·first | trivial | assumption | omega | (simp; done) | skip
     simp +decide only [go_sem, resD, resV, hl1, hl2, hl3, c0, hb31, hi, c1, hb6, hb7, hpk, hkl, c2]
     rw [ht]; rfl
    ·simp only [go_sem] at c2
     have hok : okAt l i = true := by
      rw [ok_prog (by omega) hj hpk]
      exact ⟨c2.1.1.1, c2.1.1.2, fun h0 => c2.1.2.resolve_left (fun h => h (by omega)), c2.2⟩
     obtain ⟨hd1, hd2⟩ := plk_two l hj (nat l i).par
     have hw : IntKind.wrap .i64 ((plk l i (nat l i).par).2 + 1) = dpt l i := by rw [w64 (by omega)]; omega
     have hput := pl_put l (by omega) (okAt_true.1 hok).2.1
     refine sk ?_
     refine rr_ [0, 4, 32, 33, 34] [] [] fun κ ξ hκ hξ => ?_
     try simp +decide only [go_sem, hl1, hl2, hl3, c0, hb31, hi, c1, hb6, hb7, hpk, hkl, c2, hw, hput]
     repeat with_reducible refine an_ ?_
     refine hκ _ _ ?_; clear hκ hξ ξ κ
     refine rr_ [0, 4, 32, 33, 34] [] [] fun κ ξ hκ hξ => ?_
     try simp +decide only [go_sem, hl1, hl2, hl3, c0, hb31, hi, c1, hb6, hb7, hpk, hkl, c2, hw, hput]
     repeat with_reducible refine an_ ?_
     refine hκ _ _ ?_; clear hκ hξ ξ κ
     refine ⟨i + 1, ⟨⟨by omega, ?_⟩, by omega⟩, EnvLe.of_eq (by rw [w64 (by omega)]; rfl), .refl _⟩
     intro j h
     rcases Nat.lt_succ_iff_lt_or_eq.1 h with h | rfl
     ·exact hj j h
     ·exact hok
   ·try simp only [go_sem] at c1
    refine ex ?_
    refine sr_ [2, 3] [] [] fun κ ξ hκ hξ => ?_
    try simp +decide only [go_sem, hl1, hl2, hl3, c0, hb31, hi, c1]
    repeat with_reducible refine an_ ?_
    refine hκ _ _ ?_; clear hκ hξ ξ κ
    have hil : i = l.length := by omega
    subst hil
    have ht : treB l = true := treB_all (by omega) c0.1.2 c0.2 hj
    refine rt ?_
    refine retR (b31) ?_ ?_ ?_
    ·first | exact .refl _ | exact List.nil_sublist _ | exact List.sublist_cons_of_sublist _ (.refl _) | exact ((List.Sublist.refl _).cons _).cons _ | (simp [*]; done) | skip
    ·first | trivial | assumption | omega | (simp; done) | skip
    simp +decide only [go_sem, resD, resV, hl1, hl2, hl3, c0, hb31, hi, c1]
    rw [ht]; rfl
 ·have hl1 : (l.length : Int) < 1 := by omega
  refine sr_ [0, 30] [] [(3, 12), (8, 17), (15, 24)] fun κ ξ hκ hξ => ?_
  try simp +decide only [go_sem, hl1]
  repeat with_reducible refine an_ ?_
  refine hκ _ _ ?_; clear hκ hξ ξ κ
  refine cdt (by rfl) ?_
  refine sr_ [2, 3] [] [] fun κ ξ hκ hξ => ?_
  try simp +decide only [go_sem, hl1]
  repeat with_reducible refine an_ ?_
  refine hκ _ _ ?_; clear hκ hξ ξ κ
  have ht : treB l = false := by
   rw [← Bool.not_eq_true, treB_true]
   intro t
   have := t.len
   omega
  refine rt ?_
  refine retR (0) ?_ ?_ ?_
  ·first | exact .refl _ | exact List.nil_sublist _ | exact List.sublist_cons_of_sublist _ (.refl _) | exact ((List.Sublist.refl _).cons _).cons _ | (simp [*]; done) | skip
  ·first | trivial | assumption | omega | (simp; done) | skip
  simp +decide only [go_sem, resD, resV, hl1]
  rw [ht]; rfl
end Go.Proofs.YtinhjbnljbmbcaaGreat
/- The walks of Find and Kids. Printed by a tool of our own. -/
namespace Go.Proofs.YtinhjbnljbmbcaaGreat
open Go Go.RowKit
set_option linter.unusedSimpArgs false
set_option linter.unusedVariables false
set_option maxHeartbeats 4000000
set_option maxRecDepth 100000
/-- What is wrong with asking for a node. -/
def gerr (l : List Nd) (x : Int) : Int := if (treB l && idB x) = true then (if 0 ≤ idx l x then 0 else 4) else 1
attribute [local go_sem] List.length_map rowAt_n nrow rowAt_t trow rowAt_i irow
attribute [local go_sem] pl_getF pl_lookF pl_lookF' foldI
theorem tre_w (l : List Nd) (t : Tok) : PCall Tryz.prog (.func 33) [.sl 5 (l.map nrow) t] (.bool (treB l)) := by
 refine PCall.le ?_
 refine fn_ Tryz.func33 (by rfl) (by rfl) (rs := [.tmp 2]) (by rfl) (by simp [Tryz.f33]) ?_
 refine sr_ [0] [] [] fun κ ξ hκ hξ => ?_
 try simp +decide only [go_sem]
 repeat with_reducible refine an_ ?_
 refine hκ _ _ ?_; clear hκ hξ ξ κ
 cases ht : treB l
 ·skip
  refine sr_ [4] [] [] fun κ ξ hκ hξ => ?_
  try simp +decide only [go_sem, ht]
  repeat with_reducible refine an_ ?_
  refine callR (places_w _ _) fun b _ => ?_
  try simp +decide only [go_sem, ht]
  repeat with_reducible refine an_ ?_
  refine hκ _ _ ?_; clear hκ hξ ξ κ
  refine sr_ [2] [] [] fun κ ξ hκ hξ => ?_
  try simp +decide only [go_sem, ht]
  repeat with_reducible refine an_ ?_
  refine hκ _ _ ?_; clear hκ hξ ξ κ
  refine rt ?_
  refine retE ?_
  simp +decide only [go_sem, resD, resV, ht]
  
 ·skip
  refine sr_ [4] [] [] fun κ ξ hκ hξ => ?_
  try simp +decide only [go_sem, ht]
  repeat with_reducible refine an_ ?_
  refine callR (places_w _ _) fun b _ => ?_
  try simp +decide only [go_sem, ht]
  repeat with_reducible refine an_ ?_
  refine hκ _ _ ?_; clear hκ hξ ξ κ
  refine sr_ [2] [] [] fun κ ξ hκ hξ => ?_
  try simp +decide only [go_sem, ht]
  repeat with_reducible refine an_ ?_
  refine hκ _ _ ?_; clear hκ hξ ξ κ
  refine rt ?_
  refine retE ?_
  simp +decide only [go_sem, resD, resV, ht]
  
theorem find_w (l : List Nd) (t : Tok) (x : Int) : PCall Tryz.prog (.func 46) [.sl 5 (l.map nrow) t, .int .i64 x] (.tup [.int .i64 (if (treB l && idB x) = true then fi l x else 0), .bool (treB l && idB x && decide (0 ≤ idx l x)), .int .i64 (if (treB l && idB x) = true then 0 else 1)]) := by
 refine PCall.le ?_
 refine fn_ Tryz.func46 (by rfl) (by rfl) (rs := [.tmp 4, .tmp 5, .tmp 6]) (by rfl) (by simp [Tryz.f46]) ?_
 refine sr_ [0, 1] [] [] fun κ ξ hκ hξ => ?_
 try simp +decide only [go_sem]
 repeat with_reducible refine an_ ?_
 refine hκ _ _ ?_; clear hκ hξ ξ κ
 cases ht : treB l
 ·skip
  refine sr_ [1, 7, 8] [] [] fun κ ξ hκ hξ => ?_
  try simp +decide only [go_sem, ht]
  repeat with_reducible refine an_ ?_
  refine callR (places_w _ _) fun b _ => ?_
  try simp +decide only [go_sem, ht]
  repeat with_reducible refine an_ ?_
  refine hκ _ _ ?_; clear hκ hξ ξ κ
  refine sq ?_
  refine sr_ [1, 7, 22] [] [(2, 18)] fun κ ξ hκ hξ => ?_
  try simp +decide only [go_sem, ht]
  repeat with_reducible refine an_ ?_
  refine vo_gc ?_
  try simp +decide only [go_sem, ht]
  refine gcF (isid_w _) ?_
  try simp +decide only [go_sem, ht]
  repeat with_reducible refine an_ ?_
  refine hκ _ _ ?_; clear hκ hξ ξ κ
  refine cdt (by rfl) ?_
  refine sr_ [4, 5, 6] [] [] fun κ ξ hκ hξ => ?_
  try simp +decide only [go_sem, ht]
  repeat with_reducible refine an_ ?_
  refine hκ _ _ ?_; clear hκ hξ ξ κ
  refine rt ?_
  refine retE ?_
  simp +decide only [go_sem, resD, resV, ht]
  all_goals (cases h2 : idB x <;> simp [h2] at c0 ⊢)
 ·skip
  refine sr_ [1, 7, 8] [] [] fun κ ξ hκ hξ => ?_
  try simp +decide only [go_sem, ht]
  repeat with_reducible refine an_ ?_
  refine callR (places_w _ _) fun b _ => ?_
  try simp +decide only [go_sem, ht]
  repeat with_reducible refine an_ ?_
  refine hκ _ _ ?_; clear hκ hξ ξ κ
  refine sq ?_
  refine sr_ [1, 7, 22] [] [(2, 18)] fun κ ξ hκ hξ => ?_
  try simp +decide only [go_sem, ht]
  repeat with_reducible refine an_ ?_
  refine vo_gc ?_
  try simp +decide only [go_sem, ht]
  refine gcF (isid_w _) ?_
  try simp +decide only [go_sem, ht]
  repeat with_reducible refine an_ ?_
  refine hκ _ _ ?_; clear hκ hξ ξ κ
  refine cd_ (fun c0 => ?_) (fun c0 => ?_)
  ·try simp only [go_sem] at c0
   refine sr_ [4, 5, 6] [] [] fun κ ξ hκ hξ => ?_
   try simp +decide only [go_sem, ht, c0]
   repeat with_reducible refine an_ ?_
   refine hκ _ _ ?_; clear hκ hξ ξ κ
   refine rt ?_
   refine retE ?_
   simp +decide only [go_sem, resD, resV, ht, c0]
   all_goals (cases h2 : idB x <;> simp [h2] at c0 ⊢)
  ·try simp only [go_sem] at c0
   refine sk ?_
   refine srz_ [(9, [])] [9, 10] [] [] fun κ ξ hκ hξ => ?_
   try simp +decide only [go_sem, ht, c0]
   repeat with_reducible refine an_ ?_
   intro b9 hb9
   try simp +decide only [go_sem, ht, c0, hb9]
   repeat with_reducible refine an_ ?_
   refine hκ _ _ ?_; clear hκ hξ ξ κ
   refine sr_ [4, 5, 6] [] [] fun κ ξ hκ hξ => ?_
   try simp +decide only [go_sem, ht, c0, hb9]
   repeat with_reducible refine an_ ?_
   refine hκ _ _ ?_; clear hκ hξ ξ κ
   refine rt ?_
   refine retE ?_
   simp +decide only [go_sem, resD, resV, ht, c0, hb9]
   all_goals (cases h2 : idB x <;> simp [h2] at c0 ⊢)
theorem get_w (l : List Nd) (t : Tok) (x : Int) : PCall Tryz.prog (.func 125) [.sl 5 (l.map nrow) t, .int .i64 x] (.tup [.int .i64 (if (treB l && idB x) = true then fi l x else 0), .int .i64 (gerr l x)]) := by
 refine PCall.le ?_
 refine fn_ Tryz.func125 (by rfl) (by rfl) (rs := [.tmp 4, .tmp 5]) (by rfl) (by simp [Tryz.f125]) ?_
 refine sr_ [0, 1] [] [] fun κ ξ hκ hξ => ?_
 try simp +decide only [go_sem]
 repeat with_reducible refine an_ ?_
 refine hκ _ _ ?_; clear hκ hξ ξ κ
 refine sr_ [6, 7, 8] [] [] fun κ ξ hκ hξ => ?_
 try simp +decide only [go_sem]
 repeat with_reducible refine an_ ?_
 refine callF (find_w _ _ _) ?_
 try simp +decide only [go_sem]
 repeat with_reducible refine an_ ?_
 refine hκ _ _ ?_; clear hκ hξ ξ κ
 refine sq ?_
 refine sr_ [6, 8, 21] [] [(2, 18)] fun κ ξ hκ hξ => ?_
 try simp +decide only [go_sem]
 repeat with_reducible refine an_ ?_
 refine hκ _ _ ?_; clear hκ hξ ξ κ
 refine cd_ (fun c0 => ?_) (fun c0 => ?_)
 ·try simp only [go_sem] at c0
  refine rr_ [6, 8] [] [] fun κ ξ hκ hξ => ?_
  try simp +decide only [go_sem, c0]
  repeat with_reducible refine an_ ?_
  refine hκ _ _ ?_; clear hκ hξ ξ κ
  refine sr_ [4, 5] [] [] fun κ ξ hκ hξ => ?_
  try simp +decide only [go_sem, c0]
  repeat with_reducible refine an_ ?_
  refine hκ _ _ ?_; clear hκ hξ ξ κ
  refine rt ?_
  refine retE ?_
  simp +decide only [go_sem, resD, resV, c0]
  all_goals (unfold gerr; cases h1 : treB l <;> cases h2 : idB x <;> by_cases h3 : 0 ≤ idx l x <;> simp [h1, h2, h3] at c0 ⊢)
 ·try simp only [go_sem] at c0
  refine sk ?_
  refine sr_ [4, 5] [] [] fun κ ξ hκ hξ => ?_
  try simp +decide only [go_sem, c0]
  repeat with_reducible refine an_ ?_
  refine hκ _ _ ?_; clear hκ hξ ξ κ
  refine rt ?_
  refine retE ?_
  simp +decide only [go_sem, resD, resV, c0]
  all_goals (unfold gerr; cases h1 : treB l <;> cases h2 : idB x <;> by_cases h3 : 0 ≤ idx l x <;> simp [h1, h2, h3] at c0 ⊢)
theorem dep_w (l : List Nd) (t : Tok) (hs : l.length ≤ 1000000) : PCall Tryz.prog (.func 77) [.sl 5 (l.map nrow) t] (bif depB l then .tup [.sl 1 ((depL l l.length).map irow) .no, .bool true] else .tup [.sl 0 [] .nil, .bool false]) := by
 refine PCall.ok fun hok => ?_
 simp only [okAll, D.ok, okRows, and_true, true_and, lim_eq, inR_i64', inR_i32', inR_u8', inR_u16', inR_u64'] at hok
 obtain ⟨hl, hr⟩ := hok
 refine PCall.le ?_
 refine fn_ Tryz.func77 (by rfl) (by rfl) (rs := [.tmp 2, .tmp 3]) (by rfl) (by simp [Tryz.f77]) ?_
 refine sr_ [0] [] [] fun κ ξ hκ hξ => ?_
 try simp +decide only [go_sem]
 repeat with_reducible refine an_ ?_
 refine hκ _ _ ?_; clear hκ hξ ξ κ
 refine sr_ [0, 4] [] [] fun κ ξ hκ hξ => ?_
 try simp +decide only [go_sem]
 repeat with_reducible refine an_ ?_
 refine hκ _ _ ?_; clear hκ hξ ξ κ
 refine sq ?_
 refine sr_ [0, 4, 5] [] [] fun κ ξ hκ hξ => ?_
 try simp +decide only [go_sem]
 repeat with_reducible refine an_ ?_
 refine hκ _ _ ?_; clear hκ hξ ξ κ
 refine bl ?_
 refine lp (α := Nat × Option (Nat × Nat)) (fun y => mk [(0, .sl 5 (l.map nrow) t), (4, apD 1 ((depL l y.1).map irow) y.2), (5, .int .i64 y.1)]) (fun y => apS 1 y.1 y.2) (fun y => (y.1 ≤ l.length ∧ apOK ((depL l y.1).map irow) y.2) ∧ (0 < y.1 → (nat l 0).par = 0 ∧ (nat l 0).kind = 1) ∧ ∀ j, 0 < j → j < y.1 → 0 ≤ pix l j ∧ stR (nat l j).kind (nat l (pix l j).toNat).kind = true) (fun y => l.length - y.1) (0, none) ⟨⟨⟨by omega, fun _ => rfl⟩, fun h => by omega, fun j h1 h2 => by omega⟩, EnvLe.of_eq rfl, .refl _⟩ ?_
 rintro ⟨i, o⟩ ⟨⟨hi, ho⟩, hro, hj⟩
 simp only at hi ho hro hj
 have hdl := depL_len l i
 refine sq ?_
 refine sr_ [0, 4, 5, 10] [] [] fun κ ξ hκ hξ => ?_
 try simp +decide only [go_sem]
 repeat with_reducible refine an_ ?_
 refine hκ _ _ ?_; clear hκ hξ ξ κ
 refine cd_ (fun c0 => ?_) (fun c0 => ?_)
 ·try simp only [go_sem] at c0
  refine sk ?_
  refine sq ?_
  refine bl ?_
  refine sq ?_
  refine sr_ [0, 4, 5, 14] [] [] fun κ ξ hκ hξ => ?_
  try simp +decide only [go_sem, c0]
  repeat with_reducible refine an_ ?_
  refine hκ _ _ ?_; clear hκ hξ ξ κ
  refine cd_ (fun c1 => ?_) (fun c1 => ?_)
  ·simp only [go_sem] at c1
   obtain rfl : i = 0 := by omega
   have hl2 : ((0 : Nat) : Int) < (l.length : Int) := by omega
   have hl3 : (0 : Int) < (l.length : Int) := by omega
   refine sr_ [0, 4, 5] [] [] fun κ ξ hκ hξ => ?_
   try simp +decide only [go_sem, c0, c1, hl2, hl3]
   repeat with_reducible refine an_ ?_
   refine napp_grow0 (by first | assumption | omega | (simp; done) | (simp; omega) | (intro hg; simp +decide only [go_sem, hg]; done) | (intro hg; simp +decide only [go_sem, hg]; omega)) (by first | (simp; done) | (simp [*]; done) | omega) rfl rfl (by simp +decide only [go_sem, Option.isSome_some]) tf220 tf221 tf36 (by refine ⟨⟨rfl, by decide, by decide⟩, by simp +decide only [go_sem], by simp, ?_⟩; simp [capB] <;> omega) ?_; intro b17 c17
   try simp +decide only [go_sem, c0, c1, hl2, hl3]
   repeat with_reducible refine an_ ?_
   refine hκ _ _ ?_; clear hκ hξ ξ κ
   refine sq ?_
   refine sr_ [0, 4, 5, 29] [] [(5, 23)] fun κ ξ hκ hξ => ?_
   try simp +decide only [go_sem, c0, c1, hl2, hl3]
   repeat with_reducible refine an_ ?_
   refine hκ _ _ ?_; clear hκ hξ ξ κ
   refine cd_ (fun c2 => ?_) (fun c2 => ?_)
   ·try simp only [go_sem] at c2
    refine sr_ [2, 3] [] [] fun κ ξ hκ hξ => ?_
    try simp +decide only [go_sem, c0, c1, hl2, hl3, c2]
    repeat with_reducible refine an_ ?_
    refine hκ _ _ ?_; clear hκ hξ ξ κ
    refine rt ?_
    refine retE ?_
    simp +decide only [go_sem, resD, resV, c0, c1, hl2, hl3, c2]
    have hb : depB l = false := by
     rw [← Bool.not_eq_true, depB_true]
     rintro ⟨h, _⟩
     rcases h with h | h
     ·omega
     ·omega
    rw [hb]; rfl
   ·try simp only [go_sem] at c2
    refine sk ?_
    refine ex ?_
    refine rr_ [0, 4, 5] [] [] fun κ ξ hκ hξ => ?_
    try simp +decide only [go_sem, c0, c1, hl2, hl3, c2]
    repeat with_reducible refine an_ ?_
    refine hκ _ _ ?_; clear hκ hξ ξ κ
    refine ⟨(0 + 1, some (b17, c17)), ⟨⟨⟨by omega, fun h => by cases h⟩, fun _ => c2, fun j h1 h2 => by simp only at h2; omega⟩, by simp only; omega⟩, EnvLe.of_eq ?_, ?_⟩
    ·rw [w64 (by omega), depL_succ, dpt_zero]; rfl
    ·exact .refl _
  ·simp only [go_sem] at c1
   obtain ⟨⟨bo, co⟩, rfl⟩ : ∃ p, o = some p := by
    cases o with
    | none =>
     have := ho rfl
     simp [depL] at this
     omega
    | some p => exact ⟨p, rfl⟩
   have hpl := pix_lt l i
   have hpg := pix_ge l i
   refine sk ?_
   refine srd_ [0, 4, 5, 6] [] [38] [] fun κ ξ hκ hξ => ?_
   try simp +decide only [go_sem, c0, c1]
   repeat with_reducible refine an_ ?_
   refine scallF (ridx_w _ _ _) ?_
   try simp +decide only [go_sem, c0, c1]
   repeat with_reducible refine an_ ?_
   have hpd : idx (List.take i l) (nat l i).par = pix l i := rfl
   refine hκ _ _ ?_; clear hκ hξ ξ κ
   refine sq ?_
   by_cases hp : 0 ≤ pix l i
   ·obtain ⟨k, hk, hki⟩ : ∃ k : Nat, pix l i = (k : Int) ∧ k < i := ⟨(pix l i).toNat, by omega, by omega⟩
    have hkl : (k : Int) < (l.length : Int) := by omega
    have hkn : ¬ (k : Int) < 0 := by omega
    have hkd : (k : Int) < ((depL l i).length : Int) := by omega
    have hkv : iat (depL l i) k = dpt l k := depL_at hki
    have hdk := dpt_le l k
    have hd1 := dpt_pos l k
    have hkw : IntKind.wrap .i64 (dpt l k + 1) = dpt l i := by
     rw [w64 (by omega), dpt_eq l i, if_pos hp, hk, Int.toNat_natCast]
    refine srd_ [0, 4, 5, 6, 54] [] [52] [(2, 41)] fun κ ξ hκ hξ => ?_
    try simp +decide only [go_sem, c0, c1, hpd, hk, hkl, hkn, hkd, hkv, hkw, apD]
    repeat with_reducible refine an_ ?_
    first
    | (refine vd_gc (by rfl) ?_; simp +decide only [go_sem, c0, c1, hpd, hk, hkl, hkn, hkd, hkv, hkw, apD]; refine gcallF (fun hg => ⟨by first | rfl | (simp +decide only [go_sem, hg, c0, c1, hpd, hk, hkl, hkn, hkd, hkv, hkw, apD]; done) | exact hg | simpa using hg, rstands_w _ _⟩) ?_)
    | (refine vd_gc (by rfl) ?_; simp +decide only [go_sem, c0, c1, hpd, hk, hkl, hkn, hkd, hkv, hkw, apD]; refine gcallF (d := .bool true) (fun hg => by first | cases hg | (simp at hg; done)) ?_)
    try simp +decide only [go_sem, c0, c1, hpd, hk, hkl, hkn, hkd, hkv, hkw, apD]
    repeat with_reducible refine an_ ?_
    refine hκ _ _ ?_; clear hκ hξ ξ κ
    refine cd_ (fun c3 => ?_) (fun c3 => ?_)
    ·try simp only [go_sem] at c3
     refine sr_ [2, 3] [] [] fun κ ξ hκ hξ => ?_
     try simp +decide only [go_sem, c0, c1, hpd, hk, hkl, hkn, hkd, hkv, hkw, apD, c3]
     repeat with_reducible refine an_ ?_
     refine hκ _ _ ?_; clear hκ hξ ξ κ
     refine rt ?_
     refine retE ?_
     simp +decide only [go_sem, resD, resV, c0, c1, hpd, hk, hkl, hkn, hkd, hkv, hkw, apD, c3]
     have hb : depB l = false := by
      rw [← Bool.not_eq_true, depB_true]
      rintro ⟨_, h⟩
      have := (h i (by omega) (by omega)).2
      rw [hk, Int.toNat_natCast] at this
      rw [this] at c3
      cases c3
     rw [hb]; rfl
    ·try simp only [go_sem] at c3
     refine sk ?_
     refine rr_ [0, 4, 5] [] [] fun κ ξ hκ hξ => ?_
     try simp +decide only [go_sem, c0, c1, hpd, hk, hkl, hkn, hkd, hkv, hkw, apD, c3]
     repeat with_reducible refine an_ ?_
     refine napp_grow0 (o := some (bo, co)) (by first | assumption | omega | (simp; done) | (simp; omega) | (intro hg; simp +decide only [go_sem, hg]; done) | (intro hg; simp +decide only [go_sem, hg]; omega)) (by first | (simp; done) | (simp [*]; done) | omega) rfl rfl (by simp +decide only [go_sem, Option.isSome_some]) tf220 tf221 tf36 (by refine ⟨⟨rfl, by decide, by decide⟩, by simp +decide only [go_sem], by simp, ?_⟩; simp [capB] <;> omega) ?_; intro b62 c62
     try simp +decide only [go_sem, c0, c1, hpd, hk, hkl, hkn, hkd, hkv, hkw, apD, c3]
     repeat with_reducible refine an_ ?_
     refine hκ _ _ ?_; clear hκ hξ ξ κ
     refine rr_ [0, 4, 5] [] [] fun κ ξ hκ hξ => ?_
     try simp +decide only [go_sem, c0, c1, hpd, hk, hkl, hkn, hkd, hkv, hkw, apD, c3]
     repeat with_reducible refine an_ ?_
     refine hκ _ _ ?_; clear hκ hξ ξ κ
     refine ⟨(i + 1, some (b62, c62)), ⟨⟨⟨by omega, fun h => by cases h⟩, fun _ => hro (by omega), fun j h1 h2 => ?_⟩, by simp only; omega⟩, EnvLe.of_eq ?_, ?_⟩
     ·rcases Nat.lt_succ_iff_lt_or_eq.1 h2 with h | rfl
      ·exact hj j h1 h
      ·rw [hk, Int.toNat_natCast]; exact ⟨by omega, c3⟩
     ·rw [w64 (by omega), depL_succ, List.map_append]; rfl
     ·exact .refl _
   ·have hpn : pix l i < 0 := by omega
    refine srd_ [0, 4, 5, 6, 54] [] [52] [(2, 41)] fun κ ξ hκ hξ => ?_
    try simp +decide only [go_sem, c0, c1, hpd, hpn]
    repeat with_reducible refine an_ ?_
    first
    | (refine vd_gc (by rfl) ?_; simp +decide only [go_sem, c0, c1, hpd, hpn]; refine gcallF (fun hg => ⟨by first | rfl | (simp +decide only [go_sem, hg, c0, c1, hpd, hpn]; done) | exact hg | simpa using hg, rstands_w _ _⟩) ?_)
    | (refine vd_gc (by rfl) ?_; simp +decide only [go_sem, c0, c1, hpd, hpn]; refine gcallF (d := .bool true) (fun hg => by first | cases hg | (simp at hg; done)) ?_)
    try simp +decide only [go_sem, c0, c1, hpd, hpn]
    repeat with_reducible refine an_ ?_
    refine hκ _ _ ?_; clear hκ hξ ξ κ
    refine cdt (by rfl) ?_
    refine sr_ [2, 3] [] [] fun κ ξ hκ hξ => ?_
    try simp +decide only [go_sem, c0, c1, hpd, hpn]
    repeat with_reducible refine an_ ?_
    refine hκ _ _ ?_; clear hκ hξ ξ κ
    refine rt ?_
    refine retE ?_
    simp +decide only [go_sem, resD, resV, c0, c1, hpd, hpn]
    have hb : depB l = false := by
     rw [← Bool.not_eq_true, depB_true]
     rintro ⟨_, h⟩
     have := (h i (by omega) (by omega)).1
     omega
    rw [hb]; rfl
 ·try simp only [go_sem] at c0
  refine ex ?_
  refine sr_ [2, 3] [] [] fun κ ξ hκ hξ => ?_
  try simp +decide only [go_sem, c0]
  repeat with_reducible refine an_ ?_
  refine hκ _ _ ?_; clear hκ hξ ξ κ
  refine rt ?_
  refine retL ?_
  simp +decide only [go_sem, resD, resV, c0]
  have hb : depB l = true := by
   rw [depB_true]
   obtain rfl : i = l.length := by omega
   exact ⟨by omega, fun j h1 h2 => hj j h1 h2⟩
  obtain rfl : i = l.length := by omega
  rw [hb]
  exact DLe.tup ⟨apD_le 1 ho, DLe.refl _, trivial⟩
end Go.Proofs.YtinhjbnljbmbcaaGreat
/- The walks of the reference's Valid, Find and Kids. Printed by a tool of our own. -/
namespace Go.Proofs.YtinhjbnljbmbcaaGreat
open Go Go.RowKit
set_option linter.unusedSimpArgs false
set_option linter.unusedVariables false
set_option maxHeartbeats 4000000
set_option maxRecDepth 100000
attribute [local go_sem] List.length_map rowAt_n nrow rowAt_t trow rowAt_i irow
attribute [local go_sem] pl_getF pl_lookF pl_lookF' foldI
theorem rtre_w (l : List Nd) (t : Tok) : PCall Tryz.prog (.func 41) [.sl 5 (l.map nrow) t] (.bool (treB l)) := by
 refine PCall.ok fun hok => ?_
 simp only [okAll, D.ok, okRows, and_true, true_and, lim_eq, inR_i64', inR_i32', inR_u8', inR_u16', inR_u64'] at hok
 obtain ⟨hl, hr⟩ := hok; rw [List.length_map] at hl
 refine PCall.le ?_
 refine fn_ Tryz.func41 (by rfl) (by rfl) (rs := [.tmp 2]) (by rfl) (by simp [Tryz.f41]) ?_
 refine sr_ [0] [] [] fun κ ξ hκ hξ => ?_
 try simp +decide only [go_sem, Option.toArray_none, Option.toArray_some, Array.toList_append, List.all_append, List.all_cons, List.all_nil, Bool.and_true]
 repeat with_reducible refine an_ ?_
 refine hκ _ _ ?_; clear hκ hξ ξ κ
 refine sq ?_
 refine sr_ [0, 15] [] [(3, 11)] fun κ ξ hκ hξ => ?_
 try simp +decide only [go_sem, Option.toArray_none, Option.toArray_some, Array.toList_append, List.all_append, List.all_cons, List.all_nil, Bool.and_true]
 repeat with_reducible refine an_ ?_
 refine hκ _ _ ?_; clear hκ hξ ξ κ
 refine cd_ (fun c0 => ?_) (fun c0 => ?_)
 ·try simp only [go_sem] at c0
  refine sr_ [2] [] [] fun κ ξ hκ hξ => ?_
  try simp +decide only [go_sem, Option.toArray_none, Option.toArray_some, Array.toList_append, List.all_append, List.all_cons, List.all_nil, Bool.and_true, c0]
  repeat with_reducible refine an_ ?_
  refine hκ _ _ ?_; clear hκ hξ ξ κ
  refine rt ?_
  refine retE ?_
  simp +decide only [go_sem, resD, resV, Option.toArray_none, Option.toArray_some, Array.toList_append, List.all_append, List.all_cons, List.all_nil, Bool.and_true, c0]
  have hb : treB l = false := by
   rw [← Bool.not_eq_true, treB_true]
   intro h
   have := h.len
   omega
  simp [hb]
 ·try simp only [go_sem] at c0
  refine sk ?_
  refine sq ?_
  refine sr_ [0, 3] [] [] fun κ ξ hκ hξ => ?_
  try simp +decide only [go_sem, Option.toArray_none, Option.toArray_some, Array.toList_append, List.all_append, List.all_cons, List.all_nil, Bool.and_true, c0]
  repeat with_reducible refine an_ ?_
  refine hκ _ _ ?_; clear hκ hξ ξ κ
  refine bl ?_
  refine lp (α := Nat) (fun i => mk [(0, .sl 5 (l.map nrow) t), (3, .int .i64 i)]) (fun _ => []) (fun i => i ≤ l.length ∧ ∀ j, j < i → fmB (nat l j) = true ∧ idx (l.take j) (nat l j).id = -1) (fun i => l.length - i) 0 ⟨⟨by omega, fun j h => by omega⟩, EnvLe.of_eq rfl, .refl _⟩ ?_
  rintro i ⟨hi, hj⟩
  refine sq ?_
  refine sr_ [0, 3, 19] [] [] fun κ ξ hκ hξ => ?_
  try simp +decide only [go_sem, Option.toArray_none, Option.toArray_some, Array.toList_append, List.all_append, List.all_cons, List.all_nil, Bool.and_true, c0]
  repeat with_reducible refine an_ ?_
  refine hκ _ _ ?_; clear hκ hξ ξ κ
  refine cd_ (fun c1 => ?_) (fun c1 => ?_)
  ·try simp only [go_sem] at c1
   refine sk ?_
   refine sq ?_
   refine bl ?_
   refine sr_ [0, 3, 4] [] [] fun κ ξ hκ hξ => ?_
   try simp +decide only [go_sem, Option.toArray_none, Option.toArray_some, Array.toList_append, List.all_append, List.all_cons, List.all_nil, Bool.and_true, c0, c1]
   repeat with_reducible refine an_ ?_
   refine callF (rnode_w _) ?_
   try simp +decide only [go_sem, Option.toArray_none, Option.toArray_some, Array.toList_append, List.all_append, List.all_cons, List.all_nil, Bool.and_true, c0, c1]
   repeat with_reducible refine an_ ?_
   refine hκ _ _ ?_; clear hκ hξ ξ κ
   refine srd_ [0, 3, 40] [] [38] [(2, 29)] fun κ ξ hκ hξ => ?_
   try simp +decide only [go_sem, Option.toArray_none, Option.toArray_some, Array.toList_append, List.all_append, List.all_cons, List.all_nil, Bool.and_true, c0, c1]
   repeat with_reducible refine an_ ?_
   refine vd_gc (by rfl) ?_
   try simp +decide only [go_sem, Option.toArray_none, Option.toArray_some, Array.toList_append, List.all_append, List.all_cons, List.all_nil, Bool.and_true, c0, c1]
   refine gcF (ridx_w _ _ _) ?_
   try simp +decide only [go_sem, Option.toArray_none, Option.toArray_some, Array.toList_append, List.all_append, List.all_cons, List.all_nil, Bool.and_true, c0, c1]
   repeat with_reducible refine an_ ?_
   refine hκ _ _ ?_; clear hκ hξ ξ κ
   refine cd_ (fun c2 => ?_) (fun c2 => ?_)
   ·try simp only [go_sem] at c2
    refine sr_ [2] [] [] fun κ ξ hκ hξ => ?_
    try simp +decide only [go_sem, Option.toArray_none, Option.toArray_some, Array.toList_append, List.all_append, List.all_cons, List.all_nil, Bool.and_true, c0, c1, c2]
    repeat with_reducible refine an_ ?_
    refine hκ _ _ ?_; clear hκ hξ ξ κ
    refine rt ?_
    refine retE ?_
    simp +decide only [go_sem, resD, resV, Option.toArray_none, Option.toArray_some, Array.toList_append, List.all_append, List.all_cons, List.all_nil, Bool.and_true, c0, c1, c2]
    have hb : treB l = false := by
     rw [← Bool.not_eq_true, treB_true]
     intro h
     have h1 := h.form i (by omega)
     have h2 := h.once i (by omega)
     simp [h1, h2] at c2
    simp [hb]
   ·try simp only [go_sem] at c2
    refine sk ?_
    refine rr_ [0, 3] [] [] fun κ ξ hκ hξ => ?_
    try simp +decide only [go_sem, Option.toArray_none, Option.toArray_some, Array.toList_append, List.all_append, List.all_cons, List.all_nil, Bool.and_true, c0, c1, c2]
    repeat with_reducible refine an_ ?_
    refine hκ _ _ ?_; clear hκ hξ ξ κ
    refine ⟨i + 1, ⟨⟨by omega, fun j h => ?_⟩, by omega⟩, EnvLe.of_eq (by rw [w64 (by omega)]; rfl), .refl _⟩
    rcases Nat.lt_succ_iff_lt_or_eq.1 h with h | rfl
    ·exact hj j h
    ·have := idx_ge (l.take j) (nat l j).id
     cases hf : fmB (nat l j) <;> simp [hf] at c2 ⊢
     omega
  ·try simp only [go_sem] at c1
   refine ex ?_
   have hdl := depL_len l l.length
   cases hd : depB l
   ·skip
    refine sr_ [5, 6] [] [] fun κ ξ hκ hξ => ?_
    try simp +decide only [go_sem, Option.toArray_none, Option.toArray_some, Array.toList_append, List.all_append, List.all_cons, List.all_nil, Bool.and_true, c0, c1, hd, hdl]
    repeat with_reducible refine an_ ?_
    refine callF (dep_w _ _ (by omega)) ?_
    try simp +decide only [go_sem, Option.toArray_none, Option.toArray_some, Array.toList_append, List.all_append, List.all_cons, List.all_nil, Bool.and_true, c0, c1, hd, hdl]
    repeat with_reducible refine an_ ?_
    refine hκ _ _ ?_; clear hκ hξ ξ κ
    refine sq ?_
    refine sr_ [5, 6, 7] [] [] fun κ ξ hκ hξ => ?_
    try simp +decide only [go_sem, Option.toArray_none, Option.toArray_some, Array.toList_append, List.all_append, List.all_cons, List.all_nil, Bool.and_true, c0, c1, hd, hdl]
    repeat with_reducible refine an_ ?_
    refine hκ _ _ ?_; clear hκ hξ ξ κ
    refine bl ?_
    refine lp (α := Nat) (fun i => mk [(5, .sl 0 [] .nil), (6, .bool false), (7, .int .i64 i)]) (fun _ => []) (fun i => i = 0) (fun i => 0) 0 ⟨rfl, EnvLe.of_eq rfl, .refl _⟩ ?_
    rintro i rfl
    refine sq ?_
    refine sr_ [5, 6, 7, 49] [] [] fun κ ξ hκ hξ => ?_
    try simp +decide only [go_sem, Option.toArray_none, Option.toArray_some, Array.toList_append, List.all_append, List.all_cons, List.all_nil, Bool.and_true, c0, c1, hd, hdl]
    repeat with_reducible refine an_ ?_
    refine hκ _ _ ?_; clear hκ hξ ξ κ
    refine cd_ (fun c3 => ?_) (fun c3 => ?_)
    ·exfalso; revert c3; simp
    ·skip
     refine ex ?_
     refine sr_ [2] [] [] fun κ ξ hκ hξ => ?_
     try simp +decide only [go_sem, Option.toArray_none, Option.toArray_some, Array.toList_append, List.all_append, List.all_cons, List.all_nil, Bool.and_true, c0, c1, hd, hdl, c3]
     repeat with_reducible refine an_ ?_
     refine hκ _ _ ?_; clear hκ hξ ξ κ
     refine rt ?_
     refine retE ?_
     simp +decide only [go_sem, resD, resV, Option.toArray_none, Option.toArray_some, Array.toList_append, List.all_append, List.all_cons, List.all_nil, Bool.and_true, c0, c1, hd, hdl, c3]
     have h2 := tre_dep (by omega) (fun j hjl => hj j (by omega))
     rw [hd] at h2
     simp [h2]
   ·skip
    refine sr_ [5, 6] [] [] fun κ ξ hκ hξ => ?_
    try simp +decide only [go_sem, Option.toArray_none, Option.toArray_some, Array.toList_append, List.all_append, List.all_cons, List.all_nil, Bool.and_true, c0, c1, hd, hdl]
    repeat with_reducible refine an_ ?_
    refine callF (dep_w _ _ (by omega)) ?_
    try simp +decide only [go_sem, Option.toArray_none, Option.toArray_some, Array.toList_append, List.all_append, List.all_cons, List.all_nil, Bool.and_true, c0, c1, hd, hdl]
    repeat with_reducible refine an_ ?_
    refine hκ _ _ ?_; clear hκ hξ ξ κ
    refine sq ?_
    refine sr_ [5, 6, 7] [] [] fun κ ξ hκ hξ => ?_
    try simp +decide only [go_sem, Option.toArray_none, Option.toArray_some, Array.toList_append, List.all_append, List.all_cons, List.all_nil, Bool.and_true, c0, c1, hd, hdl]
    repeat with_reducible refine an_ ?_
    refine hκ _ _ ?_; clear hκ hξ ξ κ
    refine bl ?_
    refine lp (α := Nat) (fun i => mk [(5, .sl 1 ((depL l l.length).map irow) .no), (6, .bool true), (7, .int .i64 i)]) (fun _ => []) (fun i => i ≤ l.length ∧ ∀ j, j < i → dpt l j ≤ 30) (fun i => l.length - i) 0 ⟨⟨by omega, fun j h => by omega⟩, EnvLe.of_eq rfl, .refl _⟩ ?_
    rintro i ⟨hi, hj2⟩
    refine sq ?_
    refine sr_ [5, 6, 7, 49] [] [] fun κ ξ hκ hξ => ?_
    try simp +decide only [go_sem, Option.toArray_none, Option.toArray_some, Array.toList_append, List.all_append, List.all_cons, List.all_nil, Bool.and_true, c0, c1, hd, hdl]
    repeat with_reducible refine an_ ?_
    refine hκ _ _ ?_; clear hκ hξ ξ κ
    refine cd_ (fun c4 => ?_) (fun c4 => ?_)
    ·simp only [go_sem, hdl] at c4
     have hdi : iat (depL l l.length) i = dpt l i := depL_at (by omega)
     have hdb : (i : Int) < (depL l l.length).length := by rw [hdl]; omega
     refine sk ?_
     refine sq ?_
     refine bl ?_
     refine sr_ [5, 6, 7, 56] [] [] fun κ ξ hκ hξ => ?_
     try simp +decide only [go_sem, Option.toArray_none, Option.toArray_some, Array.toList_append, List.all_append, List.all_cons, List.all_nil, Bool.and_true, c0, c1, hd, hdl, c4, hdi, hdb]
     repeat with_reducible refine an_ ?_
     refine hκ _ _ ?_; clear hκ hξ ξ κ
     refine cd_ (fun c5 => ?_) (fun c5 => ?_)
     ·try simp only [go_sem] at c5
      refine sr_ [2] [] [] fun κ ξ hκ hξ => ?_
      try simp +decide only [go_sem, Option.toArray_none, Option.toArray_some, Array.toList_append, List.all_append, List.all_cons, List.all_nil, Bool.and_true, c0, c1, hd, hdl, c4, hdi, hdb, c5]
      repeat with_reducible refine an_ ?_
      refine hκ _ _ ?_; clear hκ hξ ξ κ
      refine rt ?_
      refine retE ?_
      simp +decide only [go_sem, resD, resV, Option.toArray_none, Option.toArray_some, Array.toList_append, List.all_append, List.all_cons, List.all_nil, Bool.and_true, c0, c1, hd, hdl, c4, hdi, hdb, c5]
      have hb : treB l = false := by
       rw [← Bool.not_eq_true, treB_true]
       intro h
       have := h.deep i (by omega)
       omega
      simp [hb]
     ·try simp only [go_sem] at c5
      refine sk ?_
      refine rr_ [5, 6, 7] [] [] fun κ ξ hκ hξ => ?_
      try simp +decide only [go_sem, Option.toArray_none, Option.toArray_some, Array.toList_append, List.all_append, List.all_cons, List.all_nil, Bool.and_true, c0, c1, hd, hdl, c4, hdi, hdb, c5]
      repeat with_reducible refine an_ ?_
      refine hκ _ _ ?_; clear hκ hξ ξ κ
      refine ⟨i + 1, ⟨⟨by omega, fun j h => ?_⟩, by omega⟩, EnvLe.of_eq (by rw [w64 (by omega)]; rfl), .refl _⟩
      rcases Nat.lt_succ_iff_lt_or_eq.1 h with h | rfl
      ·exact hj2 j h
      ·omega
    ·simp only [go_sem, hdl] at c4
     refine ex ?_
     refine sr_ [2] [] [] fun κ ξ hκ hξ => ?_
     try simp +decide only [go_sem, Option.toArray_none, Option.toArray_some, Array.toList_append, List.all_append, List.all_cons, List.all_nil, Bool.and_true, c0, c1, hd, hdl, c4]
     repeat with_reducible refine an_ ?_
     refine hκ _ _ ?_; clear hκ hξ ξ κ
     refine rt ?_
     refine retE ?_
     simp +decide only [go_sem, resD, resV, Option.toArray_none, Option.toArray_some, Array.toList_append, List.all_append, List.all_cons, List.all_nil, Bool.and_true, c0, c1, hd, hdl, c4]
     have h2 := tre_dep (by omega) (fun j hjl => hj j (by omega))
     rw [hd] at h2
     have h3 : treB l = true := by
      rw [h2]
      simp only [Bool.true_and, decide_eq_true_eq]
      exact fun j h => hj2 j (by omega)
     simp [h3]
end Go.Proofs.YtinhjbnljbmbcaaGreat
/- Plain facts of selectors: what is above a node, what a selector matches. -/
namespace Go.Proofs.YtinhjbnljbmbcaaGreat
open Go Go.RowKit
set_option linter.unusedSimpArgs false
set_option linter.unusedVariables false
/-- The places above a node, the nearest first. -/
def chn (l : List Nd) (i : Nat) : List Nat :=
 if 0 ≤ pix l i then (pix l i).toNat :: chn l (pix l i).toNat else []
termination_by i
decreasing_by
 have := pix_lt l i
 omega
theorem chn_eq (l : List Nd) (i : Nat) : chn l i = if 0 ≤ pix l i then (pix l i).toNat :: chn l (pix l i).toNat else [] := by rw [chn]
def upc (c : List Nat) (j : Nat) : Int := match c[j]? with
 | some x => (x : Int)
 | none => -1
theorem chn_zero (l : List Nd) (i : Nat) : pix l i = upc (chn l i) 0 := by
 have := pix_ge l i
 rw [chn_eq]
 split <;> simp [upc] <;> omega
theorem chn_step (l : List Nd) : ∀ (i : Nat) {j x : Nat}, (chn l i)[j]? = some x → pix l x = upc (chn l i) (j + 1) ∧ x < i := by
 intro i
 induction i using Nat.strongRecOn with
 | ind i ih =>
  intro j x h
  have hlt := pix_lt l i
  rw [chn_eq] at h ⊢
  split at h
  ·rename_i hp
   rw [if_pos hp]
   cases j with
   | zero =>
    simp only [List.getElem?_cons_zero, Option.some.injEq] at h
    subst h
    have := chn_zero l (pix l i).toNat
    refine ⟨?_, by omega⟩
    rw [this]; simp [upc]
   | succ j =>
    rw [List.getElem?_cons_succ] at h
    obtain ⟨h1, h2⟩ := ih (pix l i).toNat (by omega) h
    refine ⟨?_, by omega⟩
    rw [h1]; simp [upc]
  ·simp at h
theorem upc_pos {c : List Nat} {j : Nat} (h : 0 ≤ upc c j) : ∃ x : Nat, c[j]? = some x ∧ upc c j = (x : Int) := by
 unfold upc at h ⊢
 cases hc : c[j]? with
 | none => rw [hc] at h; simp at h
 | some x => exact ⟨x, rfl, rfl⟩
theorem upc_neg {c : List Nat} {j : Nat} (h : ¬ 0 ≤ upc c j) : c.length ≤ j := by
 unfold upc at h
 cases hc : c[j]? with
 | none => exact List.getElem?_eq_none_iff.1 hc
 | some x => rw [hc] at h; simp at h
theorem chn_len (l : List Nd) : ∀ i, ((chn l i).length : Int) + 1 = dpt l i := by
 intro i
 induction i using Nat.strongRecOn with
 | ind i ih =>
  have hlt := pix_lt l i
  rw [chn_eq, dpt_eq]
  split
  ·have := ih (pix l i).toNat (by omega)
   rw [List.length_cons]; omega
  ·simp
theorem up_pix {l : List Nd} (h : Tree l) {i : Nat} (hi : i < l.length) : idx l (nat l i).par = pix l i := by
 by_cases h0 : 0 < i
 ·have hu := (h.up i h0 hi).1
  rcases idx_cases (l.take i) (nat l i).par with ⟨k, hk, h1, h2, h3⟩ | ⟨_, h3⟩
  ·rw [List.length_take] at hk
   have e : pix l i = (k : Int) := h3
   rw [e]
   refine idx_is (by omega) ?_ fun j hj => ?_
   ·rw [← h1, nat_take (by omega)]
   ·have := h2 j hj
    rwa [nat_take (by omega)] at this
  ·have : pix l i = -1 := h3
   omega
 ·obtain rfl : i = 0 := by omega
  rw [h.root.1, pix_zero]
  refine idx_no fun j hj => ?_
  have := (fm_id (h.form j hj)).1
  omega
/-- What a selector's first tests match. -/
def mtB (l : List Nd) (ts : List Ts) : Nat → Nat → Bool
 | 0, _ => false
 | k + 1, i => fuB (nat l i) (tat ts k) && (decide (k = 0) || (if (tat ts k).child = true then (chn l i).take 1 else chn l i).any (mtB l ts k))
theorem any_hit {c : List Nat} {ch : Bool} {j x : Nat} {f : Nat → Bool} (hx : c[j]? = some x) (hf : f x = true) (h0 : ch = true → j = 0) : (if ch = true then c.take 1 else c).any f = true := by
 rw [List.any_eq_true]
 refine ⟨x, ?_, hf⟩
 split
 ·have := h0 ‹_›
  subst this
  cases c with
  | nil => simp at hx
  | cons a c => simp at hx ⊢; exact hx.symm
 ·exact List.mem_of_getElem? hx
theorem any_miss {c : List Nat} {ch : Bool} {j : Nat} {f : Nat → Bool} (h : ∀ q x, q < j → c[q]? = some x → f x = false) (hj : c.length ≤ j ∨ (ch = true ∧ 1 ≤ j)) : (if ch = true then c.take 1 else c).any f = false := by
 rw [List.any_eq_false]
 intro x hx
 rw [Bool.not_eq_true]
 split at hx
 ·obtain ⟨q, hq, e⟩ := List.mem_iff_getElem.1 hx
  rw [List.length_take] at hq
  have e2 : c[q]? = some x := by
   rw [List.getElem_take] at e
   rw [← e]; exact List.getElem?_eq_getElem (by omega)
  exact h q x (by omega) e2
 ·obtain ⟨q, hq, e⟩ := List.mem_iff_getElem.1 hx
  rcases hj with hj | hj
  ·exact h q x (by omega) (by rw [← e]; exact List.getElem?_eq_getElem hq)
  ·exact absurd hj.1 ‹_›
/-- Weights. -/
def wt1 (t : Ts) : Int := (if t.id ≠ 0 then 10000 else 0) + (if t.cls ≠ 0 then 100 else 0) + (if t.kind ≠ 0 then 1 else 0)
def wtL (l : List Ts) : Int := (l.map wt1).sum
theorem wtL_take {l : List Ts} {i : Nat} (h : i < l.length) : wtL (l.take (i + 1)) = wtL (l.take i) + wt1 (tat l i) := by
 have e : l[i]? = some (tat l i) := by simp [tat, List.getD_eq_getElem?_getD, h]
 unfold wtL
 rw [List.take_add_one, e]
 simp
theorem wt1_range (t : Ts) : 0 ≤ wt1 t ∧ wt1 t ≤ 10101 := by
 unfold wt1
 split <;> split <;> split <;> omega
theorem wtL_range : ∀ l : List Ts, 0 ≤ wtL l ∧ wtL l ≤ 10101 * (l.length : Int)
 | [] => by simp [wtL]
 | t :: l => by
  have := wtL_range l
  have := wt1_range t
  simp only [wtL, List.map_cons, List.sum_cons, List.length_cons] at *
  omega
end Go.Proofs.YtinhjbnljbmbcaaGreat
/- Plain facts of the selector's forest: a map from numbers to nodes. -/
namespace Go.Proofs.YtinhjbnljbmbcaaGreat
open Go Go.RowKit
set_option linter.unusedSimpArgs false
set_option linter.unusedVariables false
def putN (k : Int) (n : Nd) : List (Int × Nd) → List (Int × Nd)
 | [] => [(k, n)]
 | x :: xs => if k = x.1 then (k, n) :: xs else x :: putN k n xs
def forL (l : List Nd) : List (Int × Nd) := l.foldl (fun a n => putN n.id n a) []
def forE (a : List (Int × Nd)) : List (D × D) := a.map fun x => (.int .i64 x.1, .ag (nrow x.2))
theorem for_put (k : Int) (n : Nd) : ∀ a : List (Int × Nd), mput (.int .i64 k) (.ag (nrow n)) (forE a) = some (forE (putN k n a))
 | [] => rfl
 | x :: xs => by
  have ih := for_put k n xs
  unfold forE at ih ⊢
  simp only [List.map_cons, mput, keq_int, putN]
  by_cases h : k = x.1
  ·simp [h]
  ·simp [h, ih]
theorem for_put' (n : Nd) (a : List (Int × Nd)) : mput (.int .i64 n.id) (.ag [.int .i64 n.id, .int .i64 n.par, .int .i64 n.kind, .int .i64 n.cls, .str n.txt]) (forE a) = some (forE (putN n.id n a)) := for_put n.id n a
theorem forL_take {l : List Nd} {i : Nat} (h : i < l.length) : forL (l.take (i + 1)) = putN (nat l i).id (nat l i) (forL (l.take i)) := by
 have e : l[i]? = some (nat l i) := by simp [nat, List.getD_eq_getElem?_getD, h]
 unfold forL
 rw [List.take_add_one, e, List.foldl_append]
 rfl
theorem putN_new {k : Int} {n : Nd} : ∀ {a : List (Int × Nd)}, (∀ x ∈ a, k ≠ x.1) → putN k n a = a ++ [(k, n)]
 | [], _ => rfl
 | x :: xs, h => by
  rw [putN, if_neg (h x (by simp)), putN_new fun y hy => h y (List.mem_cons_of_mem _ hy)]
  rfl
theorem mem_nat {l : List Nd} {n : Nd} (h : n ∈ l) : ∃ j, j < l.length ∧ nat l j = n := by
 obtain ⟨j, hj, e⟩ := List.mem_iff_getElem.1 h
 exact ⟨j, hj, by simp [nat, List.getD_eq_getElem?_getD, hj, e]⟩
theorem forL_tree {l : List Nd} (hT : Tree l) : ∀ i, i ≤ l.length → forL (l.take i) = (l.take i).map fun n => (n.id, n)
 | 0, _ => rfl
 | i + 1, h => by
  have e : l[i]? = some (nat l i) := by simp [nat, List.getD_eq_getElem?_getD, show i < l.length by omega]
  rw [forL_take (by omega), forL_tree hT i (by omega), putN_new, List.take_add_one, e, List.map_append]
  ·rfl
  ·intro x hx
   obtain ⟨n, hn, rfl⟩ := List.mem_map.1 hx
   obtain ⟨j, hj, rfl⟩ := mem_nat hn
   rcases idx_cases (l.take i) (nat l i).id with ⟨k, hk, h1, h2, h3⟩ | ⟨h2, _⟩
   ·have := hT.once i (by omega); omega
   ·exact fun e => h2 j hj e.symm
def ndk (l : List Nd) (k : Int) : Nd := if 0 ≤ idx l k then nat l (idx l k).toNat else nd0
theorem fore_find {k : Int} : ∀ {l : List Nd} {i : Nat}, i < l.length → (nat l i).id = k → (∀ j, j < i → (nat l j).id ≠ k) → ((l.map fun n => (n.id, n)).find? fun x => decide (k = x.1)) = some (k, nat l i)
 | [], _, h, _, _ => by simp at h
 | n :: l, 0, _, h1, _ => by
  have e : n.id = k := h1
  simp [e, nat]
 | n :: l, i + 1, h, h1, h2 => by
  have e : n.id ≠ k := h2 0 (by omega)
  have := fore_find (k := k) (l := l) (i := i) (by simpa using h) h1 fun j hj => h2 (j + 1) (by omega)
  simp only [List.map_cons, List.find?_cons]
  rw [decide_eq_false (fun x => e x.symm)]
  simpa [nat] using this
theorem fore_none {k : Int} {l : List Nd} (h : ∀ j, j < l.length → (nat l j).id ≠ k) : ((l.map fun n => (n.id, n)).find? fun x => decide (k = x.1)) = none := by
 rw [List.find?_eq_none]
 intro x hx
 obtain ⟨n, hn, rfl⟩ := List.mem_map.1 hx
 obtain ⟨j, hj, rfl⟩ := mem_nat hn
 simpa using fun e => h j hj e.symm
theorem for_get {l : List Nd} (hT : Tree l) (k : Int) : mget (.int .i64 k) (forE (forL l)) = some (if 0 ≤ idx l k then some (.ag (nrow (ndk l k))) else none) := by
 have e := forL_tree hT l.length (Nat.le_refl _)
 rw [List.take_length] at e
 rw [e]
 have := mget_map (fun k => .int .i64 k) (fun n : Nd => .ag (nrow n)) keq_int k (l.map fun n => (n.id, n))
 unfold forE
 rw [this]
 unfold ndk
 rcases idx_cases l k with ⟨i, hi, h1, h2, h3⟩ | ⟨h2, h3⟩
 ·rw [fore_find hi h1 h2, h3]
  simp
 ·rw [fore_none h2, h3]
  simp
theorem for_look (l : List Nd) (k : Int) : lookD true (.ag [.int .i64 0, .int .i64 0, .int .i64 0, .int .i64 0, .str []]) (if 0 ≤ idx l k then some (.ag (nrow (ndk l k))) else none) = .tup [.ag (nrow (ndk l k)), .bool (decide (0 ≤ idx l k))] := by
 by_cases h : 0 ≤ idx l k
 ·simp [h, lookD]
 ·rw [if_neg h, lookD_n]
  simp [h, ndk, nrow, nd0]
theorem for_look' (l : List Nd) (k : Int) : lookD false (.ag [.int .i64 0, .int .i64 0, .int .i64 0, .int .i64 0, .str []]) (if 0 ≤ idx l k then some (.ag (nrow (ndk l k))) else none) = .ag (nrow (ndk l k)) := by
 by_cases h : 0 ≤ idx l k
 ·simp [h, lookD]
 ·rw [if_neg h, lookD_fn]
  simp [h, ndk, nrow, nd0]
/-- The place of the i-th above, the node itself being the 0th. -/
def cur (l : List Nd) (i j : Nat) : Nat := (i :: chn l i).getD j 0
theorem cur_zero (l : List Nd) (i : Nat) : cur l i 0 = i := rfl
theorem cur_succ {l : List Nd} {i j x : Nat} (h : (chn l i)[j]? = some x) : cur l i (j + 1) = x := by
 unfold cur
 simp [List.getD_eq_getElem?_getD, h]
theorem cur_pix {l : List Nd} {i j : Nat} (h : j ≤ (chn l i).length) : pix l (cur l i j) = upc (chn l i) j ∧ cur l i j ≤ i := by
 cases j with
 | zero => exact ⟨chn_zero l i, Nat.le_refl _⟩
 | succ j =>
  have e : (chn l i)[j]? = some (chn l i)[j] := List.getElem?_eq_getElem (by omega)
  rw [cur_succ e]
  obtain ⟨h1, h2⟩ := chn_step l i e
  exact ⟨h1, by omega⟩
theorem par_zero {l : List Nd} (hT : Tree l) {i : Nat} (hi : i < l.length) : (nat l i).par = 0 ↔ ¬ 0 ≤ pix l i := by
 by_cases h0 : 0 < i
 ·have hu := (hT.up i h0 hi).1
  refine ⟨fun e => ?_, fun h => absurd hu h⟩
  have := up_pix hT hi
  rw [e] at this
  rw [idx_no] at this
  ·omega
  ·intro j hj
   have := (fm_id (hT.form j hj)).1
   omega
 ·obtain rfl : i = 0 := by omega
  rw [hT.root.1, pix_zero]
  simp
theorem idx_self {l : List Nd} (hT : Tree l) {i : Nat} (hi : i < l.length) : idx l (nat l i).id = i := by
 refine idx_is hi rfl fun j hj => ?_
 rcases idx_cases (l.take i) (nat l i).id with ⟨k, hk, h1, h2, h3⟩ | ⟨h2, _⟩
 ·have := hT.once i hi; omega
 ·have := h2 j (by rw [List.length_take]; omega)
  rwa [nat_take hj] at this
end Go.Proofs.YtinhjbnljbmbcaaGreat
/- The walks of the reference's selector. Printed by a tool of our own. -/
namespace Go.Proofs.YtinhjbnljbmbcaaGreat
open Go Go.RowKit
set_option linter.unusedSimpArgs false
set_option linter.unusedVariables false
set_option maxHeartbeats 4000000
set_option maxRecDepth 100000
attribute [local go_sem] List.length_map rowAt_n nrow rowAt_t trow rowAt_i irow
attribute [local go_sem] pl_getF pl_lookF pl_lookF' foldI
end Go.Proofs.YtinhjbnljbmbcaaGreat
