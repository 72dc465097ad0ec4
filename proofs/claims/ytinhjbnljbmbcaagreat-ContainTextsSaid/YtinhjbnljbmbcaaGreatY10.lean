/- The walks of the selector's forest. Printed by a tool of our own. -/
import Derived.Test.YtinhjbnljbmbcaaGreatY09
namespace Go.Proofs.YtinhjbnljbmbcaaGreat
open Go Go.RowKit
set_option linter.unusedSimpArgs false
set_option linter.unusedVariables false
set_option maxHeartbeats 4000000
set_option maxRecDepth 100000
theorem permX {α : Type} (x a b c : α) (t : List α) : (x :: a :: b :: c :: t).Perm (a :: c :: x :: b :: t) :=
 (List.Perm.swap a x _).trans ((List.perm_middle (l₁ := [x, b]) (a := c) (l₂ := t)).cons a)
attribute [local go_sem] List.length_map rowAt_n nrow rowAt_t trow rowAt_i irow
attribute [local go_sem] for_put for_put' for_look for_look'
theorem ful_w (n : Nd) (t : Ts) : PCall Tryz.prog (.func 202) [.ag (nrow n), .ag (trow t)] (.bool (fuB n t)) := by
 refine PCall.le ?_
 refine fn_ Tryz.func202 (by rfl) (by rfl) (rs := [.tmp 4]) (by rfl) (by simp [Tryz.f202]) ?_
 refine sr_ [2, 3] [2, 3] [] fun κ ξ hκ hξ => ?_
 try simp +decide only [go_sem]
 repeat with_reducible refine an_ ?_
 refine hκ _ _ ?_; clear hκ hξ ξ κ
 refine sr_ [2, 3, 5] [] [] fun κ ξ hκ hξ => ?_
 try simp +decide only [go_sem]
 repeat with_reducible refine an_ ?_
 intro b5 hb5
 try simp +decide only [go_sem, hb5]
 repeat with_reducible refine an_ ?_
 refine hκ _ _ ?_; clear hκ hξ ξ κ
 refine sq ?_
 refine sr_ [2, 3, 5, 11] [] [] fun κ ξ hκ hξ => ?_
 try simp +decide only [go_sem, hb5]
 repeat with_reducible refine an_ ?_
 refine hκ _ _ ?_; clear hκ hξ ξ κ
 refine cd_ (fun c0 => ?_) (fun c0 => ?_)
 ·try simp only [go_sem] at c0
  refine rr_ [2, 3, 5] [] [] fun κ ξ hκ hξ => ?_
  try simp +decide only [go_sem, hb5, c0]
  repeat with_reducible refine an_ ?_
  refine hκ _ _ ?_; clear hκ hξ ξ κ
  refine sq ?_
  refine sr_ [2, 3, 5, 17] [] [] fun κ ξ hκ hξ => ?_
  try simp +decide only [go_sem, hb5, c0]
  repeat with_reducible refine an_ ?_
  refine hκ _ _ ?_; clear hκ hξ ξ κ
  refine cd_ (fun c1 => ?_) (fun c1 => ?_)
  ·try simp only [go_sem] at c1
   refine rr_ [2, 3, 5] [] [] fun κ ξ hκ hξ => ?_
   try simp +decide only [go_sem, hb5, c0, c1]
   repeat with_reducible refine an_ ?_
   refine hκ _ _ ?_; clear hκ hξ ξ κ
   refine sq ?_
   refine sr_ [2, 3, 5, 23] [] [] fun κ ξ hκ hξ => ?_
   try simp +decide only [go_sem, hb5, c0, c1]
   repeat with_reducible refine an_ ?_
   refine hκ _ _ ?_; clear hκ hξ ξ κ
   refine cd_ (fun c2 => ?_) (fun c2 => ?_)
   ·try simp only [go_sem] at c2
    refine rr_ [3, 5] [] [] fun κ ξ hκ hξ => ?_
    try simp +decide only [go_sem, hb5, c0, c1, c2]
    repeat with_reducible refine an_ ?_
    refine hκ _ _ ?_; clear hκ hξ ξ κ
    refine sr_ [4] [] [] fun κ ξ hκ hξ => ?_
    try simp +decide only [go_sem, hb5, c0, c1, c2]
    repeat with_reducible refine an_ ?_
    refine hκ _ _ ?_; clear hκ hξ ξ κ
    refine rt ?_
    refine retE ?_
    simp +decide only [go_sem, resD, resV, hb5, c0, c1, c2]
    all_goals congr 1
    all_goals unfold fuB
    all_goals rw [Bool.eq_iff_iff]
    all_goals simp [*]
    all_goals omega
   ·try simp only [go_sem] at c2
    refine sk ?_
    refine sr_ [4] [] [] fun κ ξ hκ hξ => ?_
    try simp +decide only [go_sem, hb5, c0, c1, c2]
    repeat with_reducible refine an_ ?_
    refine hκ _ _ ?_; clear hκ hξ ξ κ
    refine rt ?_
    refine retE ?_
    simp +decide only [go_sem, resD, resV, hb5, c0, c1, c2]
    all_goals congr 1
    all_goals unfold fuB
    all_goals rw [Bool.eq_iff_iff]
    all_goals simp [*]
    all_goals omega
  ·try simp only [go_sem] at c1
   refine sk ?_
   refine sq ?_
   refine sr_ [2, 3, 5, 23] [] [] fun κ ξ hκ hξ => ?_
   try simp +decide only [go_sem, hb5, c0, c1]
   repeat with_reducible refine an_ ?_
   refine hκ _ _ ?_; clear hκ hξ ξ κ
   refine cd_ (fun c3 => ?_) (fun c3 => ?_)
   ·try simp only [go_sem] at c3
    refine rr_ [3, 5] [] [] fun κ ξ hκ hξ => ?_
    try simp +decide only [go_sem, hb5, c0, c1, c3]
    repeat with_reducible refine an_ ?_
    refine hκ _ _ ?_; clear hκ hξ ξ κ
    refine sr_ [4] [] [] fun κ ξ hκ hξ => ?_
    try simp +decide only [go_sem, hb5, c0, c1, c3]
    repeat with_reducible refine an_ ?_
    refine hκ _ _ ?_; clear hκ hξ ξ κ
    refine rt ?_
    refine retE ?_
    simp +decide only [go_sem, resD, resV, hb5, c0, c1, c3]
    all_goals congr 1
    all_goals unfold fuB
    all_goals rw [Bool.eq_iff_iff]
    all_goals simp [*]
    all_goals omega
   ·try simp only [go_sem] at c3
    refine sk ?_
    refine sr_ [4] [] [] fun κ ξ hκ hξ => ?_
    try simp +decide only [go_sem, hb5, c0, c1, c3]
    repeat with_reducible refine an_ ?_
    refine hκ _ _ ?_; clear hκ hξ ξ κ
    refine rt ?_
    refine retE ?_
    simp +decide only [go_sem, resD, resV, hb5, c0, c1, c3]
    all_goals congr 1
    all_goals unfold fuB
    all_goals rw [Bool.eq_iff_iff]
    all_goals simp [*]
    all_goals omega
 ·try simp only [go_sem] at c0
  refine sk ?_
  refine sq ?_
  refine sr_ [2, 3, 5, 17] [] [] fun κ ξ hκ hξ => ?_
  try simp +decide only [go_sem, hb5, c0]
  repeat with_reducible refine an_ ?_
  refine hκ _ _ ?_; clear hκ hξ ξ κ
  refine cd_ (fun c4 => ?_) (fun c4 => ?_)
  ·try simp only [go_sem] at c4
   refine rr_ [2, 3, 5] [] [] fun κ ξ hκ hξ => ?_
   try simp +decide only [go_sem, hb5, c0, c4]
   repeat with_reducible refine an_ ?_
   refine hκ _ _ ?_; clear hκ hξ ξ κ
   refine sq ?_
   refine sr_ [2, 3, 5, 23] [] [] fun κ ξ hκ hξ => ?_
   try simp +decide only [go_sem, hb5, c0, c4]
   repeat with_reducible refine an_ ?_
   refine hκ _ _ ?_; clear hκ hξ ξ κ
   refine cd_ (fun c5 => ?_) (fun c5 => ?_)
   ·try simp only [go_sem] at c5
    refine rr_ [3, 5] [] [] fun κ ξ hκ hξ => ?_
    try simp +decide only [go_sem, hb5, c0, c4, c5]
    repeat with_reducible refine an_ ?_
    refine hκ _ _ ?_; clear hκ hξ ξ κ
    refine sr_ [4] [] [] fun κ ξ hκ hξ => ?_
    try simp +decide only [go_sem, hb5, c0, c4, c5]
    repeat with_reducible refine an_ ?_
    refine hκ _ _ ?_; clear hκ hξ ξ κ
    refine rt ?_
    refine retE ?_
    simp +decide only [go_sem, resD, resV, hb5, c0, c4, c5]
    all_goals congr 1
    all_goals unfold fuB
    all_goals rw [Bool.eq_iff_iff]
    all_goals simp [*]
    all_goals omega
   ·try simp only [go_sem] at c5
    refine sk ?_
    refine sr_ [4] [] [] fun κ ξ hκ hξ => ?_
    try simp +decide only [go_sem, hb5, c0, c4, c5]
    repeat with_reducible refine an_ ?_
    refine hκ _ _ ?_; clear hκ hξ ξ κ
    refine rt ?_
    refine retE ?_
    simp +decide only [go_sem, resD, resV, hb5, c0, c4, c5]
    all_goals congr 1
    all_goals unfold fuB
    all_goals rw [Bool.eq_iff_iff]
    all_goals simp [*]
    all_goals omega
  ·try simp only [go_sem] at c4
   refine sk ?_
   refine sq ?_
   refine sr_ [2, 3, 5, 23] [] [] fun κ ξ hκ hξ => ?_
   try simp +decide only [go_sem, hb5, c0, c4]
   repeat with_reducible refine an_ ?_
   refine hκ _ _ ?_; clear hκ hξ ξ κ
   refine cd_ (fun c6 => ?_) (fun c6 => ?_)
   ·try simp only [go_sem] at c6
    refine rr_ [3, 5] [] [] fun κ ξ hκ hξ => ?_
    try simp +decide only [go_sem, hb5, c0, c4, c6]
    repeat with_reducible refine an_ ?_
    refine hκ _ _ ?_; clear hκ hξ ξ κ
    refine sr_ [4] [] [] fun κ ξ hκ hξ => ?_
    try simp +decide only [go_sem, hb5, c0, c4, c6]
    repeat with_reducible refine an_ ?_
    refine hκ _ _ ?_; clear hκ hξ ξ κ
    refine rt ?_
    refine retE ?_
    simp +decide only [go_sem, resD, resV, hb5, c0, c4, c6]
    all_goals congr 1
    all_goals unfold fuB
    all_goals rw [Bool.eq_iff_iff]
    all_goals simp [*]
    all_goals omega
   ·try simp only [go_sem] at c6
    refine sk ?_
    refine sr_ [4] [] [] fun κ ξ hκ hξ => ?_
    try simp +decide only [go_sem, hb5, c0, c4, c6]
    repeat with_reducible refine an_ ?_
    refine hκ _ _ ?_; clear hκ hξ ξ κ
    refine rt ?_
    refine retE ?_
    simp +decide only [go_sem, resD, resV, hb5, c0, c4, c6]
    all_goals congr 1
    all_goals unfold fuB
    all_goals rw [Bool.eq_iff_iff]
    all_goals simp [*]
    all_goals omega
theorem prep_w (l : List Nd) (ts : List Ts) (t u : Tok) : RCall Tryz.prog (.func 178) [.sl 5 (l.map nrow) t, .sl 4 (ts.map trow) u] [] (fun (b : Nat) => .tup [.mp b, .bool (selB ts && treB l)]) (fun (b : Nat) => [(b, .map (forE (forL l)))]) (fun (b : Nat) => True) := by
 refine RCall.ok fun hok => ?_
 simp only [okAll, D.ok, okRows, and_true, true_and, lim_eq, inR_i64', inR_i32', inR_u8', inR_u16', inR_u64'] at hok
 obtain ⟨hl, hr⟩ := hok; rw [List.length_map] at hl
 refine fn_ Tryz.func178 (by rfl) (by rfl) (rs := [.tmp 4, .tmp 5]) (by rfl) (by simp [Tryz.f178]) ?_
 refine sr_ [0, 1] [] [] fun κ ξ hκ hξ => ?_
 try simp +decide only [go_sem]
 repeat with_reducible refine an_ ?_
 refine hκ _ _ ?_; clear hκ hξ ξ κ
 refine sr_ [0, 1, 6] [] [] fun κ ξ hκ hξ => ?_
 try simp +decide only [go_sem]
 repeat with_reducible refine an_ ?_
 intro b9 hb9
 try simp +decide only [go_sem, hb9]
 repeat with_reducible refine an_ ?_
 refine hκ _ _ ?_; clear hκ hξ ξ κ
 refine sq ?_
 refine sr_ [0, 1, 6, 10, 11, 12] [] [] fun κ ξ hκ hξ => ?_
 try simp +decide only [go_sem, hb9]
 repeat with_reducible refine an_ ?_
 refine hκ _ _ ?_; clear hκ hξ ξ κ
 refine bl ?_
 refine lp (α := Nat) (fun i => mk [(0, .sl 5 (l.map nrow) t), (1, .sl 4 (ts.map trow) u), (6, .mp b9), (10, .sl 5 (l.map nrow) t), (11, .int .i64 l.length), (12, .int .i64 i)]) (fun i => [(b9, .map (forE (forL (l.take i))))]) (fun i => i ≤ l.length) (fun i => l.length - i) 0 ⟨by omega, EnvLe.of_eq rfl, .refl _⟩ ?_
 intro i hi
 refine sr_ [0, 1, 6, 10, 11, 12, 13] [] [] fun κ ξ hκ hξ => ?_
 try simp +decide only [go_sem, hb9]
 repeat with_reducible refine an_ ?_
 refine hκ _ _ ?_; clear hκ hξ ξ κ
 refine sq ?_
 refine cd_ (fun c0 => ?_) (fun c0 => ?_)
 ·try simp only [go_sem] at c0
  refine sk ?_
  refine sq ?_
  refine bl ?_
  refine srz_ [(8, [])] [0, 1, 6, 8, 10, 11, 12] [] [] fun κ ξ hκ hξ => ?_
  try simp +decide only [go_sem, hb9, c0]
  repeat with_reducible refine an_ ?_
  intro b8 hb8
  try simp +decide only [go_sem, hb9, c0, hb8]
  repeat with_reducible refine an_ ?_
  refine hκ _ _ ?_; clear hκ hξ ξ κ
  refine rr_ [0, 1, 6, 10, 11, 12] [] [] fun κ ξ hκ hξ => ?_
  try simp +decide only [go_sem, hb9, c0, hb8]
  repeat with_reducible refine an_ ?_
  refine hκ _ _ ?_; clear hκ hξ ξ κ
  refine rr_ [0, 1, 6, 10, 11, 12] [] [] fun κ ξ hκ hξ => ?_
  try simp +decide only [go_sem, hb9, c0, hb8]
  repeat with_reducible refine an_ ?_
  refine hκ _ _ ?_; clear hκ hξ ξ κ
  refine ⟨i + 1, ⟨by omega, by omega⟩, EnvLe.of_eq (by rw [w64 (by omega)]; rfl), ?_⟩
  rw [forL_take (by omega)]; exact .refl _
 ·try simp only [go_sem] at c0
  refine ex ?_
  refine sr_ [4, 5] [] [(3, 24)] fun κ ξ hκ hξ => ?_
  try simp +decide only [go_sem, hb9, c0]
  repeat with_reducible refine an_ ?_
  refine callF (sel_w _ _) ?_
  try simp +decide only [go_sem, hb9, c0]
  repeat with_reducible refine an_ ?_
  refine vo_gc ?_
  try simp +decide only [go_sem, hb9, c0]
  refine gcF (tre_w _ _) ?_
  try simp +decide only [go_sem, hb9, c0]
  repeat with_reducible refine an_ ?_
  refine hκ _ _ ?_; clear hκ hξ ξ κ
  have hil : i = l.length := by omega
  subst hil
  rw [List.take_length]
  refine rt ?_
  refine retR (b9) ?_ ?_ ?_
  ·first | exact .refl _ | exact List.nil_sublist _ | exact List.sublist_cons_of_sublist _ (.refl _) | exact ((List.Sublist.refl _).cons _).cons _ | (simp [*]; done) | skip
  ·first | trivial | assumption | omega | (simp; done) | skip
  simp +decide only [go_sem, resD, resV, hb9, c0]
  all_goals simp
theorem above_w (n : Nd) (bm : Nat) : RCall Tryz.prog (.func 203) [.mp bm, .ag (nrow n)] [] (fun (b : Nat) => .fn (.func 207) [] [.ptr b 0, .el [.mp bm]]) (fun (b : Nat) => [(b, .cells (nrow n))]) (fun (b : Nat) => True) := by
 refine fn_ Tryz.func203 (by rfl) (by rfl) (rs := [.tmp 4]) (by rfl) (by simp [Tryz.f203]) ?_
 refine sr_ [2, 3] [2] [] fun κ ξ hκ hξ => ?_
 try simp +decide only [go_sem]
 repeat with_reducible refine an_ ?_
 intro b3 hb3
 try simp +decide only [go_sem, hb3]
 repeat with_reducible refine an_ ?_
 refine hκ _ _ ?_; clear hκ hξ ξ κ
 refine sr_ [4] [] [] fun κ ξ hκ hξ => ?_
 try simp +decide only [go_sem, hb3]
 repeat with_reducible refine an_ ?_
 refine hκ _ _ ?_; clear hκ hξ ξ κ
 refine rt ?_
 refine retR (b3) ?_ ?_ ?_
 ·first | exact .refl _ | exact List.nil_sublist _ | exact List.sublist_cons_of_sublist _ (.refl _) | exact ((List.Sublist.refl _).cons _).cons _ | (simp [*]; done) | skip
 ·first | trivial | assumption | omega | (simp; done) | skip
 simp +decide only [go_sem, resD, resV, hb3]
 all_goals simp
theorem above1_w (l : List Nd) (hT : Tree l) (i : Nat) (hi : i < l.length) (bn bm : Nat) (hne : ¬ bm = bn) (τ : Store) (y : Fn) (Jx : Store → Prop) (A : Nat → Prop) (hA : A 0) (hy : ∀ (z : List D) (j x : Nat), (chn l i)[j]? = some x → A j → ACall Tryz.prog y [.ag (nrow (nat l x))] ((bn, .cells z) :: (bm, .map (forE (forL l))) :: τ) fun r τ' => (r = .ret (.bool true) ∧ A (j + 1) ∧ τ' = (bn, .cells z) :: (bm, .map (forE (forL l))) :: τ) ∨ (r = .ret (.bool false) ∧ Jx τ')) : ACall Tryz.prog (.func 207) [.fn y [] [], .ptr bn 0, .el [.mp bm]] ((bn, .cells (nrow (nat l i))) :: (bm, .map (forE (forL l))) :: τ) (fun r τ' => (∃ d, r = .ret d) ∧ ((∃ z, τ' = (bn, .cells z) :: (bm, .map (forE (forL l))) :: τ ∧ A (chn l i).length) ∨ Jx τ')) := by
 have hne' : ¬ bn = bm := fun e => hne e.symm
 have hfg := for_get hT
 refine fn_ Tryz.func207 (by rfl) (by rfl) (rs := []) (by rfl) (by simp [Tryz.f207]) ?_
 refine bl ?_
 refine lp (α := Nat) (fun j => mk [(0, .fn y [] []), (1, .ptr bn 0), (2, .el [.mp bm])]) (fun j => (bn, .cells (nrow (nat l (cur l i j)))) :: (bm, .map (forE (forL l))) :: τ) (fun j => j ≤ (chn l i).length ∧ A j) (fun j => (chn l i).length - j) 0 ⟨⟨by omega, hA⟩, EnvLe.of_eq rfl, .refl _⟩ ?_
 rintro j ⟨hj, hAj⟩
 obtain ⟨hcp, hcl⟩ := cur_pix (l := l) (i := i) hj
 have hup := up_pix hT (show cur l i j < l.length by omega)
 have hpz := par_zero hT (show cur l i j < l.length by omega)
 refine sq ?_
 refine sr_ [0, 1, 2, 6] [] [] fun κ ξ hκ hξ => ?_
 try simp +decide only [go_sem, hne, hne', hfg]
 repeat with_reducible refine an_ ?_
 refine hκ _ _ ?_; clear hκ hξ ξ κ
 refine cd_ (fun c0 => ?_) (fun c0 => ?_)
 ·simp only [go_sem] at c0
  obtain ⟨x, hx, hux⟩ : ∃ x : Nat, (chn l i)[j]? = some x ∧ upc (chn l i) j = (x : Int) := upc_pos (by rw [← hcp]; by_cases h : 0 ≤ pix l (cur l i j); exact h; exact absurd (hpz.2 h) c0)
  have hnk : ndk l (nat l (cur l i j)).par = nat l x := by
   unfold ndk
   rw [hup, hcp, hux, if_pos (by omega), Int.toNat_natCast]
  have hge : 0 ≤ idx l (nat l (cur l i j)).par := by rw [hup, hcp, hux]; omega
  refine sk ?_
  refine bl ?_
  refine sr_ [0, 1, 2] [] [] fun κ ξ hκ hξ => ?_
  try simp +decide only [go_sem, hne, hne', hfg, c0, hnk, hge, if_true, lookD_fs]
  repeat with_reducible refine an_ ?_
  refine hκ _ _ ?_; clear hκ hξ ξ κ
  refine sr_ [0, 1, 2, 14] [] [] fun κ ξ hκ hξ => ?_
  try simp +decide only [go_sem, hne, hne', hfg, c0, hnk, hge, if_true, lookD_fs]
  repeat with_reducible refine an_ ?_
  refine callY (hy _ j x hx hAj) ?_
  intro bb τ2 ht hf
  try simp +decide only [go_sem, hne, hne', hfg, c0, hnk, hge, if_true, lookD_fs]
  repeat with_reducible refine an_ ?_
  refine hκ _ _ ?_; clear hκ hξ ξ κ
  refine cd_ (fun c1 => ?_) (fun c1 => ?_)
  ·try simp only [go_sem] at c1
   refine rt ?_
   exact ⟨trivial, _, .refl _, ⟨_, rfl⟩, .inr (hf (by simpa using c1))⟩
  ·try simp only [go_sem] at c1
   refine sk ?_
   have hjl := (List.getElem?_eq_some_iff.1 hx).1
   obtain ⟨hA1, rfl⟩ := ht (by simpa using c1)
   refine ⟨j + 1, ⟨⟨by omega, hA1⟩, by omega⟩, EnvLe.of_l ⟨rfl, rfl, rfl, trivial⟩, ?_⟩
   rw [cur_succ hx]; exact .refl _
 ·simp only [go_sem] at c0
  refine ex ?_
  refine ⟨trivial, _, .refl _, ⟨_, rfl⟩, .inl ⟨_, rfl, ?_⟩⟩
  have e : j = (chn l i).length := by
   have := upc_neg (c := chn l i) (j := j) (by rw [← hcp]; exact hpz.1 (by simpa using c0))
   omega
  exact e ▸ hAj
theorem mt_s (l : List Nd) (ts : List Ts) (u : Tok) (hT : Tree l) (bm bq : Nat) (hq : ¬ bm = bq) (k i : Nat) (hi : i < l.length) (hk : k + 1 ≤ ts.length) (hk8 : k ≤ 100) (ih : 0 < k → ∀ j, j < l.length → RCall Tryz.prog (.func 201) [.ag (nrow (nat l j)), .int .i64 ((k : Nat) : Int), .el [.sl 4 (ts.map trow) u], .el [.mp bm], .ptr bq 0] ((bm, .map (forE (forL l))) :: (bq, .cells [.fn (.func 201) [] [.el [.sl 4 (ts.map trow) u], .el [.mp bm], .ptr bq 0]]) :: []) (fun _ : Unit => .bool (mtB l ts k j)) (fun _ => ((bm, .map (forE (forL l))) :: (bq, .cells [.fn (.func 201) [] [.el [.sl 4 (ts.map trow) u], .el [.mp bm], .ptr bq 0]]) :: [])) (fun _ => True)) : RCall Tryz.prog (.func 201) [.ag (nrow (nat l i)), .int .i64 (((k + 1) : Nat) : Int), .el [.sl 4 (ts.map trow) u], .el [.mp bm], .ptr bq 0] ((bm, .map (forE (forL l))) :: (bq, .cells [.fn (.func 201) [] [.el [.sl 4 (ts.map trow) u], .el [.mp bm], .ptr bq 0]]) :: []) (fun _ : Unit => .bool (mtB l ts (k + 1) i)) (fun _ => ((bm, .map (forE (forL l))) :: (bq, .cells [.fn (.func 201) [] [.el [.sl 4 (ts.map trow) u], .el [.mp bm], .ptr bq 0]]) :: [])) (fun _ => True) := by
 have hkw : IntKind.wrap .i64 (((k + 1 : Nat) : Int) - 1) = (k : Int) := by rw [w64 (by omega)]; omega
 have hk1 : ((k + 1 : Nat) : Int) = (k : Int) + 1 := by omega
 have hq' : ¬ bq = bm := fun e => hq e.symm
 have hms : mtB l ts (k + 1) i = (fuB (nat l i) (tat ts k) && (decide (k = 0) || (if (tat ts k).child = true then (chn l i).take 1 else chn l i).any (mtB l ts k))) := rfl
 have hkl : (k : Int) < (ts.length : Int) := by omega
 have hkl0 : ((0 : Nat) : Int) < (ts.length : Int) := by omega
 have hkl1 : (0 : Int) < (ts.length : Int) := by omega
 refine fn_ Tryz.func201 (by rfl) (by rfl) (rs := [.cell 7 4]) (by rfl) (by simp [Tryz.f201]) ?_
 refine sr_ [2, 3, 4, 5, 6, 7] [5, 6] [] fun κ ξ hκ hξ => ?_
 try simp +decide only [go_sem, hkw, hq, hq', hkl, hkl0, hkl1]
 repeat with_reducible refine an_ ?_
 intro b7 hb7
 try simp +decide only [go_sem, hkw, hq, hq', hkl, hkl0, hkl1, hb7]
 repeat with_reducible refine an_ ?_
 refine hκ _ _ ?_; clear hκ hξ ξ κ
 refine sq ?_
 refine srd_ [2, 3, 4, 5, 6, 7, 20] [] [15] [(8, 17)] fun κ ξ hκ hξ => ?_
 try simp +decide only [go_sem, hkw, hq, hq', hkl, hkl0, hkl1, hb7]
 repeat with_reducible refine an_ ?_
 refine scallF (ful_w _ _) ?_
 try simp +decide only [go_sem, hkw, hq, hq', hkl, hkl0, hkl1, hb7]
 repeat with_reducible refine an_ ?_
 refine hκ _ _ ?_; clear hκ hξ ξ κ
 refine cd_ (fun c0 => ?_) (fun c0 => ?_)
 ·try simp only [go_sem] at c0
  refine srd_ [7] [] [28] [(2, 23)] fun κ ξ hκ hξ => ?_
  try simp +decide only [go_sem, hkw, hq, hq', hkl, hkl0, hkl1, hb7, c0]
  repeat with_reducible refine an_ ?_
  refine vd_gc (by rfl) ?_
  try simp +decide only [go_sem, hkw, hq, hq', hkl, hkl0, hkl1, hb7, c0]
  refine gcF (ful_w _ _) ?_
  try simp +decide only [go_sem, hkw, hq, hq', hkl, hkl0, hkl1, hb7, c0]
  repeat with_reducible refine an_ ?_
  refine hκ _ _ ?_; clear hκ hξ ξ κ
  refine rt ?_
  refine retR (()) ?_ ?_ ?_
  ·first | exact .refl _ | exact List.nil_sublist _ | exact List.sublist_cons_of_sublist _ (.refl _) | exact ((List.Sublist.refl _).cons _).cons _ | (simp [*]; done) | skip
  ·first | trivial | assumption | omega | (simp; done) | skip
  simp +decide only [go_sem, resD, resV, hkw, hq, hq', hkl, hkl0, hkl1, hb7, c0]
  congr 1
  rw [hms]
  by_cases hk0 : k = 0
  ·subst hk0; simp
  ·have h1 : ¬ ((k + 1 : Nat) : Int) = 1 := by omega
   have hf := c0.resolve_right h1
   rw [hf, decide_eq_false h1]; rfl
 ·try simp only [go_sem] at c0
  refine sk ?_
  refine sq ?_
  refine sr_ [2, 4, 6, 7, 32] [] [] fun κ ξ hκ hξ => ?_
  try simp +decide only [go_sem, hkw, hq, hq', hkl, hkl0, hkl1, hb7, c0]
  repeat with_reducible refine an_ ?_
  refine callR ((above_w (nat l i) bm).frame _) fun b32 _ => ?_
  try simp +decide only [go_sem, hkw, hq, hq', hkl, hkl0, hkl1, hb7, c0]
  repeat with_reducible refine an_ ?_
  refine hκ _ _ ?_; clear hκ hξ ξ κ
  refine bl ?_
  refine nodupW fun hnd => ?_
  simp only [Store.keys, List.cons_append, List.nil_append, List.map_cons, List.map_nil, List.nodup_cons, List.mem_cons, List.not_mem_nil, or_false, not_or] at hnd
  obtain ⟨⟨hn1, hn2, hn3⟩, ⟨hn4, hn5⟩, -⟩ := hnd
  have hk0 : k ≠ 0 := by have := c0.2; omega
  have hfu := c0.1
  refine rfG (ps := [33]) (Z := List D) (nrow (nat l i)) (fun z j τ => τ = (b32, .cells z) :: (b7, .cells [.bool false]) :: ((bm, .map (forE (forL l))) :: (bq, .cells [.fn (.func 201) [] [.el [.sl 4 (ts.map trow) u], .el [.mp bm], .ptr bq 0]]) :: []) ∧ (∀ q x, q < j → (chn l i)[q]? = some x → mtB l ts k x = false) ∧ ((tat ts k).child = true → j = 0)) (fun e τ => e = .ret ∧ ∃ z, τ = (b32, .cells z) :: (b7, .cells [.bool (mtB l ts (k + 1) i)]) :: ((bm, .map (forE (forL l))) :: (bq, .cells [.fn (.func 201) [] [.el [.sl 4 (ts.map trow) u], .el [.mp bm], .ptr bq 0]]) :: [])) (by rfl) Tryz.func207 (by rfl) (by rfl) (xs := (chn l i).map fun x => [.ag (nrow (nat l x))]) ?_ (by intro p hp; simp at hp; subst hp; decide) (fun x hx => by simp only [List.mem_map] at hx; obtain ⟨p, _, rfl⟩ := hx; rfl) ⟨rfl, fun q x hq => by omega, fun _ => rfl⟩ ?_ ?_ ?_
  ·intro y bx Jx h τ ⟨σ', e1, e2, h1⟩
   subst e2
   subst e1
   refine ACall.perm (permX _ _ _ _ _) ?_
   refine ACall.mono (above1_w l hT i hi b32 bm (fun e => hn2 e.symm) _ y Jx (fun j => (∀ q x, q < j → (chn l i)[q]? = some x → mtB l ts k x = false) ∧ ((tat ts k).child = true → j = 0)) h1 ?_) ?_
   ·intro z j x hx hA
    refine ACall.perm (permX _ _ _ _ _).symm ?_
    refine ACall.mono (h z j _ (by rw [List.getElem?_map, hx]; rfl) _ ⟨_, rfl, rfl, hA⟩) ?_
    rintro r τ' (⟨rfl, σ', rfl, rfl, hA'⟩ | ⟨rfl, hj⟩)
    ·exact ⟨_, permX _ _ _ _ _, .inl ⟨rfl, hA', rfl⟩⟩
    ·exact ⟨_, .refl _, .inr ⟨rfl, hj⟩⟩
   ·rintro r τ' ⟨hd, (⟨z, rfl, hA⟩ | hj)⟩
    ·exact ⟨_, (permX _ _ _ _ _).symm, hd, .inl ⟨z, _, rfl, rfl, by rw [List.length_map]; exact hA⟩⟩
    ·exact ⟨_, .refl _, hd, .inr hj⟩
  ·intro z L j x' hx' τ hτ
   obtain ⟨rfl, hno, hch⟩ := hτ
   obtain ⟨x, hx, rfl⟩ : ∃ x, (chn l i)[j]? = some x ∧ x' = [.ag (nrow (nat l x))] := by
    rw [List.getElem?_map] at hx'; cases hc : (chn l i)[j]? with
     | none => rw [hc] at hx'; cases hx'
     | some x => rw [hc] at hx'; exact ⟨x, rfl, by simpa using hx'.symm⟩
   have hxi := (chn_step l i hx).2
   have hxl : x < l.length := by omega
   refine rrz_ [(8, [])] [2, 4, 6, 7, 8] [] [] fun κ ξ hκ hξ => ?_
   try simp +decide only [go_sem, hkw, hq, hq', hkl, hkl0, hkl1, hb7, c0, hn1, hn2, hn3, hn4, hn5, Ne.symm hn1, Ne.symm hn2, Ne.symm hn3, Ne.symm hn4, Ne.symm hn5]
   repeat with_reducible refine an_ ?_
   intro b8 hb8
   try simp +decide only [go_sem, hkw, hq, hq', hkl, hkl0, hkl1, hb7, c0, hn1, hn2, hn3, hn4, hn5, Ne.symm hn1, Ne.symm hn2, Ne.symm hn3, Ne.symm hn4, Ne.symm hn5, hb8]
   repeat with_reducible refine an_ ?_
   refine hκ _ _ ⟨rfl, ?_⟩; clear hκ hξ ξ κ
   refine bl ?_
   refine sq ?_
   refine sr_ [2, 4, 6, 7, 38] [] [] fun κ ξ hκ hξ => ?_
   try simp +decide only [go_sem, hkw, hq, hq', hkl, hkl0, hkl1, hb7, c0, hn1, hn2, hn3, hn4, hn5, Ne.symm hn1, Ne.symm hn2, Ne.symm hn3, Ne.symm hn4, Ne.symm hn5, hb8]
   repeat with_reducible refine an_ ?_
   refine callR ((ih (by omega) x hxl).frameL [(b32, _), (b7, _)]) fun _ _ => ?_
   try simp +decide only [go_sem, hkw, hq, hq', hkl, hkl0, hkl1, hb7, c0, hn1, hn2, hn3, hn4, hn5, Ne.symm hn1, Ne.symm hn2, Ne.symm hn3, Ne.symm hn4, Ne.symm hn5, hb8]
   repeat with_reducible refine an_ ?_
   refine hκ _ _ ?_; clear hκ hξ ξ κ
   refine cd_ (fun c1 => ?_) (fun c1 => ?_)
   ·try simp only [go_sem] at c1
    refine sr_ [7] [] [] fun κ ξ hκ hξ => ?_
    try simp +decide only [go_sem, hkw, hq, hq', hkl, hkl0, hkl1, hb7, c0, hn1, hn2, hn3, hn4, hn5, Ne.symm hn1, Ne.symm hn2, Ne.symm hn3, Ne.symm hn4, Ne.symm hn5, hb8, c1]
    repeat with_reducible refine an_ ?_
    refine hκ _ _ ?_; clear hκ hξ ξ κ
    refine rt ?_
    have hr : mtB l ts (k + 1) i = true := by
     rw [hms, hfu, any_hit hx (by simpa using c1) hch]; simp
    exact ⟨rfl, z, by rw [hr]⟩
   ·try simp only [go_sem] at c1
    refine sk ?_
    refine sr_ [2, 4, 6, 7, 44] [] [] fun κ ξ hκ hξ => ?_
    try simp +decide only [go_sem, hkw, hq, hq', hkl, hkl0, hkl1, hb7, c0, hn1, hn2, hn3, hn4, hn5, Ne.symm hn1, Ne.symm hn2, Ne.symm hn3, Ne.symm hn4, Ne.symm hn5, hb8, c1]
    repeat with_reducible refine an_ ?_
    refine hκ _ _ ?_; clear hκ hξ ξ κ
    refine cd_ (fun c2 => ?_) (fun c2 => ?_)
    ·try simp only [go_sem] at c2
     refine sr_ [7] [] [] fun κ ξ hκ hξ => ?_
     try simp +decide only [go_sem, hkw, hq, hq', hkl, hkl0, hkl1, hb7, c0, hn1, hn2, hn3, hn4, hn5, Ne.symm hn1, Ne.symm hn2, Ne.symm hn3, Ne.symm hn4, Ne.symm hn5, hb8, c1, c2]
     repeat with_reducible refine an_ ?_
     refine hκ _ _ ?_; clear hκ hξ ξ κ
     refine rt ?_
     have hr : mtB l ts (k + 1) i = false := by
      rw [hms, hfu, any_miss (j := j + 1) (fun q y hq hy => by
        rcases Nat.lt_succ_iff_lt_or_eq.1 hq with h | rfl
        · exact hno q y h hy
        · rw [hx] at hy; cases hy; simpa using c1) (.inr ⟨by simpa using c2, by omega⟩)]
      simp [hk0]
     exact ⟨rfl, z, by rw [hr]⟩
    ·try simp only [go_sem] at c2
     refine sk ?_
     refine ⟨rfl, fun q y hq hy => ?_, fun h => by simp [h] at c2⟩
     rcases Nat.lt_succ_iff_lt_or_eq.1 hq with h | rfl
     ·exact hno q y h hy
     ·rw [hx] at hy; cases hy; simpa using c1
  ·rintro z τ ⟨rfl, hno, hch⟩
   rw [List.length_map] at hno hch
   have hr : mtB l ts (k + 1) i = false := by rw [hms, hfu, any_miss hno (.inl (Nat.le_refl _))]; simp [hk0]
   refine sr_ [7] [] [] fun κ ξ hκ hξ => ?_
   try simp +decide only [go_sem, hkw, hq, hq', hkl, hkl0, hkl1, hb7, c0, hn1, hn2, hn3, hn4, hn5, Ne.symm hn1, Ne.symm hn2, Ne.symm hn3, Ne.symm hn4, Ne.symm hn5]
   repeat with_reducible refine an_ ?_
   refine hκ _ _ ?_; clear hκ hξ ξ κ
   refine rt ?_
   refine retR (()) ?_ ?_ ?_
   ·first | exact .refl _ | exact List.nil_sublist _ | exact List.sublist_cons_of_sublist _ (.refl _) | exact ((List.Sublist.refl _).cons _).cons _ | (simp [*]; done) | skip
   ·first | trivial | assumption | omega | (simp; done) | skip
   simp +decide only [go_sem, resD, resV, hkw, hq, hq', hkl, hkl0, hkl1, hb7, c0, hn1, hn2, hn3, hn4, hn5, Ne.symm hn1, Ne.symm hn2, Ne.symm hn3, Ne.symm hn4, Ne.symm hn5]
   rw [hr]
  ·rintro e τ ⟨rfl, z, rfl⟩ _ _
   refine retR () ?_ ?_ ?_
   ·exact ((List.Sublist.refl _).cons _).cons _
   ·trivial
   simp +decide only [go_sem, resD, resV, hkw, hq, hq', hkl, hkl0, hkl1, hb7, c0, hn1, hn2, hn3, hn4, hn5, Ne.symm hn1, Ne.symm hn2, Ne.symm hn3, Ne.symm hn4, Ne.symm hn5]
end Go.Proofs.YtinhjbnljbmbcaaGreat
/- The walks of the selector's functions. Printed by a tool of our own. -/
namespace Go.Proofs.YtinhjbnljbmbcaaGreat
open Go Go.RowKit
set_option linter.unusedSimpArgs false
set_option linter.unusedVariables false
set_option maxHeartbeats 4000000
set_option maxRecDepth 100000
theorem mt_w (l : List Nd) (ts : List Ts) (u : Tok) (hT : Tree l) (bm bq : Nat) (hq : ¬ bm = bq) : ∀ (k i : Nat), k ≤ 100 → i < l.length → k + 1 ≤ ts.length → RCall Tryz.prog (.func 201) [.ag (nrow (nat l i)), .int .i64 (((k + 1) : Nat) : Int), .el [.sl 4 (ts.map trow) u], .el [.mp bm], .ptr bq 0] ((bm, .map (forE (forL l))) :: (bq, .cells [(.fn (.func 201) [] [.el [.sl 4 (ts.map trow) u], .el [.mp bm], .ptr bq 0])]) :: []) (fun _ : Unit => .bool (mtB l ts (k + 1) i)) (fun _ => ((bm, .map (forE (forL l))) :: (bq, .cells [(.fn (.func 201) [] [.el [.sl 4 (ts.map trow) u], .el [.mp bm], .ptr bq 0])]) :: [])) (fun _ => True)
 | 0, i, h8, hi, hk => mt_s l ts u hT bm bq hq 0 i hi hk h8 (fun h => by omega)
 | k + 1, i, h8, hi, hk => mt_s l ts u hT bm bq hq (k + 1) i hi hk h8 (fun _ j hj => mt_w l ts u hT bm bq hq k j (by omega) hj (by omega))
def wc (w n b : Int) : Int := if n = 0 then w else IntKind.wrap .i64 (w + b)
theorem wc_sum {w : Int} (t : Ts) (h : 0 ≤ w ∧ w ≤ 100000) : wc (wc (wc w t.id 10000) t.cls 100) t.kind 1 = w + wt1 t := by
 have hw : ∀ z : Int, 0 ≤ z → z ≤ 200000 → IntKind.wrap .i64 z = z := fun z h1 h2 => w64 (by omega)
 unfold wc wt1
 by_cases h1 : t.id = 0 <;> by_cases h2 : t.cls = 0 <;> by_cases h3 : t.kind = 0 <;> simp only [h1, h2, h3, if_true, if_false, ne_eq, not_true_eq_false, not_false_eq_true] <;> (try simp (disch := omega) only [hw]) <;> omega
attribute [local go_sem] List.length_map rowAt_n nrow rowAt_t trow rowAt_i irow
attribute [local go_sem] for_put for_put' for_look for_look'
theorem mtr_w (ts : List Ts) (u : Tok) (bm : Nat) : RCall Tryz.prog (.func 179) [.mp bm, .sl 4 (ts.map trow) u] [] (fun (bq : Nat) => (.fn (.func 201) [] [.el [.sl 4 (ts.map trow) u], .el [.mp bm], .ptr bq 0])) (fun (bq : Nat) => [(bq, .cells [(.fn (.func 201) [] [.el [.sl 4 (ts.map trow) u], .el [.mp bm], .ptr bq 0])])]) (fun (bq : Nat) => True) := by
 refine fn_ Tryz.func179 (by rfl) (by rfl) (rs := [.tmp 4]) (by rfl) (by simp [Tryz.f179]) ?_
 refine sr_ [2, 3] [2, 3] [] fun κ ξ hκ hξ => ?_
 try simp +decide only [go_sem]
 repeat with_reducible refine an_ ?_
 refine hκ _ _ ?_; clear hκ hξ ξ κ
 refine sr_ [2, 3, 5] [] [] fun κ ξ hκ hξ => ?_
 try simp +decide only [go_sem]
 repeat with_reducible refine an_ ?_
 intro b5 hb5
 try simp +decide only [go_sem, hb5]
 repeat with_reducible refine an_ ?_
 refine hκ _ _ ?_; clear hκ hξ ξ κ
 refine sr_ [5] [] [] fun κ ξ hκ hξ => ?_
 try simp +decide only [go_sem, hb5]
 repeat with_reducible refine an_ ?_
 refine hκ _ _ ?_; clear hκ hξ ξ κ
 refine sr_ [4] [] [] fun κ ξ hκ hξ => ?_
 try simp +decide only [go_sem, hb5]
 repeat with_reducible refine an_ ?_
 refine hκ _ _ ?_; clear hκ hξ ξ κ
 refine rt ?_
 refine retR (b5) ?_ ?_ ?_
 ·first | exact .refl _ | exact List.nil_sublist _ | exact List.sublist_cons_of_sublist _ (.refl _) | exact ((List.Sublist.refl _).cons _).cons _ | (simp [*]; done) | skip
 ·first | trivial | assumption | omega | (simp; done) | skip
 simp +decide only [go_sem, resD, resV, hb5]
 all_goals simp
theorem mch_w (l : List Nd) (ts : List Ts) (t u : Tok) (x : Int) : PCall Tryz.prog (.func 135) [.sl 5 (l.map nrow) t, .sl 4 (ts.map trow) u, .int .i64 x] (.tup [.bool (treB l && selB ts && decide (0 ≤ idx l x) && mtB l ts ts.length (idx l x).toNat), .int .i64 (if (treB l && selB ts) = true then (if 0 ≤ idx l x then 0 else 4) else 1)]) := by
 refine PCall.le ?_
 refine fn_ Tryz.func135 (by rfl) (by rfl) (rs := [.tmp 6, .tmp 7]) (by rfl) (by simp [Tryz.f135]) ?_
 refine sr_ [0, 1, 2] [] [] fun κ ξ hκ hξ => ?_
 try simp +decide only [go_sem]
 repeat with_reducible refine an_ ?_
 refine hκ _ _ ?_; clear hκ hξ ξ κ
 refine sr_ [1, 2, 8, 9] [] [] fun κ ξ hκ hξ => ?_
 try simp +decide only [go_sem]
 repeat with_reducible refine an_ ?_
 refine callR (prep_w l ts t u) fun bm _ => ?_
 try simp +decide only [go_sem]
 repeat with_reducible refine an_ ?_
 refine hκ _ _ ?_; clear hκ hξ ξ κ
 refine sq ?_
 refine sr_ [1, 2, 8, 19] [] [] fun κ ξ hκ hξ => ?_
 try simp +decide only [go_sem]
 repeat with_reducible refine an_ ?_
 refine hκ _ _ ?_; clear hκ hξ ξ κ
 refine cd_ (fun c0 => ?_) (fun c0 => ?_)
 ·skip
  refine sr_ [6, 7] [] [] fun κ ξ hκ hξ => ?_
  try simp +decide only [go_sem, c0]
  repeat with_reducible refine an_ ?_
  refine hκ _ _ ?_; clear hκ hξ ξ κ
  refine rt ?_
  refine retE ?_
  simp +decide only [go_sem, resD, resV, c0]
  cases h1 : treB l <;> cases h2 : selB ts <;> simp [h1, h2] at c0 ⊢
 ·have hv : treB l = true ∧ selB ts = true := by
   cases h1 : treB l <;> cases h2 : selB ts <;> simp [h1, h2] at c0 ⊢
  obtain ⟨hv1, hv2⟩ := hv
  have hT := treB_true.1 hv1
  obtain ⟨⟨hk1, hk2⟩, -, -⟩ := sel_true.1 hv2
  obtain ⟨k, hk⟩ : ∃ k, ts.length = k + 1 := ⟨ts.length - 1, by omega⟩
  have hl4 := hT.len.2
  have hfg := for_get hT
  refine sk ?_
  by_cases hix : 0 ≤ idx l x
  ·obtain ⟨i, hi⟩ : ∃ i : Nat, idx l x = (i : Int) := ⟨(idx l x).toNat, by omega⟩
   have hil := idx_lt l x
   have hnk : ndk l x = nat l i := by unfold ndk; rw [if_pos hix, hi, Int.toNat_natCast]
   refine srz_ [(10, [])] [1, 8, 10, 11] [] [] fun κ ξ hκ hξ => ?_
   try simp +decide only [go_sem, c0, hfg, hix, if_true, lookD_s, hnk]
   repeat with_reducible refine an_ ?_
   intro b10 hb10
   try simp +decide only [go_sem, c0, hfg, hix, if_true, lookD_s, hnk, hb10]
   repeat with_reducible refine an_ ?_
   refine hκ _ _ ?_; clear hκ hξ ξ κ
   refine sq ?_
   refine sr_ [1, 8, 10, 27] [] [] fun κ ξ hκ hξ => ?_
   try simp +decide only [go_sem, c0, hfg, hix, if_true, lookD_s, hnk, hb10]
   repeat with_reducible refine an_ ?_
   refine hκ _ _ ?_; clear hκ hξ ξ κ
   refine cdf (by rfl) ?_
   refine sk ?_
   refine sq ?_
   refine rgt [6, 7] [] [] [] [0, 1, 3, 4, 5, 2, 6, 7, 8] .fin (by kernel_rfl) (by kernel_rfl) (Pk.cons rfl (Pk.cons rfl (Pk.cons rfl (Pk.cons rfl (Pk.cons rfl (Pk.cons rfl (Pk.cons rfl (Pk.cons rfl (Pk.cons rfl (Pk.nil)))))))))) ?_; intro κ ξ hκ hξ
   try simp +decide only [go_sem, c0, hfg, hix, if_true, lookD_s, hnk, hb10]
   repeat with_reducible refine an_ ?_
   refine callR ((mtr_w ts u bm).frame _).nodup fun bq hnd => ?_
   have hnd := hnd.2
   simp only [Store.keys, List.cons_append, List.nil_append, List.map_cons, List.map_nil, List.nodup_cons, List.mem_cons, List.not_mem_nil, or_false] at hnd
   have hqm : ¬ bq = bm := hnd.1
   have hmq : ¬ bm = bq := fun e => hqm e.symm
   have hqk : ¬ bq ∈ Store.keys [(bm, Box.map (forE (forL l)))] := by simp [Store.keys, hqm]
   try simp +decide only [go_sem, c0, hfg, hix, if_true, lookD_s, hnk, hb10, hqm, hmq, hqk, hk]
   repeat with_reducible refine an_ ?_
   refine callR (RCall.perm (mt_w l ts u hT bm bq hmq k i (by omega) (by omega) (by omega)) (List.Perm.swap _ _ _) (fun _ => List.Perm.swap _ _ _)) fun _ _ => ?_
   try simp +decide only [go_sem, c0, hfg, hix, if_true, lookD_s, hnk, hb10, hqm, hmq, hqk, hk]
   repeat with_reducible refine an_ ?_
   refine SET_fin ?_
   try simp +decide only [go_sem, c0, hfg, hix, if_true, lookD_s, hnk, hb10, hqm, hmq, hqk, hk]
   repeat with_reducible refine an_ ?_
   refine hκ _ _ ?_; clear hκ hξ ξ κ
   refine rt ?_
   refine retE ?_
   simp +decide only [go_sem, resD, resV, c0, hfg, hix, if_true, lookD_s, hnk, hb10, hqm, hmq, hqk, hk]
   all_goals simp [hv1, hv2, hi, hk]
  ·skip
   refine srz_ [(10, [])] [1, 8, 10, 11] [] [] fun κ ξ hκ hξ => ?_
   try simp +decide only [go_sem, c0, hfg, hix, if_false, lookD_n]
   repeat with_reducible refine an_ ?_
   intro b10 hb10
   try simp +decide only [go_sem, c0, hfg, hix, if_false, lookD_n, hb10]
   repeat with_reducible refine an_ ?_
   refine hκ _ _ ?_; clear hκ hξ ξ κ
   refine sq ?_
   refine sr_ [1, 8, 10, 27] [] [] fun κ ξ hκ hξ => ?_
   try simp +decide only [go_sem, c0, hfg, hix, if_false, lookD_n, hb10]
   repeat with_reducible refine an_ ?_
   refine hκ _ _ ?_; clear hκ hξ ξ κ
   refine cdt (by rfl) ?_
   refine sr_ [6, 7] [] [] fun κ ξ hκ hξ => ?_
   try simp +decide only [go_sem, c0, hfg, hix, if_false, lookD_n, hb10]
   repeat with_reducible refine an_ ?_
   refine hκ _ _ ?_; clear hκ hξ ξ κ
   refine rt ?_
   refine retE ?_
   simp +decide only [go_sem, resD, resV, c0, hfg, hix, if_false, lookD_n, hb10]
   all_goals simp [hv1, hv2, hix]
theorem wc_w (n b w : Int) (bw : Nat) : RCall Tryz.prog (.func 183) [.int .i64 n, .int .i64 b, .ptr bw 0] [(bw, .cells [.int .i64 w])] (fun (_ : Unit) => .tup []) (fun (_ : Unit) => [(bw, .cells [.int .i64 (wc w n b)])]) (fun (_ : Unit) => True) := by
 refine fn_ Tryz.func183 (by rfl) (by rfl) (rs := []) (by rfl) (by simp [Tryz.f183]) ?_
 refine sr_ [1, 2, 6] [] [] fun κ ξ hκ hξ => ?_
 try simp +decide only [go_sem]
 repeat with_reducible refine an_ ?_
 refine hκ _ _ ?_; clear hκ hξ ξ κ
 refine cd_ (fun c0 => ?_) (fun c0 => ?_)
 ·try simp only [go_sem] at c0
  refine rr_ [] [] [] fun κ ξ hκ hξ => ?_
  try simp +decide only [go_sem, c0]
  repeat with_reducible refine an_ ?_
  refine hκ _ _ ?_; clear hκ hξ ξ κ
  rw [show wc w n b = IntKind.wrap .i64 (w + b) from if_neg c0]
  refine retRn (()) ?_ ?_ ?_
  ·first | exact .refl _ | exact List.nil_sublist _ | exact List.sublist_cons_of_sublist _ (.refl _) | exact ((List.Sublist.refl _).cons _).cons _ | (simp [*]; done) | skip
  ·first | trivial | assumption | omega | (simp; done) | skip
  simp +decide only [go_sem, resD, resV, c0]
  all_goals rfl
 ·try simp only [go_sem] at c0
  refine sk ?_
  rw [show wc w n b = w from if_pos c0]
  refine retRn (()) ?_ ?_ ?_
  ·first | exact .refl _ | exact List.nil_sublist _ | exact List.sublist_cons_of_sublist _ (.refl _) | exact ((List.Sublist.refl _).cons _).cons _ | (simp [*]; done) | skip
  ·first | trivial | assumption | omega | (simp; done) | skip
  simp +decide only [go_sem, resD, resV, c0]
  all_goals rfl
theorem swt_w (ts : List Ts) (u : Tok) : PCall Tryz.prog (.func 137) [.sl 4 (ts.map trow) u] (.tup [.int .i64 (if selB ts = true then wtL ts else 0), .int .i64 (if selB ts = true then 0 else 1)]) := by
 refine PCall.le ?_
 refine fn_ Tryz.func137 (by rfl) (by rfl) (rs := [.tmp 2, .tmp 3]) (by rfl) (by simp [Tryz.f137]) ?_
 refine sr_ [0] [] [] fun κ ξ hκ hξ => ?_
 try simp +decide only [go_sem]
 repeat with_reducible refine an_ ?_
 refine hκ _ _ ?_; clear hκ hξ ξ κ
 refine sq ?_
 refine sr_ [0, 10] [] [] fun κ ξ hκ hξ => ?_
 try simp +decide only [go_sem]
 repeat with_reducible refine an_ ?_
 refine callF (sel_w _ _) ?_
 try simp +decide only [go_sem]
 repeat with_reducible refine an_ ?_
 refine hκ _ _ ?_; clear hκ hξ ξ κ
 refine cd_ (fun c0 => ?_) (fun c0 => ?_)
 ·try simp only [go_sem] at c0
  refine sr_ [2, 3] [] [] fun κ ξ hκ hξ => ?_
  try simp +decide only [go_sem, c0]
  repeat with_reducible refine an_ ?_
  refine hκ _ _ ?_; clear hκ hξ ξ κ
  refine rt ?_
  refine retE ?_
  simp +decide only [go_sem, resD, resV, c0]
  all_goals simp_all
 ·try simp only [go_sem] at c0
  refine sk ?_
  refine sr_ [0, 4] [] [] fun κ ξ hκ hξ => ?_
  try simp +decide only [go_sem, c0]
  repeat with_reducible refine an_ ?_
  intro b4 hb4
  try simp +decide only [go_sem, c0, hb4]
  repeat with_reducible refine an_ ?_
  refine hκ _ _ ?_; clear hκ hξ ξ κ
  refine sr_ [0, 4, 5] [] [] fun κ ξ hκ hξ => ?_
  try simp +decide only [go_sem, c0, hb4]
  repeat with_reducible refine an_ ?_
  refine hκ _ _ ?_; clear hκ hξ ξ κ
  refine sq ?_
  refine sr_ [4, 5, 12, 13, 14] [] [] fun κ ξ hκ hξ => ?_
  try simp +decide only [go_sem, c0, hb4]
  repeat with_reducible refine an_ ?_
  refine hκ _ _ ?_; clear hκ hξ ξ κ
  refine bl ?_
  have hv : selB ts = true := by simpa using c0
  obtain ⟨⟨hk1, hk2⟩, -, -⟩ := sel_true.1 hv
  refine lp (α := Nat) (fun i => mk [(4, .ptr b4 0), (5, .fn (.func 183) [] [.ptr b4 0]), (12, .sl 4 (ts.map trow) u), (13, .int .i64 ts.length), (14, .int .i64 i)]) (fun i => [(b4, .cells [.int .i64 (wtL (ts.take i))])]) (fun i => i ≤ ts.length) (fun i => ts.length - i) 0 ⟨by omega, EnvLe.of_eq rfl, .refl _⟩ ?_
  intro i hi
  have hwr := wtL_range (ts.take i)
  rw [List.length_take] at hwr
  refine sr_ [4, 5, 12, 13, 14, 15] [] [] fun κ ξ hκ hξ => ?_
  try simp +decide only [go_sem, c0, hb4]
  repeat with_reducible refine an_ ?_
  refine hκ _ _ ?_; clear hκ hξ ξ κ
  refine sq ?_
  refine cd_ (fun c1 => ?_) (fun c1 => ?_)
  ·try simp only [go_sem] at c1
   refine sk ?_
   refine sq ?_
   refine bl ?_
   refine srz_ [(7, [])] [4, 5, 7, 12, 13, 14] [] [] fun κ ξ hκ hξ => ?_
   try simp +decide only [go_sem, c0, hb4, c1]
   repeat with_reducible refine an_ ?_
   intro b7 hb7
   try simp +decide only [go_sem, c0, hb4, c1, hb7]
   repeat with_reducible refine an_ ?_
   refine hκ _ _ ?_; clear hκ hξ ξ κ
   refine sr_ [4, 5, 7, 12, 13, 14] [] [] fun κ ξ hκ hξ => ?_
   try simp +decide only [go_sem, c0, hb4, c1, hb7]
   repeat with_reducible refine an_ ?_
   refine callR (wc_w _ _ _ _) fun _ _ => ?_
   try simp +decide only [go_sem, c0, hb4, c1, hb7]
   repeat with_reducible refine an_ ?_
   refine hκ _ _ ?_; clear hκ hξ ξ κ
   refine sr_ [4, 5, 7, 12, 13, 14] [] [] fun κ ξ hκ hξ => ?_
   try simp +decide only [go_sem, c0, hb4, c1, hb7]
   repeat with_reducible refine an_ ?_
   refine callR (wc_w _ _ _ _) fun _ _ => ?_
   try simp +decide only [go_sem, c0, hb4, c1, hb7]
   repeat with_reducible refine an_ ?_
   refine hκ _ _ ?_; clear hκ hξ ξ κ
   refine rr_ [4, 5, 12, 13, 14] [] [] fun κ ξ hκ hξ => ?_
   try simp +decide only [go_sem, c0, hb4, c1, hb7]
   repeat with_reducible refine an_ ?_
   refine callR (wc_w _ _ _ _) fun _ _ => ?_
   try simp +decide only [go_sem, c0, hb4, c1, hb7]
   repeat with_reducible refine an_ ?_
   refine hκ _ _ ?_; clear hκ hξ ξ κ
   refine rr_ [4, 5, 12, 13, 14] [] [] fun κ ξ hκ hξ => ?_
   try simp +decide only [go_sem, c0, hb4, c1, hb7]
   repeat with_reducible refine an_ ?_
   refine hκ _ _ ?_; clear hκ hξ ξ κ
   refine ⟨i + 1, ⟨by omega, by omega⟩, EnvLe.of_eq (by rw [w64 (by omega)]; rfl), ?_⟩
   rw [wtL_take (by omega), ← wc_sum (tat ts i) (by omega)]; exact .refl _
  ·try simp only [go_sem] at c1
   refine ex ?_
   refine sr_ [2, 3] [] [] fun κ ξ hκ hξ => ?_
   try simp +decide only [go_sem, c0, hb4, c1]
   repeat with_reducible refine an_ ?_
   refine hκ _ _ ?_; clear hκ hξ ξ κ
   refine rt ?_
   refine retE ?_
   simp +decide only [go_sem, resD, resV, c0, hb4, c1]
   obtain rfl : i = ts.length := by omega
   rw [List.take_length]
   all_goals simp [hv]
end Go.Proofs.YtinhjbnljbmbcaaGreat
/- The rules that match. Printed by a tool of our own. -/
namespace Go.Proofs.YtinhjbnljbmbcaaGreat
open Go Go.RowKit
set_option linter.unusedSimpArgs false
set_option linter.unusedVariables false
set_option maxHeartbeats 4000000
set_option maxRecDepth 100000
def mchB (l : List Nd) (ts : List Ts) (x : Int) : Bool := treB l && selB ts && decide (0 ≤ idx l x) && mtB l ts ts.length (idx l x).toNat
def mchE (l : List Nd) (ts : List Ts) (x : Int) : Int := if (treB l && selB ts) = true then (if 0 ≤ idx l x then 0 else 4) else 1
def holB (l : List Tm) (w s lg bx : Int) : Bool := conB l && rdB w s lg && isBx bx && l.all fun t => hdB t w s lg bx
def holE (l : List Tm) (w s lg bx : Int) : Int := if (conB l && rdB w s lg && isBx bx) = true then 0 else 1
def wtB (ts : List Ts) : Int := if selB ts = true then wtL ts else 0
def wtE (ts : List Ts) : Int := if selB ts = true then 0 else 1
theorem mch2_w (l : List Nd) (ts : List Ts) (t u : Tok) (x : Int) : PCall Tryz.prog (.func 135) [.sl 5 (l.map nrow) t, .sl 4 (ts.map trow) u, .int .i64 x] (.tup [.bool (mchB l ts x), .int .i64 (mchE l ts x)]) := mch_w l ts t u x
theorem hol2_w (l : List Tm) (t : Tok) (w s lg bx : Int) : PCall Tryz.prog (.func 136) [.sl 2 (l.map tmrow) t, .ag [.int .i64 w, .int .i64 s, .int .i64 lg], .int .i64 bx] (.tup [.bool (holB l w s lg bx), .int .i64 (holE l w s lg bx)]) := hol_w l t w s lg bx
theorem swt2_w (ts : List Ts) (u : Tok) : PCall Tryz.prog (.func 137) [.sl 4 (ts.map trow) u] (.tup [.int .i64 (wtB ts), .int .i64 (wtE ts)]) := swt_w ts u
/-- Whether a rule matches, how strong it is. -/
def ruM (l : List Nd) (x w s lg bx : Int) (r : Ru) : Bool := mchB l r.tests x && holB r.whe w s lg bx
def ruS (rs : List Ru) (i : Nat) : List D := [.int .i64 (ruat rs i).lay, .int .i64 (wtB (ruat rs i).tests), .int .i64 i]
def mL (p : Nat → Bool) (y : Nat → List D) (n : Nat) : List (List D) := ((List.range n).filter p).map y
theorem mL_yes {p : Nat → Bool} {y : Nat → List D} {n : Nat} (h : p n = true) : mL p y (n + 1) = mL p y n ++ [y n] := by
 unfold mL
 rw [List.range_succ, List.filter_append, List.map_append]
 simp [h]
theorem mL_no {p : Nat → Bool} {y : Nat → List D} {n : Nat} (h : p n = false) : mL p y (n + 1) = mL p y n := by
 unfold mL
 rw [List.range_succ, List.filter_append, List.map_append]
 simp [h]
theorem mL_pre (p : Nat → Bool) (y : Nat → List D) (n : Nat) : ∀ k, ∃ r, mL p y (n + k) = mL p y n ++ r
 | 0 => ⟨[], by simp⟩
 | k + 1 => by
  obtain ⟨r, h⟩ := mL_pre p y n k
  cases e : p (n + k) with
  | true => exact ⟨r ++ [y (n + k)], by rw [← Nat.add_assoc, mL_yes e, h, List.append_assoc]⟩
  | false => exact ⟨r, by rw [← Nat.add_assoc, mL_no e, h]⟩
theorem mL_at {p : Nat → Bool} {y : Nat → List D} {n N : Nat} (hn : n < N) (h : p n = true) : (mL p y N)[(mL p y n).length]? = some (y n) := by
 obtain ⟨r, e⟩ := mL_pre p y (n + 1) (N - (n + 1))
 rw [show n + 1 + (N - (n + 1)) = N by omega, mL_yes h] at e
 rw [e]
 simp
attribute [local go_sem] List.length_map rowAt_n nrow rowAt_t trow rowAt_i irow
attribute [local go_sem] rowAt_e rowAt_tm rowAt_dc rowAt_ru tmrow dcrow rurow
attribute [local go_sem] iD_all iD_len rw2_0 rw2_1 rw1_0 Int.toNat_one
theorem mtg_w (l : List Nd) (rs : List Ru) (x w s lg bx : Int) : PCall Tryz.prog (.func 88) [.ag [.sl 5 (l.map nrow) .no, .sl 4 (rs.map rurow) .no, .int .i64 x, .int .i64 w, .int .i64 s, .int .i64 lg, .int .i64 bx]] (.fn (.func 134) [] [.el [.sl 5 (l.map nrow) .no, .sl 4 (rs.map rurow) .no, .int .i64 x, .int .i64 w, .int .i64 s, .int .i64 lg, .int .i64 bx]]) := by
 refine PCall.le ?_
 refine fn_ Tryz.func88 (by rfl) (by rfl) (rs := [.tmp 2]) (by rfl) (by simp [Tryz.f88]) ?_
 refine sr_ [1] [1] [] fun κ ξ hκ hξ => ?_
 try simp +decide only [go_sem]
 repeat with_reducible refine an_ ?_
 refine hκ _ _ ?_; clear hκ hξ ξ κ
 refine sr_ [2] [] [] fun κ ξ hκ hξ => ?_
 try simp +decide only [go_sem]
 repeat with_reducible refine an_ ?_
 refine hκ _ _ ?_; clear hκ hξ ξ κ
 refine rt ?_
 refine retE ?_
 simp +decide only [go_sem, resD, resV]
 
theorem mtg1_w (l : List Nd) (rs : List Ru) (x w s lg bx : Int) (hrs : rs.length ≤ 200) : SeqC Tryz.prog (.func 134) [.el [.sl 5 (l.map nrow) .no, .sl 4 (rs.map rurow) .no, .int .i64 x, .int .i64 w, .int .i64 s, .int .i64 lg, .int .i64 bx]] (mL (fun i => ruM l x w s lg bx (ruat rs i)) (fun i => [.int .i64 i, .ag (ruS rs i)]) rs.length) := by
 intro y J Jx hy τ hJ
 refine fn_ Tryz.func134 (by rfl) (by rfl) (rs := []) (by rfl) (by simp [Tryz.f134]) ?_
 refine sr_ [0, 1, 12, 13, 14] [] [] fun κ ξ hκ hξ => ?_
 try simp +decide only [go_sem]
 repeat with_reducible refine an_ ?_
 refine hκ _ _ ?_; clear hκ hξ ξ κ
 refine bl ?_
 refine lp (α := Nat × Store) (fun z => mk [(0, .fn y [] []), (1, .el [.sl 5 (l.map nrow) .no, .sl 4 (rs.map rurow) .no, .int .i64 x, .int .i64 w, .int .i64 s, .int .i64 lg, .int .i64 bx]), (12, .sl 4 (rs.map rurow) .no), (13, .int .i64 rs.length), (14, .int .i64 z.1)]) (fun z => z.2) (fun z => z.1 ≤ rs.length ∧ J (mL (fun i => ruM l x w s lg bx (ruat rs i)) (fun i => [.int .i64 i, .ag (ruS rs i)]) z.1).length z.2) (fun z => rs.length - z.1) (0, τ) ⟨⟨by simp only; omega, hJ⟩, EnvLe.of_eq rfl, .refl _⟩ ?_
 rintro ⟨i, τ'⟩ ⟨hi, hJ'⟩
 simp only at hi hJ'
 refine sr_ [0, 1, 12, 13, 14, 15] [] [] fun κ ξ hκ hξ => ?_
 try simp +decide only [go_sem]
 repeat with_reducible refine an_ ?_
 refine hκ _ _ ?_; clear hκ hξ ξ κ
 refine sq ?_
 refine cd_ (fun c0 => ?_) (fun c0 => ?_)
 ·try simp only [go_sem] at c0
  refine sk ?_
  refine sq ?_
  refine bl ?_
  refine srz_ [(4, [])] [0, 1, 3, 4, 12, 13, 14] [] [] fun κ ξ hκ hξ => ?_
  try simp +decide only [go_sem, c0]
  repeat with_reducible refine an_ ?_
  intro b4 hb4
  try simp +decide only [go_sem, c0, hb4]
  repeat with_reducible refine an_ ?_
  refine hκ _ _ ?_; clear hκ hξ ξ κ
  refine sr_ [0, 1, 3, 4, 5, 12, 13, 14] [] [] fun κ ξ hκ hξ => ?_
  try simp +decide only [go_sem, c0, hb4]
  repeat with_reducible refine an_ ?_
  refine callF (mch2_w _ _ _ _ _) ?_
  try simp +decide only [go_sem, c0, hb4]
  repeat with_reducible refine an_ ?_
  refine hκ _ _ ?_; clear hκ hξ ξ κ
  refine sr_ [0, 1, 3, 4, 5, 7, 12, 13, 14] [] [] fun κ ξ hκ hξ => ?_
  try simp +decide only [go_sem, c0, hb4]
  repeat with_reducible refine an_ ?_
  refine callF (hol2_w _ _ _ _ _ _) ?_
  try simp +decide only [go_sem, c0, hb4]
  repeat with_reducible refine an_ ?_
  refine hκ _ _ ?_; clear hκ hξ ξ κ
  refine sq ?_
  refine sr_ [0, 1, 3, 4, 12, 13, 14, 44] [] [(2, 41)] fun κ ξ hκ hξ => ?_
  try simp +decide only [go_sem, c0, hb4]
  repeat with_reducible refine an_ ?_
  refine hκ _ _ ?_; clear hκ hξ ξ κ
  refine cd_ (fun c1 => ?_) (fun c1 => ?_)
  ·simp only [go_sem] at c1
   have hpm : ruM l x w s lg bx (ruat rs i) = false := by
    unfold ruM
    rcases c1 with c | c
    ·rw [c]; rfl
    ·rw [c]; exact Bool.and_false _
   refine ex ?_
   refine rr_ [0, 1, 12, 13, 14] [] [] fun κ ξ hκ hξ => ?_
   try simp +decide only [go_sem, c0, hb4, c1]
   repeat with_reducible refine an_ ?_
   refine hκ _ _ ?_; clear hκ hξ ξ κ
   refine ⟨(i + 1, τ'), ⟨⟨by simp only; omega, by simp only; rw [mL_no hpm]; exact hJ'⟩, by simp only; omega⟩, EnvLe.of_eq (by rw [w64 (n := (i : Int) + 1) (by omega)]; rfl), .refl _⟩
  ·simp only [go_sem] at c1
   have hpm : ruM l x w s lg bx (ruat rs i) = true := by
    unfold ruM
    rw [c1.1, c1.2]; rfl
   refine sk ?_
   refine sr_ [0, 1, 3, 4, 9, 12, 13, 14] [] [] fun κ ξ hκ hξ => ?_
   try simp +decide only [go_sem, c0, hb4, c1]
   repeat with_reducible refine an_ ?_
   refine callF (swt2_w _ _) ?_
   try simp +decide only [go_sem, c0, hb4, c1]
   repeat with_reducible refine an_ ?_
   refine hκ _ _ ?_; clear hκ hξ ξ κ
   refine sr_ [0, 1, 12, 13, 14, 59] [] [] fun κ ξ hκ hξ => ?_
   try simp +decide only [go_sem, c0, hb4, c1]
   repeat with_reducible refine an_ ?_
   refine callY (hy _ _ (mL_at (p := (fun i => ruM l x w s lg bx (ruat rs i))) (y := (fun i => [.int .i64 i, .ag (ruS rs i)])) (n := i) (by omega) hpm) _ hJ') ?_
   intro bb τ2 ht hf
   try simp +decide only [go_sem, c0, hb4, c1]
   repeat with_reducible refine an_ ?_
   refine hκ _ _ ?_; clear hκ hξ ξ κ
   refine cd_ (fun c2 => ?_) (fun c2 => ?_)
   ·try simp only [go_sem] at c2
    refine rt ?_
    exact ⟨trivial, _, .refl _, ⟨_, rfl⟩, .inr (hf (by simpa using c2))⟩
   ·try simp only [go_sem] at c2
    refine sk ?_
    refine rr_ [0, 1, 12, 13, 14] [] [] fun κ ξ hκ hξ => ?_
    try simp +decide only [go_sem, c0, hb4, c1, c2]
    repeat with_reducible refine an_ ?_
    refine hκ _ _ ?_; clear hκ hξ ξ κ
    refine ⟨(i + 1, τ2), ⟨⟨by simp only; omega, by simp only; rw [mL_yes hpm, List.length_append]; exact ht (by simpa using c2)⟩, by simp only; omega⟩, EnvLe.of_eq (by rw [w64 (n := (i : Int) + 1) (by omega)]; rfl), .refl _⟩
 ·try simp only [go_sem] at c0
  refine ex ?_
  obtain rfl : i = rs.length := by omega
  exact ⟨trivial, _, .refl _, ⟨_, rfl⟩, .inl hJ'⟩
end Go.Proofs.YtinhjbnljbmbcaaGreat
/- The claims of a scene. Printed by a tool of our own. -/
namespace Go.Proofs.YtinhjbnljbmbcaaGreat
open Go Go.RowKit
set_option linter.unusedSimpArgs false
set_option linter.unusedVariables false
set_option maxHeartbeats 4000000
set_option maxRecDepth 100000
structure Cl where
 ru : Int
 k : Int
 a : Int
 b : Int
 c : Int
 ok : Bool
def cl0 : Cl := ⟨0, 0, 0, 0, 0, false⟩
def crow (c : Cl) : List D := [.int .i64 c.ru, .int .i64 c.k, .int .i64 c.a, .int .i64 c.b, .int .i64 c.c, .bool c.ok]
def clD : List Cl → List D
 | [] => []
 | c :: l => crow c ++ clD l
def clat (o : List Cl) (p : Nat) : Cl := o.getD p cl0
theorem clD_len : ∀ o : List Cl, (clD o).length = o.length * 6
 | [] => rfl
 | c :: o => by simp only [clD, List.length_append, clD_len o, List.length_cons, crow, List.length_nil]; omega
theorem clD_drop : ∀ {o : List Cl} {p : Nat}, p < o.length → (clD o).drop (p * 6) = crow (clat o p) ++ clD (o.drop (p + 1))
 | c :: o, 0, _ => rfl
 | c :: o, p + 1, h => by
  have := clD_drop (o := o) (p := p) (by simpa using h)
  simp only [clD, crow, show (p + 1) * 6 = p * 6 + 6 by omega, List.drop_succ_cons, List.cons_append, List.nil_append]
  exact this
theorem clD_load {o : List Cl} {n : Int} (h0 : 0 ≤ n) (h : n < 33) (ho : o.length = 33) : (clD o).drop (0 + n.toNat * 6) = crow (clat o n.toNat) ++ clD (o.drop (n.toNat + 1)) := by rw [Nat.zero_add, clD_drop (by omega)]
theorem clD_putN : ∀ {o : List Cl} {p : Nat} (c : Cl), p < o.length → putCells (clD o) (p * 6) (crow c) = clD (o.set p c)
 | d :: o, 0, c, _ => by simp [putCells, clD, crow]
 | d :: o, p + 1, c, h => by
  have := clD_putN (o := o) (p := p) c (by simpa using h)
  simp only [putCells] at this ⊢
  simp only [clD, List.set_cons_succ, ← this, show (p + 1) * 6 = p * 6 + 6 by omega]
  simp [crow, show p * 6 + 6 + 6 = p * 6 + 6 + 6 from rfl]
theorem clD_put {o : List Cl} {n ru k a b c : Int} {ok : Bool} (h0 : 0 ≤ n) (h : n < 33) (ho : o.length = 33) : putCells (clD o) (0 + n.toNat * 6) [.int .i64 ru, .int .i64 k, .int .i64 a, .int .i64 b, .int .i64 c, .bool ok] = clD (o.set n.toNat ⟨ru, k, a, b, c, ok⟩) := by
 rw [Nat.zero_add]
 exact clD_putN ⟨ru, k, a, b, c, ok⟩ (by omega)
theorem clD_cell : ∀ o : List Cl, (clD o).all D.isCell = true
 | [] => rfl
 | c :: o => by simp only [clD, List.all_append, clD_cell o, crow, List.all_cons, List.all_nil, D.isCell, Bool.and_self]
theorem clD_all {o : List Cl} (h : o.length = 33) : (clD o).take 198 = clD o := List.take_of_length_le (by rw [clD_len]; omega)
theorem clD_end {o : List Cl} (h : o.length = 33) : (clD o).drop 198 = [] := List.drop_eq_nil_of_le (by rw [clD_len]; omega)
theorem scmp3_w (a b c a' b' c' : Int) (t u : Tok) : PCall Tryz.prog (.func 89) [.sl 1 [[.int .i64 a], [.int .i64 b], [.int .i64 c]] t, .sl 1 [[.int .i64 a'], [.int .i64 b'], [.int .i64 c']] u] (.int .i64 (cmpL [a, b, c] [a', b', c'])) := scmp_w [a, b, c] [a', b', c'] t u
/-- Whether a declaration of the strength a, b, c takes a claim's place. -/
def clU (o : Cl) (a b c : Int) : Bool := !o.ok || decide (o.a = a ∧ o.b = b ∧ o.c = c) || decide (cmpL [o.a, o.b, o.c] [a, b, c] < 0)
theorem clU_yes {o : Cl} {a b c : Int} (h : (o.ok = false ∨ o.a = a ∧ o.b = b ∧ o.c = c) ∨ cmpL [o.a, o.b, o.c] [a, b, c] < 0) : clU o a b c = true := by
 unfold clU
 rcases h with (h | h) | h
 ·rw [h]; rfl
 ·rw [decide_eq_true h]; simp
 ·rw [decide_eq_true h]; simp
theorem clU_no {o : Cl} {a b c : Int} (h : (o.ok = true ∧ (¬ o.a = a ∨ ¬ o.b = b ∨ ¬ o.c = c)) ∧ ¬ cmpL [o.a, o.b, o.c] [a, b, c] < 0) : clU o a b c = false := by
 unfold clU
 rw [h.1.1, decide_eq_false h.2, decide_eq_false (by rintro ⟨x, y, z⟩; rcases h.1.2 with k | k | k <;> contradiction)]
 rfl
def cl1 (rs : List Ru) (i : Nat) (o : List Cl) (k : Nat) : List Cl :=
 if clU (clat o (dcat (ruat rs i).decls k).prop.toNat) (ruat rs i).lay (wtB (ruat rs i).tests) i = true then o.set (dcat (ruat rs i).decls k).prop.toNat ⟨i, k, (ruat rs i).lay, wtB (ruat rs i).tests, i, true⟩ else o
def clR (rs : List Ru) (i : Nat) (o : List Cl) (n : Nat) : List Cl := (List.range n).foldl (cl1 rs i) o
theorem clR_succ (rs : List Ru) (i : Nat) (o : List Cl) (n : Nat) : clR rs i o (n + 1) = cl1 rs i (clR rs i o n) n := by
 unfold clR
 rw [List.range_succ, List.foldl_append]
 rfl
def clF (rs : List Ru) (o : List Cl) (is : List Nat) : List Cl := is.foldl (fun o i => clR rs i o (ruat rs i).decls.length) o
theorem cl1_len (rs : List Ru) (i : Nat) (o : List Cl) (k : Nat) : (cl1 rs i o k).length = o.length := by
 unfold cl1
 split <;> simp
theorem clR_len (rs : List Ru) (i : Nat) (o : List Cl) : ∀ n, (clR rs i o n).length = o.length
 | 0 => rfl
 | n + 1 => by rw [clR_succ, cl1_len, clR_len rs i o n]
theorem clF_len (rs : List Ru) : ∀ (is : List Nat) (o : List Cl), (clF rs o is).length = o.length
 | [], _ => rfl
 | i :: is, o => (clF_len rs is _).trans (clR_len rs i o _)
theorem clF_take {rs : List Ru} {o : List Cl} {is : List Nat} {n i : Nat} (h : is[n]? = some i) : clF rs o (is.take (n + 1)) = clR rs i (clF rs o (is.take n)) (ruat rs i).decls.length := by
 rw [List.take_add_one, h]
 unfold clF
 rw [List.foldl_append]
 rfl
def mI (p : Nat → Bool) (n : Nat) : List Nat := (List.range n).filter p
theorem mL_get {p : Nat → Bool} {y : Nat → List D} {n j : Nat} {z : List D} (h : (mL p y n)[j]? = some z) : ∃ i, (mI p n)[j]? = some i ∧ z = y i ∧ i < n := by
 unfold mL at h
 rw [List.getElem?_map] at h
 cases e : ((List.range n).filter p)[j]? with
 | none => rw [e] at h; cases h
 | some i =>
  rw [e] at h
  cases h
  have := List.mem_of_getElem? e
  rw [List.mem_filter, List.mem_range] at this
  exact ⟨i, e, rfl, this.1⟩
def claimsR (l : List Nd) (rs : List Ru) (x w s lg bx : Int) : List Cl := clF rs (List.replicate 33 cl0) (mI (fun i => ruM l x w s lg bx (ruat rs i)) rs.length)
theorem claims_len (l : List Nd) (rs : List Ru) (x w s lg bx : Int) : (claimsR l rs x w s lg bx).length = 33 := (clF_len ..).trans (List.length_replicate ..)
attribute [local go_sem] List.length_map rowAt_n nrow rowAt_t trow rowAt_i irow
attribute [local go_sem] rowAt_e rowAt_tm rowAt_dc rowAt_ru tmrow dcrow rurow
attribute [local go_sem] iD_all iD_len rw2_0 rw2_1 rw1_0 Int.toNat_one
attribute [local go_sem] clD_load clD_put clD_len clD_cell clD_all clD_end crow ruS
theorem clms_w (l : List Nd) (rs : List Ru) (x w s lg bx : Int) (hrs : rs.length ≤ 200) (hdl : ∀ i, i < rs.length → (ruat rs i).decls.length ≤ 40) (hps : ∀ i, i < rs.length → ∀ k, k < (ruat rs i).decls.length → 1 ≤ (dcat (ruat rs i).decls k).prop ∧ (dcat (ruat rs i).decls k).prop ≤ 32) : PCall Tryz.prog (.func 55) [.ag [.sl 5 (l.map nrow) .no, .sl 4 (rs.map rurow) .no, .int .i64 x, .int .i64 w, .int .i64 s, .int .i64 lg, .int .i64 bx]] (.ag (clD (claimsR l rs x w s lg bx))) := by
 refine PCall.le ?_
 refine fn_ Tryz.func55 (by rfl) (by rfl) (rs := [.cell 2 98]) (by rfl) (by simp [Tryz.f55]) ?_
 refine sr_ [1, 2] [1] [] fun κ ξ hκ hξ => ?_
 try simp +decide only [go_sem]
 repeat with_reducible refine an_ ?_
 intro b2 hb2
 try simp +decide only [go_sem, hb2]
 repeat with_reducible refine an_ ?_
 refine hκ _ _ ?_; clear hκ hξ ξ κ
 refine sr_ [1, 2, 3] [] [] fun κ ξ hκ hξ => ?_
 try simp +decide only [go_sem, hb2]
 repeat with_reducible refine an_ ?_
 intro b3 hb3
 try simp +decide only [go_sem, hb2, hb3]
 repeat with_reducible refine an_ ?_
 refine hκ _ _ ?_; clear hκ hξ ξ κ
 refine weak _ (EnvLe.refl _) (σ' := [(b3, .cells (clD (List.replicate 33 cl0))), (b2, .cells (clD (List.replicate 33 cl0)))]) (.refl _) ?_
 refine sq ?_
 refine sr_ [1, 2, 3, 10] [] [] fun κ ξ hκ hξ => ?_
 try simp +decide only [go_sem, hb2, hb3]
 repeat with_reducible refine an_ ?_
 refine callF (mtg_w _ _ _ _ _ _ _) ?_
 try simp +decide only [go_sem, hb2, hb3]
 repeat with_reducible refine an_ ?_
 refine hκ _ _ ?_; clear hκ hξ ξ κ
 refine bl ?_
 refine rf (ps := [11, 12]) (fun n τ => τ = [(b3, .cells (clD (clF rs (List.replicate 33 cl0) ((mI (fun i => ruM l x w s lg bx (ruat rs i)) rs.length).take n)))), (b2, .cells (clD (List.replicate 33 cl0)))]) (fun _ _ => False) (by rfl) Tryz.func134 (by rfl) (by rfl) (mtg1_w l rs x w s lg bx hrs) (by intro p hp; simp at hp; rcases hp with rfl | rfl <;> decide) (fun z hz => by simp only [mL, List.mem_map] at hz; obtain ⟨p, _, rfl⟩ := hz; rfl) (by rfl) ?_ ?_ (fun _ _ h => h.elim)
 ·intro L n z hx τ hτ
  subst hτ
  obtain ⟨i, hp, rfl, hil⟩ := mL_get hx
  have hil' : (i : Int) < rs.length := by omega
  refine sr_ [1, 2, 3, 4, 12] [] [] fun κ ξ hκ hξ => ?_
  try simp +decide only [go_sem, hb2, hb3, hil']
  repeat with_reducible refine an_ ?_
  refine hκ _ _ ?_; clear hκ hξ ξ κ
  refine rrz_ [(5, [])] [1, 2, 3, 4, 5] [] [] fun κ ξ hκ hξ => ?_
  try simp +decide only [go_sem, hb2, hb3, hil']
  repeat with_reducible refine an_ ?_
  intro b5 hb5
  try simp +decide only [go_sem, hb2, hb3, hil', hb5]
  repeat with_reducible refine an_ ?_
  refine hκ _ _ ⟨rfl, ?_⟩; clear hκ hξ ξ κ
  refine bl ?_
  refine sr_ [1, 2, 3, 4, 5, 18, 19, 20] [] [] fun κ ξ hκ hξ => ?_
  try simp +decide only [go_sem, hb2, hb3, hil', hb5]
  repeat with_reducible refine an_ ?_
  refine hκ _ _ ?_; clear hκ hξ ξ κ
  refine bl ?_
  refine lp (α := Nat) (fun k => mk [(1, .el [.sl 5 (l.map nrow) .no, .sl 4 (rs.map rurow) .no, .int .i64 x, .int .i64 w, .int .i64 s, .int .i64 lg, .int .i64 bx]), (2, .ptr b2 0), (3, .ptr b3 0), (4, .int .i64 i), (5, .el (ruS rs i)), (18, .sl 4 ((ruat rs i).decls.map dcrow) .no), (19, .int .i64 (ruat rs i).decls.length), (20, .int .i64 k)]) (fun k => [(b3, .cells (clD (clR rs i (clF rs (List.replicate 33 cl0) ((mI (fun i => ruM l x w s lg bx (ruat rs i)) rs.length).take n)) k))), (b2, .cells (clD (List.replicate 33 cl0)))]) (fun k => k ≤ (ruat rs i).decls.length) (fun k => (ruat rs i).decls.length - k) 0 ⟨by omega, EnvLe.of_eq rfl, .refl _⟩ ?_
  rintro k hk
  refine sr_ [1, 2, 3, 4, 5, 18, 19, 20, 21] [] [] fun κ ξ hκ hξ => ?_
  try simp +decide only [go_sem, hb2, hb3, hil', hb5]
  repeat with_reducible refine an_ ?_
  refine hκ _ _ ?_; clear hκ hξ ξ κ
  refine sq ?_
  refine cd_ (fun c0 => ?_) (fun c0 => ?_)
  ·simp only [go_sem] at c0
   have hp0 : 0 ≤ (dcat (ruat rs i).decls k).prop := by have := hps i hil k (by omega); omega
   have hp1 : (dcat (ruat rs i).decls k).prop < 33 := by have := hps i hil k (by omega); omega
   have hlk : (clR rs i (clF rs (List.replicate 33 cl0) ((mI (fun i => ruM l x w s lg bx (ruat rs i)) rs.length).take n)) k).length = 33 := by rw [clR_len, clF_len, List.length_replicate]
   refine sk ?_
   refine sq ?_
   refine bl ?_
   refine srz_ [(7, [])] [1, 2, 3, 4, 5, 6, 7, 18, 19, 20] [] [] fun κ ξ hκ hξ => ?_
   try simp +decide only [go_sem, hb2, hb3, hil', hb5, c0, hp0, hp1, hlk]
   repeat with_reducible refine an_ ?_
   intro b7 hb7
   try simp +decide only [go_sem, hb2, hb3, hil', hb5, c0, hp0, hp1, hlk, hb7]
   repeat with_reducible refine an_ ?_
   refine hκ _ _ ?_; clear hκ hξ ξ κ
   refine srz_ [(8, [])] [1, 2, 3, 4, 5, 6, 7, 8, 18, 19, 20] [] [] fun κ ξ hκ hξ => ?_
   try simp +decide only [go_sem, hb2, hb3, hil', hb5, c0, hp0, hp1, hlk, hb7]
   repeat with_reducible refine an_ ?_
   intro b8 hb8
   try simp +decide only [go_sem, hb2, hb3, hil', hb5, c0, hp0, hp1, hlk, hb7, hb8]
   repeat with_reducible refine an_ ?_
   refine hκ _ _ ?_; clear hκ hξ ξ κ
   refine srd_ [1, 2, 3, 4, 5, 6, 7, 18, 19, 20, 44] [] [42] [(3, 32), (9, 38)] fun κ ξ hκ hξ => ?_
   try simp +decide only [go_sem, hb2, hb3, hil', hb5, c0, hp0, hp1, hlk, hb7, hb8]
   repeat with_reducible refine an_ ?_
   refine vd_gc (by rfl) ?_
   try simp +decide only [go_sem, hb2, hb3, hil', hb5, c0, hp0, hp1, hlk, hb7, hb8]
   refine gcF (scmp3_w _ _ _ _ _ _ _ _) ?_
   try simp +decide only [go_sem, hb2, hb3, hil', hb5, c0, hp0, hp1, hlk, hb7, hb8]
   repeat with_reducible refine an_ ?_
   refine hκ _ _ ?_; clear hκ hξ ξ κ
   refine cd_ (fun c1 => ?_) (fun c1 => ?_)
   ·try simp only [go_sem] at c1
    refine rr_ [1, 2, 3, 4, 5, 18, 19, 20] [] [] fun κ ξ hκ hξ => ?_
    try simp +decide only [go_sem, hb2, hb3, hil', hb5, c0, hp0, hp1, hlk, hb7, hb8, c1]
    repeat with_reducible refine an_ ?_
    refine hκ _ _ ?_; clear hκ hξ ξ κ
    refine rr_ [1, 2, 3, 4, 5, 18, 19, 20] [] [] fun κ ξ hκ hξ => ?_
    try simp +decide only [go_sem, hb2, hb3, hil', hb5, c0, hp0, hp1, hlk, hb7, hb8, c1]
    repeat with_reducible refine an_ ?_
    refine hκ _ _ ?_; clear hκ hξ ξ κ
    have hst := clU_yes c1
    have hd := hdl i hil
    have hput := clD_put (ru := (i : Int)) (k := (k : Int)) (a := (ruat rs i).lay) (b := wtB (ruat rs i).tests) (c := (i : Int)) (ok := true) hp0 hp1 hlk
    refine ⟨k + 1, ⟨by omega, by omega⟩, EnvLe.of_eq (by rw [w64 (n := (k : Int) + 1) (by omega)]; rfl), ?_⟩
    rw [clR_succ, cl1, if_pos hst, ← hput]
    exact .refl _
   ·try simp only [go_sem] at c1
    refine sk ?_
    refine rr_ [1, 2, 3, 4, 5, 18, 19, 20] [] [] fun κ ξ hκ hξ => ?_
    try simp +decide only [go_sem, hb2, hb3, hil', hb5, c0, hp0, hp1, hlk, hb7, hb8, c1]
    repeat with_reducible refine an_ ?_
    refine hκ _ _ ?_; clear hκ hξ ξ κ
    have hst := clU_no c1
    have hd := hdl i hil
    refine ⟨k + 1, ⟨by omega, by omega⟩, EnvLe.of_eq (by rw [w64 (n := (k : Int) + 1) (by omega)]; rfl), ?_⟩
    rw [clR_succ, cl1, if_neg (by rw [hst]; simp)]
    exact .refl _
  ·simp only [go_sem] at c0
   refine ex ?_
   show _ = _
   rw [clF_take hp, show k = (ruat rs i).decls.length by omega]
 ·rintro τ rfl
  have e : clF rs (List.replicate 33 cl0) (List.take (mL (fun i => ruM l x w s lg bx (ruat rs i)) (fun i => [.int .i64 i, .ag (ruS rs i)]) rs.length).length (mI (fun i => ruM l x w s lg bx (ruat rs i)) rs.length)) = claimsR l rs x w s lg bx := by rw [List.take_of_length_le (by unfold mL mI; rw [List.length_map]; exact Nat.le_refl _)]; rfl
  rw [e]
  have hcl := claims_len l rs x w s lg bx
  refine sr_ [2] [] [] fun κ ξ hκ hξ => ?_
  try simp +decide only [go_sem, hb2, hb3, hcl, List.append_nil, List.length_replicate]
  repeat with_reducible refine an_ ?_
  refine hκ _ _ ?_; clear hκ hξ ξ κ
  refine rt ?_
  refine retE ?_
  simp +decide only [go_sem, resD, resV, hb2, hb3, hcl, List.append_nil, List.length_replicate]
  
end Go.Proofs.YtinhjbnljbmbcaaGreat
/- Cascade: check, First, vars. Printed by a tool of our own. -/
namespace Go.Proofs.YtinhjbnljbmbcaaGreat
open Go Go.RowKit
set_option linter.unusedSimpArgs false
set_option linter.unusedVariables false
set_option maxHeartbeats 4000000
set_option maxRecDepth 100000
def ckB (l : List Nd) (rs : List Ru) (w s lg bx : Int) : Bool := treB l && rulesB rs && rdB w s lg && isBx bx
def ckE (l : List Nd) (rs : List Ru) (x w s lg bx : Int) : Int := if ckB l rs w s lg bx = true then (if idB x = true then (if 0 ≤ idx l x then 0 else 4) else 1) else 1
theorem flat_i : ∀ l : List Int, (l.map irow).flatten = l.map iD
 | [] => rfl
 | x :: l => by simp only [List.map_cons, List.flatten_cons, flat_i l, irow, List.cons_append, List.nil_append, iD]
def firstS : List Int := [0, 0, 0, 0, 0, 0, 0, 0, 0, 10, 0, 0, 0, 0, 1, 1, 0, 0, 0, 0, 0, 0, 0, 0, 0, 0, 0, 0, 0, 0, 0, 0, 0]
attribute [local go_sem] List.length_map rowAt_n nrow rowAt_t trow rowAt_i irow
attribute [local go_sem] rowAt_e rowAt_tm rowAt_dc rowAt_ru tmrow dcrow rurow
attribute [local go_sem] iD_all iD_len rw2_0 rw2_1 rw1_0 Int.toNat_one
theorem chk_w (l : List Nd) (rs : List Ru) (x w s lg bx : Int) : PCall Tryz.prog (.func 54) [.ag [.sl 5 (l.map nrow) .no, .sl 4 (rs.map rurow) .no, .int .i64 x, .int .i64 w, .int .i64 s, .int .i64 lg, .int .i64 bx]] (.int .i64 (ckE l rs x w s lg bx)) := by
 refine PCall.le ?_
 refine fn_ Tryz.func54 (by rfl) (by rfl) (rs := [.tmp 2]) (by rfl) (by simp [Tryz.f54]) ?_
 refine sr_ [1] [1] [] fun κ ξ hκ hξ => ?_
 try simp +decide only [go_sem]
 repeat with_reducible refine an_ ?_
 refine hκ _ _ ?_; clear hκ hξ ξ κ
 refine sq ?_
 refine sr_ [1, 27] [] [(4, 10), (10, 16), (16, 22)] fun κ ξ hκ hξ => ?_
 try simp +decide only [go_sem]
 repeat with_reducible refine an_ ?_
 refine callF (tre_w _ _) ?_
 try simp +decide only [go_sem]
 repeat with_reducible refine an_ ?_
 refine vo_gc ?_
 try simp +decide only [go_sem]
 refine gcF (shv_w _ _) ?_
 try simp +decide only [go_sem]
 repeat with_reducible refine an_ ?_
 refine vo_gc ?_
 try simp +decide only [go_sem]
 refine gcF (drd_w _ _ _) ?_
 try simp +decide only [go_sem]
 repeat with_reducible refine an_ ?_
 refine vo_gc ?_
 try simp +decide only [go_sem]
 refine gcF (isbox_w _) ?_
 try simp +decide only [go_sem]
 repeat with_reducible refine an_ ?_
 refine hκ _ _ ?_; clear hκ hξ ξ κ
 refine cd_ (fun c0 => ?_) (fun c0 => ?_)
 ·simp only [go_sem] at c0
  refine sr_ [2] [] [] fun κ ξ hκ hξ => ?_
  try simp +decide only [go_sem, c0]
  repeat with_reducible refine an_ ?_
  refine hκ _ _ ?_; clear hκ hξ ξ κ
  refine rt ?_
  refine retE ?_
  simp +decide only [go_sem, resD, resV, c0]
  congr 1
  unfold ckE
  rw [if_neg (by unfold ckB; rcases c0 with ((h | h) | h) | h <;> simp [h])]
 ·simp only [go_sem] at c0
  have hck : ckB l rs w s lg bx = true := by unfold ckB; rw [c0.1.1.1, c0.1.1.2, c0.1.2, c0.2]; rfl
  refine sk ?_
  refine sr_ [4, 5] [] [] fun κ ξ hκ hξ => ?_
  try simp +decide only [go_sem, c0]
  repeat with_reducible refine an_ ?_
  refine callF (find_w _ _ _) ?_
  try simp +decide only [go_sem, c0]
  repeat with_reducible refine an_ ?_
  refine hκ _ _ ?_; clear hκ hξ ξ κ
  refine sq ?_
  refine sr_ [5, 42] [] [(2, 39)] fun κ ξ hκ hξ => ?_
  try simp +decide only [go_sem, c0]
  repeat with_reducible refine an_ ?_
  refine hκ _ _ ?_; clear hκ hξ ξ κ
  refine cd_ (fun c1 => ?_) (fun c1 => ?_)
  ·try simp only [go_sem] at c1
   refine sr_ [2] [] [] fun κ ξ hκ hξ => ?_
   try simp +decide only [go_sem, c0, c1]
   repeat with_reducible refine an_ ?_
   refine hκ _ _ ?_; clear hκ hξ ξ κ
   refine rt ?_
   refine retE ?_
   simp +decide only [go_sem, resD, resV, c0, c1]
   congr 1
   unfold ckE
   rw [if_pos hck]
   cases hid : idB x
   ·rw [hid] at c1
    simp at c1
   ·rw [hid] at c1
    simp at c1
    rw [if_pos rfl, if_neg (by omega)]
  ·try simp only [go_sem] at c1
   refine sk ?_
   refine sr_ [2] [] [] fun κ ξ hκ hξ => ?_
   try simp +decide only [go_sem, c0, c1]
   repeat with_reducible refine an_ ?_
   refine hκ _ _ ?_; clear hκ hξ ξ κ
   refine rt ?_
   refine retE ?_
   simp +decide only [go_sem, resD, resV, c0, c1]
   congr 1
   unfold ckE
   rw [if_pos hck]
   cases hid : idB x
   ·rfl
   ·rw [hid] at c1
    simp at c1
    rw [if_pos rfl, if_pos rfl, if_pos c1]
theorem frst_w  : PCall Tryz.prog (.func 22) [] (.ag (firstS.map iD)) := by
 refine PCall.le ?_
 refine fn_ Tryz.func22 (by rfl) (by rfl) (rs := [.cell 0 33]) (by rfl) (by simp [Tryz.f22]) ?_
 refine sr_ [0] [] [] fun κ ξ hκ hξ => ?_
 try simp +decide only [go_sem]
 repeat with_reducible refine an_ ?_
 intro b0 hb0
 try simp +decide only [go_sem, hb0]
 repeat with_reducible refine an_ ?_
 refine hκ _ _ ?_; clear hκ hξ ξ κ
 refine sr_ [0] [] [] fun κ ξ hκ hξ => ?_
 try simp +decide only [go_sem, hb0]
 repeat with_reducible refine an_ ?_
 refine hκ _ _ ?_; clear hκ hξ ξ κ
 refine rt ?_
 refine retE ?_
 simp +decide only [go_sem, resD, resV, hb0]
 rfl
theorem vars_w (st : List Int) (hst : st.length = 33) : PCall Tryz.prog (.func 56) [.ag (st.map iD)] (.ag ((st.drop 25).map iD)) := by
 have hch := chunk_i hst
 have h33 : st.take 33 = st := List.take_of_length_le (by omega)
 have h8 : ((st.drop 25).map iD).length = 8 := by rw [List.length_map, List.length_drop]; omega
 have ht := List.take_of_length_le (Nat.le_of_eq h8)
 refine PCall.le ?_
 refine fn_ Tryz.func56 (by rfl) (by rfl) (rs := [.cell 2 102]) (by rfl) (by simp [Tryz.f56]) ?_
 refine sr_ [1, 2] [1] [] fun κ ξ hκ hξ => ?_
 try simp +decide only [go_sem, hst, ↓hch, h33, flat_i, ht, ↓h8, List.append_nil, Int.reduceToNat]
 repeat with_reducible refine an_ ?_
 intro b2 hb2
 try simp +decide only [go_sem, hst, ↓hch, h33, flat_i, ht, ↓h8, List.append_nil, Int.reduceToNat, hb2]
 repeat with_reducible refine an_ ?_
 refine hκ _ _ ?_; clear hκ hξ ξ κ
 refine sr_ [2] [] [] fun κ ξ hκ hξ => ?_
 try simp +decide only [go_sem, hst, ↓hch, h33, flat_i, ht, ↓h8, List.append_nil, Int.reduceToNat, hb2]
 repeat with_reducible refine an_ ?_
 refine hκ _ _ ?_; clear hκ hξ ξ κ
 refine rt ?_
 refine retE ?_
 simp +decide only [go_sem, resD, resV, hst, ↓hch, h33, flat_i, ht, ↓h8, List.append_nil, Int.reduceToNat, hb2]
 constructor
 ·rw [List.length_append, h8]; omega
 ·rw [List.take_append_of_le_length (by rw [h8]; exact Nat.le_refl _), ht]
end Go.Proofs.YtinhjbnljbmbcaaGreat
/- What cuts each property. Printed by a tool of our own. -/
namespace Go.Proofs.YtinhjbnljbmbcaaGreat
open Go Go.RowKit
set_option linter.unusedSimpArgs false
set_option linter.unusedVariables false
set_option maxHeartbeats 4000000
set_option maxRecDepth 100000
theorem rwz (x : List D) (l : List (List D)) : rowAt (x :: l) 0 = x := rfl
theorem rws1 (a x : List D) (l : List (List D)) : rowAt (a :: x :: l) 1 = x := rfl
theorem rws2 (a b x : List D) (l : List (List D)) : rowAt (a :: b :: x :: l) 2 = x := rfl
theorem rws3 (a b c x : List D) (l : List (List D)) : rowAt (a :: b :: c :: x :: l) 3 = x := rfl
theorem rws4 (a b c d x : List D) (l : List (List D)) : rowAt (a :: b :: c :: d :: x :: l) 4 = x := rfl
theorem wr1 : IntKind.wrap .i64 (0 + 1) = 1 := by decide
theorem wr2 : IntKind.wrap .i64 (1 + 1) = 2 := by decide
theorem wr3 : IntKind.wrap .i64 (2 + 1) = 3 := by decide
theorem wr4 : IntKind.wrap .i64 (3 + 1) = 4 := by decide
theorem wr5 : IntKind.wrap .i64 (4 + 1) = 5 := by decide
def cpD (a b : Int) : D := .fn (.func 133) [] [.el [.int .i64 a], .el [.int .i64 b]]
def cutF : List D := List.replicate 25 (cpD 0 100000) ++ List.replicate 8 (cpD (-1000000) 1000000)
def cutA (i : Nat) : List D := cutF.take i ++ (List.replicate 33 (.v .nilFunc)).drop i
theorem cutA_len {i : Nat} (h : i ≤ 33) : (cutA i).length = 33 := by
 simp only [cutA, cutF, List.length_append, List.length_take, List.length_drop, List.length_replicate]; omega
theorem cut_put {i : Nat} (h : i < 33) (x : D) : putCells (cutA i) i [x] = cutF.take i ++ x :: (List.replicate 33 (.v .nilFunc)).drop (i + 1) := by
 have h1 : (cutF.take i).length = i := by simp only [cutF, List.length_append, List.length_take, List.length_replicate]; omega
 unfold putCells cutA
 rw [List.take_left' h1, List.length_singleton, List.drop_append, h1, show i + 1 - i = 1 by omega, List.drop_drop, List.drop_eq_nil_of_le (by rw [h1]; omega)]
 simp [Nat.add_comm]
theorem cut_put2 {i : Nat} (h : i < 33) (x y : D) : putCells (cutF.take i ++ x :: (List.replicate 33 (.v .nilFunc)).drop (i + 1)) i [y] = cutF.take i ++ y :: (List.replicate 33 (.v .nilFunc)).drop (i + 1) := by
 have h1 : (cutF.take i).length = i := by simp only [cutF, List.length_append, List.length_take, List.length_replicate]; omega
 unfold putCells
 rw [List.take_left' h1, List.length_singleton, List.drop_append, h1, show i + 1 - i = 1 by omega, List.drop_eq_nil_of_le (by rw [h1]; omega)]
 simp
theorem cut_step {i : Nat} {x : D} (h : cutF[i]? = some x) : cutF.take i ++ x :: (List.replicate 33 (.v .nilFunc)).drop (i + 1) = cutA (i + 1) := by
 unfold cutA
 rw [List.take_add_one, h]
 simp
theorem cutF_lo {i : Nat} (h : i < 25) : cutF[i]? = some (cpD 0 100000) := by
 unfold cutF
 rw [List.getElem?_append_left (by simpa using h), List.getElem?_replicate, if_pos h]
theorem cutF_hi {i : Nat} (h : 25 ≤ i) (h2 : i < 33) : cutF[i]? = some (cpD (-1000000) 1000000) := by
 unfold cutF
 rw [List.getElem?_append_right (by simpa using h), List.length_replicate, List.getElem?_replicate, if_pos (by omega)]
def flD : D := .fn (.func 85) [] []
/-- What each property is cut by. -/
def cutL : List D := [cpD 0 0, cpD (-100000) 100000, cpD (-100000) 100000, cpD 0 100000, cpD 0 100000, cpD 0 100000, cpD 0 100000, cpD 0 2, cpD 0 7, cpD 0 100000, cpD 0 2, flD, cpD 0 100000, cpD 0 100000, cpD 1 64, cpD 1 64, cpD 0 100000, flD,
  cpD (-100000) 100000, cpD (-100000) 100000, cpD 0 100000, flD, cpD 0 100000, flD, flD, cpD (-1000000) 1000000, cpD (-1000000) 1000000, cpD (-1000000) 1000000, cpD (-1000000) 1000000, cpD (-1000000) 1000000, cpD (-1000000) 1000000, cpD (-1000000) 1000000, cpD (-1000000) 1000000]
attribute [local go_sem] List.length_map rowAt_n nrow rowAt_t trow rowAt_i irow
attribute [local go_sem] rowAt_e rowAt_tm rowAt_dc rowAt_ru tmrow dcrow rurow
attribute [local go_sem] iD_all iD_len rw2_0 rw2_1 rw1_0 Int.toNat_one
attribute [local go_sem] rwz rws1 rws2 rws3 rws4 wr1 wr2 wr3 wr4 wr5
theorem cuts_w  : PCall Tryz.prog (.func 52) [] (.ag cutL) := by
 refine PCall.le ?_
 refine fn_ Tryz.func52 (by rfl) (by rfl) (rs := [.cell 0 89]) (by rfl) (by simp [Tryz.f52]) ?_
 refine sr_ [0] [] [] fun κ ξ hκ hξ => ?_
 try simp +decide only [go_sem]
 repeat with_reducible refine an_ ?_
 intro b0 hb0
 try simp +decide only [go_sem, hb0]
 repeat with_reducible refine an_ ?_
 refine hκ _ _ ?_; clear hκ hξ ξ κ
 refine sr_ [0, 1] [] [] fun κ ξ hκ hξ => ?_
 try simp +decide only [go_sem, hb0]
 repeat with_reducible refine an_ ?_
 intro b1 hb1
 try simp +decide only [go_sem, hb0, hb1]
 repeat with_reducible refine an_ ?_
 refine hκ _ _ ?_; clear hκ hξ ξ κ
 refine weak _ (EnvLe.refl _) (σ' := [(b1, .cells (cutA 0)), (b0, .cells (List.replicate 33 (D.v .nilFunc)))]) (.refl _) ?_
 refine sq ?_
 refine sr_ [0, 1, 7] [] [] fun κ ξ hκ hξ => ?_
 try simp +decide only [go_sem, hb0, hb1]
 repeat with_reducible refine an_ ?_
 refine hκ _ _ ?_; clear hκ hξ ξ κ
 refine bl ?_
 refine lp (α := Nat) (fun i => mk [(0, .ptr b0 0), (1, .ptr b1 0), (7, .int .i64 i)]) (fun i => [(b1, .cells (cutA i)), (b0, .cells (List.replicate 33 (D.v .nilFunc)))]) (fun i => i ≤ 33) (fun i => 33 - i) 0 ⟨by omega, EnvLe.of_eq rfl, .refl _⟩ ?_
 rintro i hi
 have hcl := cutA_len hi
 refine sr_ [0, 1, 7, 8] [] [] fun κ ξ hκ hξ => ?_
 try simp +decide only [go_sem, hb0, hb1, hcl, Int.reduceToNat, Nat.zero_add, Nat.mul_one, Int.toNat_natCast]
 repeat with_reducible refine an_ ?_
 refine hκ _ _ ?_; clear hκ hξ ξ κ
 refine sq ?_
 refine cd_ (fun c0 => ?_) (fun c0 => ?_)
 ·simp only [go_sem] at c0
  refine sk ?_
  refine sq ?_
  refine bl ?_
  refine sr_ [0, 1, 2, 7] [] [] fun κ ξ hκ hξ => ?_
  try simp +decide only [go_sem, hb0, hb1, hcl, Int.reduceToNat, Nat.zero_add, Nat.mul_one, Int.toNat_natCast, c0]
  repeat with_reducible refine an_ ?_
  refine hκ _ _ ?_; clear hκ hξ ξ κ
  refine sr_ [0, 1, 2, 7] [] [] fun κ ξ hκ hξ => ?_
  try simp +decide only [go_sem, hb0, hb1, hcl, Int.reduceToNat, Nat.zero_add, Nat.mul_one, Int.toNat_natCast, c0]
  repeat with_reducible refine an_ ?_
  refine callF (clip_w _ _) ?_
  try simp +decide only [go_sem, hb0, hb1, hcl, Int.reduceToNat, Nat.zero_add, Nat.mul_one, Int.toNat_natCast, c0]
  repeat with_reducible refine an_ ?_
  refine hκ _ _ ?_; clear hκ hξ ξ κ
  refine sr_ [0, 1, 2, 7, 14] [] [] fun κ ξ hκ hξ => ?_
  try simp +decide only [go_sem, hb0, hb1, hcl, Int.reduceToNat, Nat.zero_add, Nat.mul_one, Int.toNat_natCast, c0]
  repeat with_reducible refine an_ ?_
  refine hκ _ _ ?_; clear hκ hξ ξ κ
  refine cd_ (fun c1 => ?_) (fun c1 => ?_)
  ·try simp only [go_sem] at c1
   refine rr_ [0, 1, 7] [] [] fun κ ξ hκ hξ => ?_
   try simp +decide only [go_sem, hb0, hb1, hcl, Int.reduceToNat, Nat.zero_add, Nat.mul_one, Int.toNat_natCast, c0, c1]
   repeat with_reducible refine an_ ?_
   refine callF (clip_w _ _) ?_
   try simp +decide only [go_sem, hb0, hb1, hcl, Int.reduceToNat, Nat.zero_add, Nat.mul_one, Int.toNat_natCast, c0, c1]
   repeat with_reducible refine an_ ?_
   refine hκ _ _ ?_; clear hκ hξ ξ κ
   refine rr_ [0, 1, 7] [] [] fun κ ξ hκ hξ => ?_
   try simp +decide only [go_sem, hb0, hb1, hcl, Int.reduceToNat, Nat.zero_add, Nat.mul_one, Int.toNat_natCast, c0, c1]
   repeat with_reducible refine an_ ?_
   refine hκ _ _ ?_; clear hκ hξ ξ κ
   refine ⟨i + 1, ⟨by omega, by omega⟩, EnvLe.of_eq (by rw [w64 (n := (i : Int) + 1) (by omega)]; rfl), ?_⟩
   rw [← cut_step (cutF_hi (by omega) (by omega)), ← cut_put2 (x := cpD 0 100000) (by omega), ← cut_put (by omega)]
   exact .refl _
  ·try simp only [go_sem] at c1
   refine sk ?_
   refine rr_ [0, 1, 7] [] [] fun κ ξ hκ hξ => ?_
   try simp +decide only [go_sem, hb0, hb1, hcl, Int.reduceToNat, Nat.zero_add, Nat.mul_one, Int.toNat_natCast, c0, c1]
   repeat with_reducible refine an_ ?_
   refine hκ _ _ ?_; clear hκ hξ ξ κ
   refine ⟨i + 1, ⟨by omega, by omega⟩, EnvLe.of_eq (by rw [w64 (n := (i : Int) + 1) (by omega)]; rfl), ?_⟩
   rw [← cut_step (cutF_lo (by omega)), ← cut_put (by omega)]
   exact .refl _
 ·simp only [go_sem] at c0
  obtain rfl : i = 33 := by omega
  refine ex ?_
  refine sr_ [0, 1] [] [] fun κ ξ hκ hξ => ?_
  try simp +decide only [go_sem, hb0, hb1, hcl, Int.reduceToNat, Nat.zero_add, Nat.mul_one, Int.toNat_natCast, c0]
  repeat with_reducible refine an_ ?_
  refine callF (clip_w _ _) ?_
  try simp +decide only [go_sem, hb0, hb1, hcl, Int.reduceToNat, Nat.zero_add, Nat.mul_one, Int.toNat_natCast, c0]
  repeat with_reducible refine an_ ?_
  refine hκ _ _ ?_; clear hκ hξ ξ κ
  refine sq ?_
  refine sr_ [0, 1, 21, 22, 23] [] [] fun κ ξ hκ hξ => ?_
  try simp +decide only [go_sem, hb0, hb1, hcl, Int.reduceToNat, Nat.zero_add, Nat.mul_one, Int.toNat_natCast, c0]
  repeat with_reducible refine an_ ?_
  refine hκ _ _ ?_; clear hκ hξ ξ κ
  refine bl ?_
  refine lpN 5 ?_
  refine rnd ?_
  refine sr_ [0, 1, 21, 22, 23, 24] [] [] fun κ ξ hκ hξ => ?_
  try simp +decide only [go_sem, hb0, hb1, hcl, Int.reduceToNat, Nat.zero_add, Nat.mul_one, Int.toNat_natCast, c0]
  repeat with_reducible refine an_ ?_
  refine hκ _ _ ?_; clear hκ hξ ξ κ
  refine sq ?_
  refine cdt (by rfl) ?_
  refine sk ?_
  refine sq ?_
  refine bl ?_
  refine sr_ [0, 1, 4, 21, 22, 23] [] [] fun κ ξ hκ hξ => ?_
  try simp +decide only [go_sem, hb0, hb1, hcl, Int.reduceToNat, Nat.zero_add, Nat.mul_one, Int.toNat_natCast, c0]
  repeat with_reducible refine an_ ?_
  refine hκ _ _ ?_; clear hκ hξ ξ κ
  refine rr_ [0, 1, 21, 22, 23] [] [] fun κ ξ hκ hξ => ?_
  try simp +decide only [go_sem, hb0, hb1, hcl, Int.reduceToNat, Nat.zero_add, Nat.mul_one, Int.toNat_natCast, c0]
  repeat with_reducible refine an_ ?_
  refine callF (clip_w _ _) ?_
  try simp +decide only [go_sem, hb0, hb1, hcl, Int.reduceToNat, Nat.zero_add, Nat.mul_one, Int.toNat_natCast, c0]
  repeat with_reducible refine an_ ?_
  refine hκ _ _ ?_; clear hκ hξ ξ κ
  refine rr_ [0, 1, 21, 22, 23] [] [] fun κ ξ hκ hξ => ?_
  try simp +decide only [go_sem, hb0, hb1, hcl, Int.reduceToNat, Nat.zero_add, Nat.mul_one, Int.toNat_natCast, c0]
  repeat with_reducible refine an_ ?_
  refine hκ _ _ ?_; clear hκ hξ ξ κ
  refine rnd ?_
  refine sr_ [0, 1, 21, 22, 23, 24] [] [] fun κ ξ hκ hξ => ?_
  try simp +decide only [go_sem, hb0, hb1, hcl, Int.reduceToNat, Nat.zero_add, Nat.mul_one, Int.toNat_natCast, c0]
  repeat with_reducible refine an_ ?_
  refine hκ _ _ ?_; clear hκ hξ ξ κ
  refine sq ?_
  refine cdt (by rfl) ?_
  refine sk ?_
  refine sq ?_
  refine bl ?_
  refine sr_ [0, 1, 4, 21, 22, 23] [] [] fun κ ξ hκ hξ => ?_
  try simp +decide only [go_sem, hb0, hb1, hcl, Int.reduceToNat, Nat.zero_add, Nat.mul_one, Int.toNat_natCast, c0]
  repeat with_reducible refine an_ ?_
  refine hκ _ _ ?_; clear hκ hξ ξ κ
  refine rr_ [0, 1, 21, 22, 23] [] [] fun κ ξ hκ hξ => ?_
  try simp +decide only [go_sem, hb0, hb1, hcl, Int.reduceToNat, Nat.zero_add, Nat.mul_one, Int.toNat_natCast, c0]
  repeat with_reducible refine an_ ?_
  refine callF (clip_w _ _) ?_
  try simp +decide only [go_sem, hb0, hb1, hcl, Int.reduceToNat, Nat.zero_add, Nat.mul_one, Int.toNat_natCast, c0]
  repeat with_reducible refine an_ ?_
  refine hκ _ _ ?_; clear hκ hξ ξ κ
  refine rr_ [0, 1, 21, 22, 23] [] [] fun κ ξ hκ hξ => ?_
  try simp +decide only [go_sem, hb0, hb1, hcl, Int.reduceToNat, Nat.zero_add, Nat.mul_one, Int.toNat_natCast, c0]
  repeat with_reducible refine an_ ?_
  refine hκ _ _ ?_; clear hκ hξ ξ κ
  refine rnd ?_
  refine sr_ [0, 1, 21, 22, 23, 24] [] [] fun κ ξ hκ hξ => ?_
  try simp +decide only [go_sem, hb0, hb1, hcl, Int.reduceToNat, Nat.zero_add, Nat.mul_one, Int.toNat_natCast, c0]
  repeat with_reducible refine an_ ?_
  refine hκ _ _ ?_; clear hκ hξ ξ κ
  refine sq ?_
  refine cdt (by rfl) ?_
  refine sk ?_
  refine sq ?_
  refine bl ?_
  refine sr_ [0, 1, 4, 21, 22, 23] [] [] fun κ ξ hκ hξ => ?_
  try simp +decide only [go_sem, hb0, hb1, hcl, Int.reduceToNat, Nat.zero_add, Nat.mul_one, Int.toNat_natCast, c0]
  repeat with_reducible refine an_ ?_
  refine hκ _ _ ?_; clear hκ hξ ξ κ
  refine rr_ [0, 1, 21, 22, 23] [] [] fun κ ξ hκ hξ => ?_
  try simp +decide only [go_sem, hb0, hb1, hcl, Int.reduceToNat, Nat.zero_add, Nat.mul_one, Int.toNat_natCast, c0]
  repeat with_reducible refine an_ ?_
  refine callF (clip_w _ _) ?_
  try simp +decide only [go_sem, hb0, hb1, hcl, Int.reduceToNat, Nat.zero_add, Nat.mul_one, Int.toNat_natCast, c0]
  repeat with_reducible refine an_ ?_
  refine hκ _ _ ?_; clear hκ hξ ξ κ
  refine rr_ [0, 1, 21, 22, 23] [] [] fun κ ξ hκ hξ => ?_
  try simp +decide only [go_sem, hb0, hb1, hcl, Int.reduceToNat, Nat.zero_add, Nat.mul_one, Int.toNat_natCast, c0]
  repeat with_reducible refine an_ ?_
  refine hκ _ _ ?_; clear hκ hξ ξ κ
  refine rnd ?_
  refine sr_ [0, 1, 21, 22, 23, 24] [] [] fun κ ξ hκ hξ => ?_
  try simp +decide only [go_sem, hb0, hb1, hcl, Int.reduceToNat, Nat.zero_add, Nat.mul_one, Int.toNat_natCast, c0]
  repeat with_reducible refine an_ ?_
  refine hκ _ _ ?_; clear hκ hξ ξ κ
  refine sq ?_
  refine cdt (by rfl) ?_
  refine sk ?_
  refine sq ?_
  refine bl ?_
  refine sr_ [0, 1, 4, 21, 22, 23] [] [] fun κ ξ hκ hξ => ?_
  try simp +decide only [go_sem, hb0, hb1, hcl, Int.reduceToNat, Nat.zero_add, Nat.mul_one, Int.toNat_natCast, c0]
  repeat with_reducible refine an_ ?_
  refine hκ _ _ ?_; clear hκ hξ ξ κ
  refine rr_ [0, 1, 21, 22, 23] [] [] fun κ ξ hκ hξ => ?_
  try simp +decide only [go_sem, hb0, hb1, hcl, Int.reduceToNat, Nat.zero_add, Nat.mul_one, Int.toNat_natCast, c0]
  repeat with_reducible refine an_ ?_
  refine callF (clip_w _ _) ?_
  try simp +decide only [go_sem, hb0, hb1, hcl, Int.reduceToNat, Nat.zero_add, Nat.mul_one, Int.toNat_natCast, c0]
  repeat with_reducible refine an_ ?_
  refine hκ _ _ ?_; clear hκ hξ ξ κ
  refine rr_ [0, 1, 21, 22, 23] [] [] fun κ ξ hκ hξ => ?_
  try simp +decide only [go_sem, hb0, hb1, hcl, Int.reduceToNat, Nat.zero_add, Nat.mul_one, Int.toNat_natCast, c0]
  repeat with_reducible refine an_ ?_
  refine hκ _ _ ?_; clear hκ hξ ξ κ
  refine rnd ?_
  refine sr_ [0, 1, 21, 22, 23, 24] [] [] fun κ ξ hκ hξ => ?_
  try simp +decide only [go_sem, hb0, hb1, hcl, Int.reduceToNat, Nat.zero_add, Nat.mul_one, Int.toNat_natCast, c0]
  repeat with_reducible refine an_ ?_
  refine hκ _ _ ?_; clear hκ hξ ξ κ
  refine sq ?_
  refine cdf (by rfl) ?_
  refine ex ?_
  refine sq ?_
  refine sr_ [0, 1, 31, 32, 33] [] [] fun κ ξ hκ hξ => ?_
  try simp +decide only [go_sem, hb0, hb1, hcl, Int.reduceToNat, Nat.zero_add, Nat.mul_one, Int.toNat_natCast, c0]
  repeat with_reducible refine an_ ?_
  refine hκ _ _ ?_; clear hκ hξ ξ κ
  refine bl ?_
  refine lpN 6 ?_
  refine rnd ?_
  refine sr_ [0, 1, 31, 32, 33, 34] [] [] fun κ ξ hκ hξ => ?_
  try simp +decide only [go_sem, hb0, hb1, hcl, Int.reduceToNat, Nat.zero_add, Nat.mul_one, Int.toNat_natCast, c0]
  repeat with_reducible refine an_ ?_
  refine hκ _ _ ?_; clear hκ hξ ξ κ
  refine sq ?_
  refine cdt (by rfl) ?_
  refine sk ?_
  refine sq ?_
  refine bl ?_
  refine sr_ [0, 1, 6, 31, 32, 33] [] [] fun κ ξ hκ hξ => ?_
  try simp +decide only [go_sem, hb0, hb1, hcl, Int.reduceToNat, Nat.zero_add, Nat.mul_one, Int.toNat_natCast, c0]
  repeat with_reducible refine an_ ?_
  refine hκ _ _ ?_; clear hκ hξ ξ κ
  refine rr_ [0, 1, 31, 32, 33] [] [] fun κ ξ hκ hξ => ?_
  try simp +decide only [go_sem, hb0, hb1, hcl, Int.reduceToNat, Nat.zero_add, Nat.mul_one, Int.toNat_natCast, c0]
  repeat with_reducible refine an_ ?_
  refine hκ _ _ ?_; clear hκ hξ ξ κ
  refine rr_ [0, 1, 31, 32, 33] [] [] fun κ ξ hκ hξ => ?_
  try simp +decide only [go_sem, hb0, hb1, hcl, Int.reduceToNat, Nat.zero_add, Nat.mul_one, Int.toNat_natCast, c0]
  repeat with_reducible refine an_ ?_
  refine hκ _ _ ?_; clear hκ hξ ξ κ
  refine rnd ?_
  refine sr_ [0, 1, 31, 32, 33, 34] [] [] fun κ ξ hκ hξ => ?_
  try simp +decide only [go_sem, hb0, hb1, hcl, Int.reduceToNat, Nat.zero_add, Nat.mul_one, Int.toNat_natCast, c0]
  repeat with_reducible refine an_ ?_
  refine hκ _ _ ?_; clear hκ hξ ξ κ
  refine sq ?_
  refine cdt (by rfl) ?_
  refine sk ?_
  refine sq ?_
  refine bl ?_
  refine sr_ [0, 1, 6, 31, 32, 33] [] [] fun κ ξ hκ hξ => ?_
  try simp +decide only [go_sem, hb0, hb1, hcl, Int.reduceToNat, Nat.zero_add, Nat.mul_one, Int.toNat_natCast, c0]
  repeat with_reducible refine an_ ?_
  refine hκ _ _ ?_; clear hκ hξ ξ κ
  refine rr_ [0, 1, 31, 32, 33] [] [] fun κ ξ hκ hξ => ?_
  try simp +decide only [go_sem, hb0, hb1, hcl, Int.reduceToNat, Nat.zero_add, Nat.mul_one, Int.toNat_natCast, c0]
  repeat with_reducible refine an_ ?_
  refine hκ _ _ ?_; clear hκ hξ ξ κ
  refine rr_ [0, 1, 31, 32, 33] [] [] fun κ ξ hκ hξ => ?_
  try simp +decide only [go_sem, hb0, hb1, hcl, Int.reduceToNat, Nat.zero_add, Nat.mul_one, Int.toNat_natCast, c0]
  repeat with_reducible refine an_ ?_
  refine hκ _ _ ?_; clear hκ hξ ξ κ
  refine rnd ?_
  refine sr_ [0, 1, 31, 32, 33, 34] [] [] fun κ ξ hκ hξ => ?_
  try simp +decide only [go_sem, hb0, hb1, hcl, Int.reduceToNat, Nat.zero_add, Nat.mul_one, Int.toNat_natCast, c0]
  repeat with_reducible refine an_ ?_
  refine hκ _ _ ?_; clear hκ hξ ξ κ
  refine sq ?_
  refine cdt (by rfl) ?_
  refine sk ?_
  refine sq ?_
  refine bl ?_
  refine sr_ [0, 1, 6, 31, 32, 33] [] [] fun κ ξ hκ hξ => ?_
  try simp +decide only [go_sem, hb0, hb1, hcl, Int.reduceToNat, Nat.zero_add, Nat.mul_one, Int.toNat_natCast, c0]
  repeat with_reducible refine an_ ?_
  refine hκ _ _ ?_; clear hκ hξ ξ κ
  refine rr_ [0, 1, 31, 32, 33] [] [] fun κ ξ hκ hξ => ?_
  try simp +decide only [go_sem, hb0, hb1, hcl, Int.reduceToNat, Nat.zero_add, Nat.mul_one, Int.toNat_natCast, c0]
  repeat with_reducible refine an_ ?_
  refine hκ _ _ ?_; clear hκ hξ ξ κ
  refine rr_ [0, 1, 31, 32, 33] [] [] fun κ ξ hκ hξ => ?_
  try simp +decide only [go_sem, hb0, hb1, hcl, Int.reduceToNat, Nat.zero_add, Nat.mul_one, Int.toNat_natCast, c0]
  repeat with_reducible refine an_ ?_
  refine hκ _ _ ?_; clear hκ hξ ξ κ
  refine rnd ?_
  refine sr_ [0, 1, 31, 32, 33, 34] [] [] fun κ ξ hκ hξ => ?_
  try simp +decide only [go_sem, hb0, hb1, hcl, Int.reduceToNat, Nat.zero_add, Nat.mul_one, Int.toNat_natCast, c0]
  repeat with_reducible refine an_ ?_
  refine hκ _ _ ?_; clear hκ hξ ξ κ
  refine sq ?_
  refine cdt (by rfl) ?_
  refine sk ?_
  refine sq ?_
  refine bl ?_
  refine sr_ [0, 1, 6, 31, 32, 33] [] [] fun κ ξ hκ hξ => ?_
  try simp +decide only [go_sem, hb0, hb1, hcl, Int.reduceToNat, Nat.zero_add, Nat.mul_one, Int.toNat_natCast, c0]
  repeat with_reducible refine an_ ?_
  refine hκ _ _ ?_; clear hκ hξ ξ κ
  refine rr_ [0, 1, 31, 32, 33] [] [] fun κ ξ hκ hξ => ?_
  try simp +decide only [go_sem, hb0, hb1, hcl, Int.reduceToNat, Nat.zero_add, Nat.mul_one, Int.toNat_natCast, c0]
  repeat with_reducible refine an_ ?_
  refine hκ _ _ ?_; clear hκ hξ ξ κ
  refine rr_ [0, 1, 31, 32, 33] [] [] fun κ ξ hκ hξ => ?_
  try simp +decide only [go_sem, hb0, hb1, hcl, Int.reduceToNat, Nat.zero_add, Nat.mul_one, Int.toNat_natCast, c0]
  repeat with_reducible refine an_ ?_
  refine hκ _ _ ?_; clear hκ hξ ξ κ
  refine rnd ?_
  refine sr_ [0, 1, 31, 32, 33, 34] [] [] fun κ ξ hκ hξ => ?_
  try simp +decide only [go_sem, hb0, hb1, hcl, Int.reduceToNat, Nat.zero_add, Nat.mul_one, Int.toNat_natCast, c0]
  repeat with_reducible refine an_ ?_
  refine hκ _ _ ?_; clear hκ hξ ξ κ
  refine sq ?_
  refine cdt (by rfl) ?_
  refine sk ?_
  refine sq ?_
  refine bl ?_
  refine sr_ [0, 1, 6, 31, 32, 33] [] [] fun κ ξ hκ hξ => ?_
  try simp +decide only [go_sem, hb0, hb1, hcl, Int.reduceToNat, Nat.zero_add, Nat.mul_one, Int.toNat_natCast, c0]
  repeat with_reducible refine an_ ?_
  refine hκ _ _ ?_; clear hκ hξ ξ κ
  refine rr_ [0, 1, 31, 32, 33] [] [] fun κ ξ hκ hξ => ?_
  try simp +decide only [go_sem, hb0, hb1, hcl, Int.reduceToNat, Nat.zero_add, Nat.mul_one, Int.toNat_natCast, c0]
  repeat with_reducible refine an_ ?_
  refine hκ _ _ ?_; clear hκ hξ ξ κ
  refine rr_ [0, 1, 31, 32, 33] [] [] fun κ ξ hκ hξ => ?_
  try simp +decide only [go_sem, hb0, hb1, hcl, Int.reduceToNat, Nat.zero_add, Nat.mul_one, Int.toNat_natCast, c0]
  repeat with_reducible refine an_ ?_
  refine hκ _ _ ?_; clear hκ hξ ξ κ
  refine rnd ?_
  refine sr_ [0, 1, 31, 32, 33, 34] [] [] fun κ ξ hκ hξ => ?_
  try simp +decide only [go_sem, hb0, hb1, hcl, Int.reduceToNat, Nat.zero_add, Nat.mul_one, Int.toNat_natCast, c0]
  repeat with_reducible refine an_ ?_
  refine hκ _ _ ?_; clear hκ hξ ξ κ
  refine sq ?_
  refine cdf (by rfl) ?_
  refine ex ?_
  refine sr_ [0, 1] [] [] fun κ ξ hκ hξ => ?_
  try simp +decide only [go_sem, hb0, hb1, hcl, Int.reduceToNat, Nat.zero_add, Nat.mul_one, Int.toNat_natCast, c0]
  repeat with_reducible refine an_ ?_
  refine callF (clip_w _ _) ?_
  try simp +decide only [go_sem, hb0, hb1, hcl, Int.reduceToNat, Nat.zero_add, Nat.mul_one, Int.toNat_natCast, c0]
  repeat with_reducible refine an_ ?_
  refine callF (clip_w _ _) ?_
  try simp +decide only [go_sem, hb0, hb1, hcl, Int.reduceToNat, Nat.zero_add, Nat.mul_one, Int.toNat_natCast, c0]
  repeat with_reducible refine an_ ?_
  refine callF (clip_w _ _) ?_
  try simp +decide only [go_sem, hb0, hb1, hcl, Int.reduceToNat, Nat.zero_add, Nat.mul_one, Int.toNat_natCast, c0]
  repeat with_reducible refine an_ ?_
  refine hκ _ _ ?_; clear hκ hξ ξ κ
  refine sr_ [0, 1] [] [] fun κ ξ hκ hξ => ?_
  try simp +decide only [go_sem, hb0, hb1, hcl, Int.reduceToNat, Nat.zero_add, Nat.mul_one, Int.toNat_natCast, c0]
  repeat with_reducible refine an_ ?_
  refine callF (clip_w _ _) ?_
  try simp +decide only [go_sem, hb0, hb1, hcl, Int.reduceToNat, Nat.zero_add, Nat.mul_one, Int.toNat_natCast, c0]
  repeat with_reducible refine an_ ?_
  refine callF (clip_w _ _) ?_
  try simp +decide only [go_sem, hb0, hb1, hcl, Int.reduceToNat, Nat.zero_add, Nat.mul_one, Int.toNat_natCast, c0]
  repeat with_reducible refine an_ ?_
  refine hκ _ _ ?_; clear hκ hξ ξ κ
  refine sr_ [0] [] [] fun κ ξ hκ hξ => ?_
  try simp +decide only [go_sem, hb0, hb1, hcl, Int.reduceToNat, Nat.zero_add, Nat.mul_one, Int.toNat_natCast, c0]
  repeat with_reducible refine an_ ?_
  refine hκ _ _ ?_; clear hκ hξ ξ κ
  refine rt ?_
  refine retE ?_
  simp +decide only [go_sem, resD, resV, hb0, hb1, hcl, Int.reduceToNat, Nat.zero_add, Nat.mul_one, Int.toNat_natCast, c0]
  rfl
end Go.Proofs.YtinhjbnljbmbcaaGreat
/- References: small functions. Printed by a tool of our own. -/
namespace Go.Proofs.YtinhjbnljbmbcaaGreat
open Go Go.RowKit
set_option linter.unusedSimpArgs false
set_option linter.unusedVariables false
set_option maxHeartbeats 4000000
set_option maxRecDepth 100000
attribute [local go_sem] List.length_map rowAt_n nrow rowAt_t trow rowAt_i irow
attribute [local go_sem] rowAt_e rowAt_tm rowAt_dc rowAt_ru tmrow dcrow rurow
attribute [local go_sem] iD_all iD_len rw2_0 rw2_1 rw1_0 Int.toNat_one
end Go.Proofs.YtinhjbnljbmbcaaGreat
/- Reference 14: node. Printed by a tool of our own. -/
namespace Go.Proofs.YtinhjbnljbmbcaaGreat
open Go Go.RowKit
set_option linter.unusedSimpArgs false
set_option linter.unusedVariables false
set_option maxHeartbeats 4000000
set_option maxRecDepth 100000
attribute [local go_sem] List.length_map rowAt_n nrow rowAt_t trow rowAt_i irow
attribute [local go_sem] rowAt_e rowAt_tm rowAt_dc rowAt_ru tmrow dcrow rurow
attribute [local go_sem] iD_all iD_len rw2_0 rw2_1 rw1_0 Int.toNat_one
end Go.Proofs.YtinhjbnljbmbcaaGreat
/- Reference 14: size, Valid. Printed by a tool of our own. -/
namespace Go.Proofs.YtinhjbnljbmbcaaGreat
open Go Go.RowKit
set_option linter.unusedSimpArgs false
set_option linter.unusedVariables false
set_option maxHeartbeats 4000000
set_option maxRecDepth 100000
attribute [local go_sem] List.length_map rowAt_n nrow rowAt_t trow rowAt_i irow
attribute [local go_sem] rowAt_e rowAt_tm rowAt_dc rowAt_ru tmrow dcrow rurow
attribute [local go_sem] iD_all iD_len rw2_0 rw2_1 rw1_0 Int.toNat_one
end Go.Proofs.YtinhjbnljbmbcaaGreat
/- Reference 14: about. Printed by a tool of our own. -/
namespace Go.Proofs.YtinhjbnljbmbcaaGreat
open Go Go.RowKit
set_option linter.unusedSimpArgs false
set_option linter.unusedVariables false
set_option maxHeartbeats 4000000
set_option maxRecDepth 100000
attribute [local go_sem] List.length_map rowAt_n nrow rowAt_t trow rowAt_i irow
attribute [local go_sem] rowAt_e rowAt_tm rowAt_dc rowAt_ru tmrow dcrow rurow
attribute [local go_sem] iD_all iD_len rw2_0 rw2_1 rw1_0 Int.toNat_one
end Go.Proofs.YtinhjbnljbmbcaaGreat
/- Cascade, plain: what cuts a value, the values of a style one by one. -/
namespace Go.Proofs.YtinhjbnljbmbcaaGreat
open Go Go.RowKit
set_option linter.unusedSimpArgs false
set_option linter.unusedVariables false
set_option maxRecDepth 100000
/-- The limits of a property's values; none: 0 or 1. -/
def cutK : List (Option (Int × Int)) := [some (0, 0), some (-100000, 100000), some (-100000, 100000), some (0, 100000), some (0, 100000), some (0, 100000), some (0, 100000), some (0, 2), some (0, 7), some (0, 100000), some (0, 2), none, some (0, 100000), some (0, 100000), some (1, 64), some (1, 64), some (0, 100000), none,
  some (-100000, 100000), some (-100000, 100000), some (0, 100000), none, some (0, 100000), none, none] ++ List.replicate 8 (some (-1000000, 1000000))
def cutV (p : Nat) (n : Int) : Int := match cutK.getD p none with
 | some (a, b) => mnI (mxI n a) b
 | none => if n = 0 then 0 else 1
def cutO : Option (Int × Int) → D
 | some (a, b) => cpD a b
 | none => flD
theorem cutL_eq : cutL = cutK.map cutO := rfl
def cutD (p : Nat) : D := cutO (cutK.getD p none)
theorem cutL_len : cutL.length = 33 := by decide
theorem cutL_all : cutL.all D.isCell = true := rfl
theorem cutL_hd {p : Nat} (h : p < 33) : (cutL.drop p).headD .top = cutD p := by
 have hl : p < cutL.length := h
 rw [List.drop_eq_getElem_cons hl, List.headD_cons, cutD]
 have : cutK.getD p none = cutK[p]'(by simpa [cutL_eq] using hl) := by
  rw [List.getD_eq_getElem?_getD, List.getElem?_eq_getElem]; rfl
 rw [this]
 simp [cutL_eq]
theorem cutL_le {p : Nat} (h : p < 33) : 1 ≤ (cutL.drop p).length := by
 rw [List.length_drop, cutL_len]; omega
theorem cut_call {p : Nat} {n : Int} {σ : Store} {K X : D → Store → Prop} (hk : K (.int .i64 (cutV p n)) σ) : CallK Tryz.prog (cutD p) [.int .i64 n] K X σ := by
 unfold cutD cutV at *
 cases e : cutK.getD p none with
 | none =>
  rw [e] at hk
  exact callF (flag_w n) hk
 | some ab =>
  obtain ⟨a, b⟩ := ab
  rw [e] at hk
  exact callFc (clp_w n a b) hk
def parB (par : List Int) : Bool := (List.range 33).all fun j => decide (cutV j (iat par j) = iat par j)
theorem parB_no {par : List Int} {i : Nat} (h : i < 33) (hc : ¬ cutV i (iat par i) = iat par i) : parB par = false := by
 rw [← Bool.not_eq_true]
 intro hp
 rw [parB, List.all_eq_true] at hp
 have := hp i (List.mem_range.2 h)
 rw [decide_eq_true_eq] at this
 exact hc this
theorem parB_yes {par : List Int} (h : ∀ j, j < 33 → cutV j (iat par j) = iat par j) : parB par = true := by
 rw [parB, List.all_eq_true]
 intro j hj
 rw [decide_eq_true_eq]
 exact h j (List.mem_range.1 hj)
theorem clip_idem (n a b : Int) : mnI (mxI (mnI (mxI n a) b) a) b = mnI (mxI n a) b := by
 have key : ∀ m : Int, mnI (mxI m a) b = if b < a then b else if m < a then a else if b < m then b else m := fun m => by
  unfold mnI mxI
  repeat' split
  all_goals omega
 rw [key (mnI (mxI n a) b), key n]
 repeat' split
 all_goals omega
theorem cutV_idem (p : Nat) (n : Int) : cutV p (cutV p n) = cutV p n := by
 unfold cutV
 cases cutK.getD p none with
 | none =>
  show (if (if n = 0 then (0 : Int) else 1) = 0 then (0 : Int) else 1) = if n = 0 then 0 else 1
  by_cases h : n = 0 <;> simp [h]
 | some ab => exact clip_idem _ _ _
def zS : List Int := List.replicate 33 0
def clE (rs : List Ru) (c : Cl) : Ex := (dcat (ruat rs c.ru.toNat).decls c.k.toNat).val
/-- n properties, from p on. -/
def stF (rs : List Ru) (cs : List Cl) (w s : Int) (vs : List Int) : Nat → Nat → List Int → List Int × Int
 | 0, _, out => (out, 0)
 | n + 1, p, out => if (clat cs p).ok = true then (if (evV w s vs (clE rs (clat cs p))).2 = 0 then stF rs cs w s vs n (p + 1) (out.set p (cutV p (evV w s vs (clE rs (clat cs p))).1)) else (zS, (evV w s vs (clE rs (clat cs p))).2)) else stF rs cs w s vs n (p + 1) out
def st0 (par : List Int) : List Int := ((((firstS.set 8 (iat par 8)).set 9 (iat par 9)).set 10 (iat par 10)).set 11 (iat par 11)).take 25 ++ par.drop 25
def styI (rs : List Ru) (cs : List Cl) (w s : Int) (par : List Int) : List Int × Int :=
 if (stF rs cs w s (par.drop 25) 8 25 (st0 par)).2 = 0 then stF rs cs w s ((stF rs cs w s (par.drop 25) 8 25 (st0 par)).1.drop 25) 24 1 (stF rs cs w s (par.drop 25) 8 25 (st0 par)).1 else (zS, (stF rs cs w s (par.drop 25) 8 25 (st0 par)).2)
/-- The style of a node, or what is wrong. -/
def styR (l : List Nd) (rs : List Ru) (x w s lg : Int) (par : List Int) (wd bx : Int) : List Int × Int :=
 if parB par = true ∧ 0 ≤ wd ∧ wd ≤ 1000000 then (if ckE l rs x w s lg bx = 0 then styI rs (claimsR l rs x w s lg bx) wd s par else (zS, ckE l rs x w s lg bx)) else (zS, 1)
theorem iD_set (l : List Int) (k : Nat) (v : Int) : (l.map iD).set k (.int .i64 v) = (l.set k v).map iD := by
 rw [List.map_set]; rfl
theorem iD_put {l : List Int} {k : Nat} (h : k < l.length) (v : Int) : putCells (l.map iD) k [.int .i64 v] = (l.set k v).map iD := by
 rw [← iD_set]
 unfold putCells
 rw [List.set_eq_take_append_cons_drop, if_pos (by simpa using h)]
 simp
theorem iD_putU {l : List Int} {k j : Nat} (h : k < l.length) (hj : j = k + 1) (v : Int) : List.map iD (List.take k l) ++ [.int .i64 v] ++ List.map iD (List.drop j l) = (l.set k v).map iD := by
 subst hj
 have := iD_put h v
 unfold putCells at this
 simpa using this
theorem iD_putL {l m : List Int} {k : Nat} : putCells (l.map iD) k (m.map iD) = (l.take k ++ m ++ l.drop (k + m.length)).map iD := by
 unfold putCells
 simp
theorem st0_len {par : List Int} (h : par.length = 33) : (st0 par).length = 33 := by
 unfold st0 firstS
 simp [h]
theorem stF_len (rs : List Ru) (cs : List Cl) (w s : Int) (vs : List Int) : ∀ (n p : Nat) (out : List Int), out.length = 33 → (stF rs cs w s vs n p out).1.length = 33
 | 0, _, _, h => h
 | n + 1, p, out, h => by
  unfold stF
  split
  ·split
   ·exact stF_len rs cs w s vs n (p + 1) _ (by simpa using h)
   ·rfl
  ·exact stF_len rs cs w s vs n (p + 1) _ h
theorem styI_len {rs : List Ru} {cs : List Cl} {w s : Int} {par : List Int} (h : par.length = 33) : (styI rs cs w s par).1.length = 33 := by
 unfold styI
 split
 ·exact stF_len _ _ _ _ _ _ _ _ (stF_len _ _ _ _ _ _ _ _ (st0_len h))
 ·rfl
theorem styR_len {l : List Nd} {rs : List Ru} {x w s lg : Int} {par : List Int} {wd bx : Int} (h : par.length = 33) : (styR l rs x w s lg par wd bx).1.length = 33 := by
 unfold styR
 split
 ·split
  ·exact styI_len h
  ·rfl
 ·rfl
/-! ### The claims' rules and declarations are there -/
def clOK (rs : List Ru) (c : Cl) : Prop := c.ok = true → (0 ≤ c.ru ∧ c.ru < rs.length) ∧ 0 ≤ c.k ∧ c.k < (ruat rs c.ru.toNat).decls.length
theorem clat_set {o : List Cl} {p q : Nat} {c : Cl} : clat (o.set p c) q = if p = q ∧ q < o.length then c else clat o q := by
 unfold clat
 rw [List.getD_eq_getElem?_getD, List.getD_eq_getElem?_getD, List.getElem?_set]
 by_cases h : p = q
 ·subst h
  by_cases h2 : p < o.length
  ·simp [h2]
  ·simp [h2, List.getElem?_eq_none (Nat.le_of_not_lt h2)]
 ·simp [h]
theorem cl1_ok {rs : List Ru} {i : Nat} {o : List Cl} {k : Nat} (hi : i < rs.length) (hk : k < (ruat rs i).decls.length) (h : ∀ q, clOK rs (clat o q)) (q : Nat) : clOK rs (clat (cl1 rs i o k) q) := by
 unfold cl1
 split
 ·rw [clat_set]
  split
  ·intro _
   simp only [Int.toNat_natCast]
   omega
  ·exact h q
 ·exact h q
theorem clR_ok {rs : List Ru} {i : Nat} {o : List Cl} (hi : i < rs.length) (h : ∀ q, clOK rs (clat o q)) : ∀ n, n ≤ (ruat rs i).decls.length → ∀ q, clOK rs (clat (clR rs i o n) q)
 | 0, _ => h
 | n + 1, hn => by
  rw [clR_succ]
  exact cl1_ok hi hn (clR_ok hi h n (by omega))
theorem clF_ok {rs : List Ru} : ∀ (is : List Nat) (o : List Cl), (∀ i ∈ is, i < rs.length) → (∀ q, clOK rs (clat o q)) → ∀ q, clOK rs (clat (clF rs o is) q)
 | [], _, _, h => h
 | i :: is, o, hi, h => clF_ok is _ (fun j hj => hi j (List.mem_cons_of_mem _ hj)) (clR_ok (hi i (by simp)) h _ (Nat.le_refl _))
theorem claims_ok (l : List Nd) (rs : List Ru) (x w s lg bx : Int) (q : Nat) : clOK rs (clat (claimsR l rs x w s lg bx) q) := by
 refine clF_ok _ _ (fun i hi => ?_) (fun q => ?_) q
 ·have := (List.mem_filter.1 hi).1
  simpa using this
 ·intro h
  unfold clat at h
  rw [List.getD_eq_getElem?_getD, List.getElem?_replicate] at h
  split at h <;> simp [cl0] at h
theorem irow_cell (l : List Int) : (l.map irow).all (·.all D.isCell) = true := by
 rw [List.all_map]
 exact List.all_eq_true.2 fun _ _ => rfl
theorem firstS_len : firstS.length = 33 := by simp only [firstS, List.length_cons, List.length_nil]
theorem ncp {P : Program} {σ : Store} {ts : Array TypeId} {e : TypeId} {g : Bool} {sz sz1 b o n c : Nat} {x : D} {new : List (List D)} {cs cs' : List D} {K : D → Store → Prop} (hT : ts[0]?.bind (sle P) = some (e, g, sz)) (hr : rowsOf σ x = some (sz1, new)) (hg : σ.get b = some (.cells cs))
  (hs : (new = [] ∨ sz1 = sz) ∧ new.all (·.all D.isCell) = true ∧ new.length = n ∧ o + n * sz ≤ cs.length) (he : putCells cs o new.flatten = cs') (hk : K .top (σ.upd b (.cells cs'))) : ncopy P σ ts (.v (.slice (some ⟨b, o, none⟩) n c)) x K := by
 unfold ncopy
 simp only [hT, hr, hg]
 exact ⟨hs, he ▸ hk⟩
theorem st0_put {par : List Int} (h : par.length = 33) : putCells (((((firstS.set 8 (iat par 8)).set 9 (iat par 9)).set 10 (iat par 10)).set 11 (iat par 11)).map iD) 25 ((List.map irow (List.drop 25 par)).flatten) = (st0 par).map iD := by
 rw [flat_i, iD_putL]
 unfold st0
 have e : List.drop (25 + (List.drop 25 par).length) ((((firstS.set 8 (iat par 8)).set 9 (iat par 9)).set 10 (iat par 10)).set 11 (iat par 11)) = [] := List.drop_eq_nil_of_le (by simp only [List.length_set, firstS_len, List.length_drop, h]; decide)
 rw [e, List.append_nil]
theorem zS_end : zS.drop 33 = [] := rfl
theorem ckE_zero {l : List Nd} {rs : List Ru} {x w s lg bx : Int} (h : ckE l rs x w s lg bx = 0) : ckB l rs w s lg bx = true ∧ idB x = true ∧ 0 ≤ idx l x := by
 unfold ckE at h
 split at h
 ·split at h
  ·split at h
   ·exact ⟨by assumption, by assumption, by assumption⟩
   ·omega
  ·omega
 ·omega
theorem ckB_iff {l : List Nd} {rs : List Ru} {w s lg bx : Int} : ckB l rs w s lg bx = true ↔ ((treB l = true ∧ rulesB rs = true) ∧ rdB w s lg = true) ∧ isBx bx = true := by
 unfold ckB
 simp only [Bool.and_eq_true]
theorem mem_ruat {l : List Ru} {i : Nat} (h : i < l.length) : ruat l i ∈ l := by
 unfold ruat
 rw [List.getD_eq_getElem?_getD, List.getElem?_eq_getElem h]
 exact List.getElem_mem h
theorem mem_dcat {l : List Dc} {i : Nat} (h : i < l.length) : dcat l i ∈ l := by
 unfold dcat
 rw [List.getD_eq_getElem?_getD, List.getElem?_eq_getElem h]
 exact List.getElem_mem h
theorem rules_dc {rs : List Ru} (h : rulesB rs = true) : rs.length ≤ 200 ∧ ∀ i, i < rs.length → (ruat rs i).decls.length ≤ 40 ∧ ∀ k, k < (ruat rs i).decls.length → (1 ≤ (dcat (ruat rs i).decls k).prop ∧ (dcat (ruat rs i).decls k).prop ≤ 32) ∧ exB (dcat (ruat rs i).decls k).val = true := by
 unfold rulesB at h
 simp only [Bool.and_eq_true, decide_eq_true_eq, List.all_eq_true] at h
 refine ⟨h.1, fun i hi => ?_⟩
 have hr := h.2 _ (mem_ruat hi)
 unfold ruB at hr
 simp only [Bool.and_eq_true, decide_eq_true_eq, List.all_eq_true] at hr
 refine ⟨hr.1.1.2, fun k hk => ?_⟩
 have hd := hr.2 _ (mem_dcat hk)
 unfold dcB at hd
 simp only [Bool.and_eq_true, decide_eq_true_eq] at hd
 exact hd
end Go.Proofs.YtinhjbnljbmbcaaGreat
