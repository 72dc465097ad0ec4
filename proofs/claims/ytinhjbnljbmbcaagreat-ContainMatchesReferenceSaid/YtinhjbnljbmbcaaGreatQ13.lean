/- Joined. -/
import Derived.Test.YtinhjbnljbmbcaaGreatQ12
import Derived.Test.YtinhjbnljbmbcaaGreatQ09
import Derived.Test.YtinhjbnljbmbcaaGreatQ11
import Derived.Test.YtinhjbnljbmbcaaGreatQ10
namespace Go.Proofs.YtinhjbnljbmbcaaGreat
open Go Go.RowKit
set_option linter.unusedSimpArgs false
set_option linter.unusedVariables false
set_option maxHeartbeats 4000000
set_option maxRecDepth 100000
section
attribute [local go_sem] List.length_map rowAt_n nrow rowAt_t trow rowAt_i irow
attribute [local go_sem] rowAt_e rowAt_tm rowAt_dc rowAt_ru tmrow dcrow rurow
attribute [local go_sem] iD_all iD_len rw2_0 rw2_1 rw1_0 Int.toNat_one
theorem evl14_s (w s : Int) (vs : List Int) (hvs : vs.length = 8) (hw : 0 ≤ w ∧ w ≤ 1000000) (hs : 0 ≤ s ∧ s ≤ 1000000) (e : Ex) (hN : exN e = true) (ih : ∀ k : Ex, exS k < exS e → exN k = true → PCall Tryz.prog (.func 161) [.ag [.int .i64 k.op, .int .i64 k.num, .sl 3 (k.kids.map erow) .no], .int .i64 w, .int .i64 s, .ag (vs.map iD)] (.tup [.int .i64 ((evE w s vs k).getD 0), .bool (evE w s vs k).isSome])) : PCall Tryz.prog (.func 161) [.ag [.int .i64 e.op, .int .i64 e.num, .sl 3 (e.kids.map erow) .no], .int .i64 w, .int .i64 s, .ag (vs.map iD)] (.tup [.int .i64 ((evE w s vs e).getD 0), .bool (evE w s vs e).isSome]) := by
 refine PCall.ok fun hok => ?_
 simp only [okAll, D.ok, okRows, and_true, true_and, lim_eq, inR_i64', inR_i32', inR_u8', inR_u16', inR_u64'] at hok
 obtain ⟨⟨h1, h2, hl, hr⟩, _⟩ := hok; rw [List.length_map] at hl
 have ht8 : vs.take 8 = vs := List.take_of_length_le (by omega)
 have hNe := exN_eq e
 rw [hN] at hNe
 have hopB : opB e.op e.num e.kids.length = true := by cases h : opB e.op e.num e.kids.length <;> simp [h] at hNe ⊢
 have hk2 := op_len hopB
 refine PCall.le ?_
 refine fn_ Tryz.func161 (by rfl) (by rfl) (rs := [.tmp 8, .tmp 9]) (by rfl) (by simp [Tryz.f161]) ?_
 refine sr_ [1, 2, 4, 7] [4, 7] [] fun κ ξ hκ hξ => ?_
 simp +decide only [go_sem]
 refine hκ _ _ ?_
 refine sr_ [1, 2, 4, 7, 10] [] [] fun κ ξ hκ hξ => ?_
 simp +decide only [go_sem]
 refine hκ _ _ ?_
 refine sq ?_
 refine sr_ [1, 2, 4, 7, 10, 11] [] [] fun κ ξ hκ hξ => ?_
 simp +decide only [go_sem]
 refine hκ _ _ ?_
 refine bl ?_
 refine lp (α := Nat × List Int × Option (Nat × Nat)) (fun y => mk [(1, .int .i64 w), (2, .int .i64 s), (4, .el [.int .i64 e.op, .int .i64 e.num, .sl 3 (e.kids.map erow) .no]), (7, .el (vs.map iD)), (10, apD 1 (y.2.1.map irow) y.2.2), (11, .int .i64 y.1)]) (fun y => apS 1 y.2.1.length y.2.2) (fun y => y.1 ≤ e.kids.length ∧ evEs w s vs (e.kids.take y.1) = some y.2.1 ∧ apOK (y.2.1.map irow) y.2.2) (fun y => e.kids.length - y.1) (0, [], none) ⟨⟨by simp only; omega, by simp [evEs], fun _ => rfl⟩, EnvLe.of_eq rfl, .refl _⟩ ?_
 rintro ⟨i, a, o⟩ ⟨hi, ha, ho⟩
 simp only at hi ha ho
 have hal : a.length ≤ 2 := by have := evEs_len ha; rw [List.length_take] at this; omega
 refine sq ?_
 refine sr_ [1, 2, 4, 7, 10, 11, 20] [] [] fun κ ξ hκ hξ => ?_
 simp +decide only [go_sem]
 refine hκ _ _ ?_
 refine cd_ (fun c0 => ?_) (fun c0 => ?_)
 ·simp only [go_sem] at c0
  refine sk ?_
  refine sq ?_
  refine bl ?_
  refine srd_ [1, 2, 4, 7, 10, 11, 12, 13] [] [32] [] fun κ ξ hκ hξ => ?_
  simp +decide only [go_sem, ht8, hvs, c0]
  repeat with_reducible refine an_ ?_
  refine scallF (ih (eat e.kids i) (kid_lt (by omega)) (exN_kid_at hN (by omega))) ?_
  simp +decide only [go_sem]
  refine hκ _ _ ?_
  refine sq ?_
  refine sr_ [1, 2, 4, 7, 10, 11, 12, 36] [] [] fun κ ξ hκ hξ => ?_
  simp +decide only [go_sem]
  refine hκ _ _ ?_
  refine cd_ (fun c1 => ?_) (fun c1 => ?_)
  ·simp only [go_sem] at c1
   have hst : evE w s vs e = none := ev_stop (by omega) ha (by simpa using c1)
   refine sr_ [8, 9] [] [] fun κ ξ hκ hξ => ?_
   simp +decide only [go_sem, c1]
   refine hκ _ _ ?_
   refine rt ?_
   refine retE ?_
   simp +decide only [go_sem, resD, resV, ht8, hvs, List.append_nil, c0, c1]
   rw [hst]; rfl
  ·simp only [go_sem] at c1
   obtain ⟨v, hv⟩ := Option.isSome_iff_exists.1 c1
   refine sk ?_
   refine rr_ [1, 2, 4, 7, 10, 11] [] [] fun κ ξ hκ hξ => ?_
   simp +decide only [go_sem, List.append_nil, hv]
   refine napp_grow0 (by first | assumption | omega | (simp; done) | (simp; omega) | (intro hg; simp +decide only [go_sem, hg]; done) | (intro hg; simp +decide only [go_sem, hg]; omega)) (by first | (simp; done) | (simp [*]; done) | omega) rfl rfl (by simp +decide only [go_sem, Option.isSome_some]) tf220 tf221 tf36 (by refine ⟨⟨rfl, by decide, by decide⟩, by simp +decide only [go_sem], by simp, ?_⟩; simp [capB] <;> omega) ?_; intro b40 c40
   simp +decide only [go_sem]
   refine hκ _ _ ?_
   refine rr_ [1, 2, 4, 7, 10, 11] [] [] fun κ ξ hκ hξ => ?_
   simp +decide only [go_sem]
   refine hκ _ _ ?_
   refine ⟨(i + 1, a ++ [v], some (b40, c40)), ⟨⟨by simp only; omega, by simp only; rw [evEs_take (by omega), ha]; simp only [hv], (fun h => by cases h)⟩, by simp only; omega⟩, EnvLe.of_eq ?_, ?_⟩
   ·rw [w64 (n := (i : Int) + 1) (by omega), List.map_append]; rfl
   ·rw [List.length_append]; exact .refl _
 ·simp only [go_sem] at c0
  obtain rfl : i = e.kids.length := by omega
  rw [List.take_length] at ha
  refine weak (mk [(1, .int .i64 w), (2, .int .i64 s), (4, .el [.int .i64 e.op, .int .i64 e.num, .sl 3 (e.kids.map erow) .no]), (7, .el (vs.map iD)), (10, .sl 1 (a.map irow) .no), (11, .int .i64 e.kids.length)]) (EnvLe.cons (DLe.refl _) (EnvLe.cons (DLe.refl _) (EnvLe.cons (DLe.refl _) (EnvLe.cons (DLe.refl _) (EnvLe.cons (apD_le 1 ho) (EnvLe.of_l ⟨rfl, trivial⟩)))))) (σ' := []) (List.nil_sublist _) ?_
  refine ex ?_
  refine sr_ [14] [] [] fun κ ξ hκ hξ => ?_
  simp +decide only [go_sem, ht8, hvs]
  refine callF (cmp14_w e a .no w s vs hvs hw hs (by rw [evEs_len ha]; exact hopB) (evEs_ok ha)) ?_
  simp +decide only [go_sem]
  refine hκ _ _ ?_
  refine sr_ [14, 15] [] [] fun κ ξ hκ hξ => ?_
  simp +decide only [go_sem]
  refine callF (rco_w _) ?_
  simp +decide only [go_sem]
  refine hκ _ _ ?_
  refine sq ?_
  refine sr_ [14, 50] [] [] fun κ ξ hκ hξ => ?_
  simp +decide only [go_sem]
  refine hκ _ _ ?_
  refine cd_ (fun c2 => ?_) (fun c2 => ?_)
  ·simp only [go_sem] at c2
   have hst : evE w s vs e = none := by
    rw [evE_eq, ha]
    exact if_neg (by rw [c2]; simp)
   refine sr_ [8, 9] [] [] fun κ ξ hκ hξ => ?_
   simp +decide only [go_sem, c2]
   refine hκ _ _ ?_
   refine rt ?_
   refine retE ?_
   simp +decide only [go_sem, resD, resV, ht8, hvs, List.append_nil, c0, c2]
   rw [hst]; rfl
  ·simp only [go_sem] at c2
   have hst : evE w s vs e = some (opV w s vs e.op e.num a) := by
    rw [evE_eq, ha]
    exact if_pos c2
   refine sk ?_
   refine sr_ [8, 9] [] [] fun κ ξ hκ hξ => ?_
   simp +decide only [go_sem, c2]
   refine hκ _ _ ?_
   refine rt ?_
   refine retE ?_
   simp +decide only [go_sem, resD, resV, ht8, hvs, List.append_nil, c0, c2]
   rw [hst]; rfl
theorem evl14_w (w s : Int) (vs : List Int) (hvs : vs.length = 8) (hw : 0 ≤ w ∧ w ≤ 1000000) (hs : 0 ≤ s ∧ s ≤ 1000000) (e : Ex) (hN : exN e = true) : PCall Tryz.prog (.func 161) [.ag [.int .i64 e.op, .int .i64 e.num, .sl 3 (e.kids.map erow) .no], .int .i64 w, .int .i64 s, .ag (vs.map iD)] (.tup [.int .i64 ((evE w s vs e).getD 0), .bool (evE w s vs e).isSome]) := by
 suffices h : ∀ n (e : Ex), exS e ≤ n → exN e = true → PCall Tryz.prog (.func 161) [.ag [.int .i64 e.op, .int .i64 e.num, .sl 3 (e.kids.map erow) .no], .int .i64 w, .int .i64 s, .ag (vs.map iD)] (.tup [.int .i64 ((evE w s vs e).getD 0), .bool (evE w s vs e).isSome]) from h _ e (Nat.le_refl _) hN
 intro n
 induction n with
 | zero => intro e he; have := exS_pos e; omega
 | succ n ih => exact fun e he hN => evl14_s w s vs hvs hw hs e hN fun k hk hkN => ih k (by omega) hkN
theorem ev14_w (w s : Int) (vs : List Int) (hvs : vs.length = 8) (e : Ex) : PCall Tryz.prog (.func 102) [.ag [.int .i64 e.op, .int .i64 e.num, .sl 3 (e.kids.map erow) .no], .int .i64 w, .int .i64 s, .ag (vs.map iD)] (.tup [.int .i64 (evV w s vs e).1, .int .i64 (evV w s vs e).2]) := by
 have ht8 : vs.take 8 = vs := List.take_of_length_le (by omega)
 refine PCall.le ?_
 refine fn_ Tryz.func102 (by rfl) (by rfl) (rs := [.tmp 8, .tmp 9]) (by rfl) (by simp [Tryz.f102]) ?_
 refine sr_ [1, 2, 4, 7] [4, 7] [] fun κ ξ hκ hξ => ?_
 simp +decide only [go_sem]
 refine hκ _ _ ?_
 refine sr_ [1, 2, 4, 7, 10] [] [] fun κ ξ hκ hξ => ?_
 simp +decide only [go_sem]
 refine callF (va14_w _) ?_
 simp +decide only [go_sem]
 refine hκ _ _ ?_
 refine sr_ [1, 2, 4, 7, 10, 11] [] [] fun κ ξ hκ hξ => ?_
 simp +decide only [go_sem, ht8, hvs]
 refine callF (abt14_w _ _ (by assumption)) ?_
 simp +decide only [go_sem]
 refine hκ _ _ ?_
 refine sq ?_
 refine sr_ [1, 2, 4, 7, 32] [] [(2, 21), (6, 25), (10, 29)] fun κ ξ hκ hξ => ?_
 simp +decide only [go_sem]
 refine hκ _ _ ?_
 refine cd_ (fun c0 => ?_) (fun c0 => ?_)
 ·simp only [go_sem] at c0
  have hE : evV w s vs e = (0, 1) := by
   unfold evV
   refine if_neg fun h => ?_
   obtain ⟨⟨a, b, c⟩, d⟩ := h
   simp [a, b, c] at c0
   omega
  refine sr_ [8, 9] [] [] fun κ ξ hκ hξ => ?_
  simp +decide only [go_sem]
  refine hκ _ _ ?_
  refine rt ?_
  refine retE ?_
  simp +decide only [go_sem, resD, resV, ht8, hvs, List.append_nil, c0]
  rw [hE]
 ·simp only [go_sem] at c0
  have hE : evV w s vs e = ((evE w s vs e).getD 0, if (evE w s vs e).isSome = true then 0 else 3) := by
   unfold evV
   exact if_pos (by simpa [and_assoc] using c0)
  have hN : exN e = true := by
   have hx : exB e = true := by simp_all
   unfold exB at hx
   rw [Bool.and_eq_true] at hx
   exact hx.1
  have hw : 0 ≤ w ∧ w ≤ 1000000 := by simp_all
  have hs5 : 50 ≤ s ∧ s ≤ 300 := by simp_all
  refine sk ?_
  refine sr_ [12, 13] [] [] fun κ ξ hκ hξ => ?_
  simp +decide only [go_sem, ht8, hvs, c0]
  refine callF (evl14_w w s vs hvs hw (by omega) e hN) ?_
  simp +decide only [go_sem]
  refine hκ _ _ ?_
  refine sq ?_
  refine sr_ [12, 42] [] [] fun κ ξ hκ hξ => ?_
  simp +decide only [go_sem]
  refine hκ _ _ ?_
  refine cd_ (fun c1 => ?_) (fun c1 => ?_)
  ·try simp only [go_sem] at c1
   refine sr_ [8, 9] [] [] fun κ ξ hκ hξ => ?_
   simp +decide only [go_sem, c1]
   refine hκ _ _ ?_
   refine rt ?_
   refine retE ?_
   simp +decide only [go_sem, resD, resV, ht8, hvs, List.append_nil, c0, c1]
   have hn : evE w s vs e = none := by simpa using c1
   rw [hE, hn]; rfl
  ·try simp only [go_sem] at c1
   refine sk ?_
   refine sr_ [8, 9] [] [] fun κ ξ hκ hξ => ?_
   simp +decide only [go_sem, c1]
   refine hκ _ _ ?_
   refine rt ?_
   refine retE ?_
   simp +decide only [go_sem, resD, resV, ht8, hvs, List.append_nil, c0, c1]
   rw [hE, if_pos (by simpa using c1)]
end
section
theorem rmch2_w (l : List Nd) (ts : List Ts) (t u : Tok) (x : Int) : PCall Tryz.prog (.func 155) [.sl 5 (l.map nrow) t, .sl 4 (ts.map trow) u, .int .i64 x] (.tup [.bool (mchB l ts x), .int .i64 (mchE l ts x)]) := rmch_w l ts t u x
theorem rwt2_w (ts : List Ts) (u : Tok) : PCall Tryz.prog (.func 158) [.sl 4 (ts.map trow) u] (.tup [.int .i64 (wtB ts), .int .i64 (wtE ts)]) := rwt_w ts u
def lstN (l : List Dc) (p : Int) : Nat → Int
 | 0 => -1
 | n + 1 => if (dcat l n).prop = p then (n : Int) else lstN l p n
def lastI (l : List Dc) (p : Int) : Int := lstN l p l.length
theorem lstN_rng (l : List Dc) (p : Int) : ∀ n : Nat, -1 ≤ lstN l p n ∧ lstN l p n < n
 | 0 => by simp [lstN]
 | n + 1 => by
  have := lstN_rng l p n
  unfold lstN
  split <;> omega
def winN (l : List Nd) (rs : List Ru) (x p w s lg bx : Int) : Nat → Int
 | 0 => -1
 | n + 1 => if ruM l x w s lg bx (ruat rs n) = true ∧ 0 ≤ lastI (ruat rs n).decls p then
   (if winN l rs x p w s lg bx n < 0 then (n : Int) else if (ruat rs (winN l rs x p w s lg bx n).toNat).lay < (ruat rs n).lay ∨ (ruat rs n).lay = (ruat rs (winN l rs x p w s lg bx n).toNat).lay ∧ wtB (ruat rs (winN l rs x p w s lg bx n).toNat).tests ≤ wtB (ruat rs n).tests then (n : Int) else winN l rs x p w s lg bx n)
  else winN l rs x p w s lg bx n
theorem winN_rng (l : List Nd) (rs : List Ru) (x p w s lg bx : Int) : ∀ n : Nat, -1 ≤ winN l rs x p w s lg bx n ∧ winN l rs x p w s lg bx n < n
 | 0 => by simp [winN]
 | n + 1 => by
  have := winN_rng l rs x p w s lg bx n
  unfold winN
  split
  ·split
   ·omega
   ·split <;> omega
  ·omega
def winI (l : List Nd) (rs : List Ru) (x p w s lg bx : Int) : Int := winN l rs x p w s lg bx rs.length
def winK (l : List Nd) (rs : List Ru) (x p w s lg bx : Int) : Int := if winI l rs x p w s lg bx < 0 then -1 else lastI (ruat rs (winI l rs x p w s lg bx).toNat).decls p
attribute [local go_sem] List.length_map rowAt_n nrow rowAt_t trow rowAt_i irow
attribute [local go_sem] rowAt_e rowAt_tm rowAt_dc rowAt_ru tmrow dcrow rurow
attribute [local go_sem] iD_all iD_len rw2_0 rw2_1 rw1_0 Int.toNat_one
theorem rcon_w (l : List Tm) (t : Tok) : PCall Tryz.prog (.func 192) [.sl 2 (l.map tmrow) t] (.bool (conB l)) := by
 refine PCall.ok fun hok => ?_
 simp only [okAll, D.ok, okRows, and_true, true_and, lim_eq, inR_i64', inR_i32', inR_u8', inR_u16', inR_u64'] at hok
 have hl := hok.1; rw [List.length_map] at hl
 refine PCall.le ?_
 refine fn_ Tryz.func192 (by rfl) (by rfl) (rs := [.tmp 2]) (by rfl) (by simp [Tryz.f192]) ?_
 refine sr_ [0] [] [] fun κ ξ hκ hξ => ?_
 simp +decide only [go_sem]
 refine hκ _ _ ?_
 refine sq ?_
 refine sr_ [0, 3] [] [] fun κ ξ hκ hξ => ?_
 simp +decide only [go_sem]
 refine hκ _ _ ?_
 refine bl ?_
 refine lp (α := Nat) (fun i => mk [(0, .sl 2 (l.map tmrow) t), (3, .int .i64 i)]) (fun _ => []) (fun i => i ≤ l.length ∧ ∀ j, j < i → tmB (tmat l j) = true) (fun i => l.length - i) 0 ⟨⟨by omega, by intro j hj; omega⟩, EnvLe.of_eq rfl, .refl _⟩ ?_
 rintro i ⟨hi, hj⟩
 refine sq ?_
 refine sr_ [0, 3, 7] [] [] fun κ ξ hκ hξ => ?_
 simp +decide only [go_sem]
 refine hκ _ _ ?_
 refine cd_ (fun c0 => ?_) (fun c0 => ?_)
 ·try simp only [go_sem] at c0
  refine sk ?_
  refine sq ?_
  refine bl ?_
  refine sr_ [0, 3, 15] [] [] fun κ ξ hκ hξ => ?_
  simp +decide only [go_sem, c0]
  repeat with_reducible refine an_ ?_
  refine callF (rtm_w _) ?_
  simp +decide only [go_sem]
  refine hκ _ _ ?_
  refine cd_ (fun c1 => ?_) (fun c1 => ?_)
  ·try simp only [go_sem] at c1
   refine sr_ [2] [] [] fun κ ξ hκ hξ => ?_
   simp +decide only [go_sem, c1]
   refine hκ _ _ ?_
   refine rt ?_
   refine retE ?_
   simp +decide only [go_sem, resD, resV, c0, c1]
   congr 1
   unfold conB
   rw [all_no tm0 (p := tmB) (j := i) (by omega) (by simpa [tmat] using c1), Bool.and_false]
  ·try simp only [go_sem] at c1
   refine sk ?_
   refine rr_ [0, 3] [] [] fun κ ξ hκ hξ => ?_
   simp +decide only [go_sem, c1]
   refine hκ _ _ ?_
   refine ⟨i + 1, ⟨⟨by omega, ?_⟩, by omega⟩, EnvLe.of_eq (by rw [w64 (by omega)]; rfl), List.nil_sublist _⟩
   intro j h
   rcases Nat.lt_succ_iff_lt_or_eq.1 h with h | rfl
   ·exact hj j h
   ·first | assumption | simpa using c1
 ·try simp only [go_sem] at c0
  refine ex ?_
  refine sr_ [2] [] [] fun κ ξ hκ hξ => ?_
  simp +decide only [go_sem, c0]
  refine hκ _ _ ?_
  refine rt ?_
  refine retE ?_
  simp +decide only [go_sem, resD, resV, c0]
  congr 1
  unfold conB
  rw [(all_at tm0).2 fun j h => hj j (by omega), Bool.and_true, decide_eq_decide]
  omega
theorem rhl_w (t : Tm) (w s lg bx : Int) (ht : tmB t = true) : PCall Tryz.prog (.func 193) [.ag (tmrow t), .ag [.int .i64 w, .int .i64 s, .int .i64 lg], .int .i64 bx] (.bool (hdB t w s lg bx)) := by
 refine PCall.le ?_
 refine fn_ Tryz.func193 (by rfl) (by rfl) (rs := [.tmp 6]) (by rfl) (by simp [Tryz.f193]) ?_
 refine sr_ [2, 3, 4] [3, 4] [] fun κ ξ hκ hξ => ?_
 simp +decide only [go_sem]
 refine hκ _ _ ?_
 refine sq ?_
 refine sr_ [2, 3, 4, 8] [] [] fun κ ξ hκ hξ => ?_
 simp +decide only [go_sem]
 refine hκ _ _ ?_
 refine bl ?_
 refine sr_ [2, 3, 4, 8, 9] [] [] fun κ ξ hκ hξ => ?_
 simp +decide only [go_sem]
 refine hκ _ _ ?_
 refine cd_ (fun c0 => ?_) (fun c0 => ?_)
 ·try simp only [go_sem] at c0
  refine sr_ [6] [] [] fun κ ξ hκ hξ => ?_
  simp +decide only [go_sem, c0]
  refine hκ _ _ ?_
  refine rt ?_
  refine retE ?_
  simp +decide only [go_sem, resD, resV, c0]
  all_goals first | rfl | (congr 1; unfold hdB askB askV; simp [c0]; done) | (unfold hdB askB askV; simp [c0]; done)
 ·try simp only [go_sem] at c0
  refine sr_ [2, 3, 4, 8, 16] [] [] fun κ ξ hκ hξ => ?_
  simp +decide only [go_sem, c0]
  refine hκ _ _ ?_
  refine cd_ (fun c1 => ?_) (fun c1 => ?_)
  ·try simp only [go_sem] at c1
   refine sr_ [6] [] [] fun κ ξ hκ hξ => ?_
   simp +decide only [go_sem, c1]
   refine hκ _ _ ?_
   refine rt ?_
   refine retE ?_
   simp +decide only [go_sem, resD, resV, c0, c1]
   all_goals first | rfl | (congr 1; unfold hdB askB askV; simp [c1]; done) | (unfold hdB askB askV; simp [c1]; done)
  ·try simp only [go_sem] at c1
   refine sr_ [2, 3, 4, 8, 23] [] [] fun κ ξ hκ hξ => ?_
   simp +decide only [go_sem, c1]
   refine hκ _ _ ?_
   refine cd_ (fun c2 => ?_) (fun c2 => ?_)
   ·try simp only [go_sem] at c2
    refine sr_ [6] [] [] fun κ ξ hκ hξ => ?_
    simp +decide only [go_sem, c2]
    refine hκ _ _ ?_
    refine rt ?_
    refine retE ?_
    simp +decide only [go_sem, resD, resV, c0, c1, c2]
    all_goals first | rfl | (congr 1; unfold hdB askB askV; simp [c2]; done) | (unfold hdB askB askV; simp [c2]; done)
   ·try simp only [go_sem] at c2
    refine sr_ [2, 3, 4, 8, 30] [] [] fun κ ξ hκ hξ => ?_
    simp +decide only [go_sem, c2]
    refine hκ _ _ ?_
    refine cd_ (fun c3 => ?_) (fun c3 => ?_)
    ·try simp only [go_sem] at c3
     refine sr_ [6] [] [] fun κ ξ hκ hξ => ?_
     simp +decide only [go_sem, c3]
     refine hκ _ _ ?_
     refine rt ?_
     refine retE ?_
     simp +decide only [go_sem, resD, resV, c0, c1, c2, c3]
     all_goals first | rfl | (congr 1; unfold hdB askB askV; simp [c3]; done) | (unfold hdB askB askV; simp [c3]; done)
    ·try simp only [go_sem] at c3
     refine sr_ [2, 3, 4, 8, 37] [] [] fun κ ξ hκ hξ => ?_
     simp +decide only [go_sem, c3]
     refine hκ _ _ ?_
     refine cd_ (fun c4 => ?_) (fun c4 => ?_)
     ·try simp only [go_sem] at c4
      refine sr_ [6] [] [] fun κ ξ hκ hξ => ?_
      simp +decide only [go_sem, c4]
      refine hκ _ _ ?_
      refine rt ?_
      refine retE ?_
      simp +decide only [go_sem, resD, resV, c0, c1, c2, c3, c4]
      all_goals first | rfl | (congr 1; unfold hdB askB askV; simp [c4]; done) | (unfold hdB askB askV; simp [c4]; done)
     ·try simp only [go_sem] at c4
      refine sr_ [2, 3, 44] [] [] fun κ ξ hκ hξ => ?_
      simp +decide only [go_sem, c4]
      refine hκ _ _ ?_
      refine cd_ (fun c5 => ?_) (fun c5 => ?_)
      ·try simp only [go_sem] at c5
       refine sr_ [6] [] [(2, 48)] fun κ ξ hκ hξ => ?_
       simp +decide only [go_sem, c5]
       refine hκ _ _ ?_
       refine rt ?_
       refine retE ?_
       simp +decide only [go_sem, resD, resV, c0, c1, c2, c3, c4, c5]
       congr 1
       unfold hdB askB askV
       simp only [c5]
       by_cases hb : bx < 0
       ·simp [hb, show ¬ 0 ≤ bx by omega]
       ·simp [hb, show 0 ≤ bx by omega]
      ·try simp only [go_sem] at c5
       refine sk ?_
       refine sr_ [6] [] [(2, 56)] fun κ ξ hκ hξ => ?_
       simp +decide only [go_sem, c5]
       refine hκ _ _ ?_
       refine rt ?_
       refine retE ?_
       simp +decide only [go_sem, resD, resV, c0, c1, c2, c3, c4, c5]
       have h7 : t.what = 7 := by unfold tmB at ht; have := of_decide_eq_true ht; omega
       congr 1
       unfold hdB askB askV
       simp only [h7]
       by_cases hb : bx < 0
       ·simp [hb, show ¬ 0 ≤ bx by omega]
       ·simp [hb, show 0 ≤ bx by omega]
theorem rhol_w (l : List Tm) (t : Tok) (w s lg bx : Int) : PCall Tryz.prog (.func 156) [.sl 2 (l.map tmrow) t, .ag [.int .i64 w, .int .i64 s, .int .i64 lg], .int .i64 bx] (.tup [.bool (holB l w s lg bx), .int .i64 (holE l w s lg bx)]) := by
 refine PCall.ok fun hok => ?_
 simp only [okAll, D.ok, okRows, and_true, true_and, lim_eq, inR_i64', inR_i32', inR_u8', inR_u16', inR_u64'] at hok
 have hl := hok.1.1; rw [List.length_map] at hl
 refine PCall.le ?_
 refine fn_ Tryz.func156 (by rfl) (by rfl) (rs := [.tmp 6, .tmp 7]) (by rfl) (by simp [Tryz.f156]) ?_
 refine sr_ [0, 2, 4] [4] [] fun κ ξ hκ hξ => ?_
 simp +decide only [go_sem]
 refine hκ _ _ ?_
 refine sq ?_
 refine sr_ [0, 2, 4, 21] [] [(3, 12), (8, 17)] fun κ ξ hκ hξ => ?_
 simp +decide only [go_sem]
 refine callF (rcon_w _ _) ?_
 simp +decide only [go_sem]
 refine vo_gc ?_
 simp +decide only [go_sem]
 refine gcF (rrd_w _ _ _) ?_
 simp +decide only [go_sem]
 refine vo_gc ?_
 simp +decide only [go_sem]
 refine gcF (rbx_w _) ?_
 simp +decide only [go_sem]
 refine hκ _ _ ?_
 refine cd_ (fun c0 => ?_) (fun c0 => ?_)
 ·simp only [go_sem] at c0
  have hcf : (conB l && rdB w s lg && isBx bx) = false := by
   rcases c0 with (h | h) | h <;> simp [h]
  refine sr_ [6, 7] [] [] fun κ ξ hκ hξ => ?_
  simp +decide only [go_sem]
  refine hκ _ _ ?_
  refine rt ?_
  refine retE ?_
  simp +decide only [go_sem, resD, resV, c0]
  unfold holB holE
  rw [hcf]; rfl
 ·simp only [go_sem] at c0
  have hct : (conB l && rdB w s lg && isBx bx) = true := by simp [c0.1.1, c0.1.2, c0.2]
  have hcb := c0.1.1
  unfold conB at hcb
  rw [Bool.and_eq_true] at hcb
  refine sk ?_
  refine sq ?_
  refine sr_ [0, 2, 4, 8] [] [] fun κ ξ hκ hξ => ?_
  simp +decide only [go_sem, c0]
  refine hκ _ _ ?_
  refine bl ?_
  refine lp (α := Nat) (fun i => mk [(0, .sl 2 (l.map tmrow) t), (2, .int .i64 bx), (4, .el [.int .i64 w, .int .i64 s, .int .i64 lg]), (8, .int .i64 i)]) (fun _ => []) (fun i => i ≤ l.length ∧ ∀ j, j < i → hdB (tmat l j) w s lg bx = true) (fun i => l.length - i) 0 ⟨⟨by omega, by intro j hj; omega⟩, EnvLe.of_eq rfl, .refl _⟩ ?_
  rintro i ⟨hi, hj⟩
  refine sq ?_
  refine sr_ [0, 2, 4, 8, 25] [] [] fun κ ξ hκ hξ => ?_
  simp +decide only [go_sem]
  refine hκ _ _ ?_
  refine cd_ (fun c1 => ?_) (fun c1 => ?_)
  ·simp only [go_sem] at c1
   have htm : tmB (tmat l i) = true := (all_at tm0).1 hcb.2 i (by omega)
   refine sk ?_
   refine sq ?_
   refine bl ?_
   refine srd_ [0, 2, 4, 8, 35] [] [34] [] fun κ ξ hκ hξ => ?_
   simp +decide only [go_sem, c1]
   repeat with_reducible refine an_ ?_
   refine scallF (rhl_w _ _ _ _ _ (by assumption)) ?_
   simp +decide only [go_sem]
   refine hκ _ _ ?_
   refine cd_ (fun c2 => ?_) (fun c2 => ?_)
   ·try simp only [go_sem] at c2
    refine sr_ [6, 7] [] [] fun κ ξ hκ hξ => ?_
    simp +decide only [go_sem, c2]
    refine hκ _ _ ?_
    refine rt ?_
    refine retE ?_
    simp +decide only [go_sem, resD, resV, c0, c1, c2]
    unfold holB holE
    rw [hct, all_no tm0 (p := fun t => hdB t w s lg bx) (j := i) (by omega) (by simpa [tmat] using c2)]
    rfl
   ·try simp only [go_sem] at c2
    refine sk ?_
    refine rr_ [0, 2, 4, 8] [] [] fun κ ξ hκ hξ => ?_
    simp +decide only [go_sem, c2]
    refine hκ _ _ ?_
    refine ⟨i + 1, ⟨⟨by omega, ?_⟩, by omega⟩, EnvLe.of_eq (by rw [w64 (by omega)]; rfl), List.nil_sublist _⟩
    intro j h
    rcases Nat.lt_succ_iff_lt_or_eq.1 h with h | rfl
    ·exact hj j h
    ·first | assumption | simpa using c2
  ·simp only [go_sem] at c1
   refine ex ?_
   refine sr_ [6, 7] [] [] fun κ ξ hκ hξ => ?_
   simp +decide only [go_sem, c1]
   refine hκ _ _ ?_
   refine rt ?_
   refine retE ?_
   simp +decide only [go_sem, resD, resV, c0, c1]
   unfold holB holE
   rw [hct, (all_at (p := fun t => hdB t w s lg bx) tm0).2 fun j h => hj j (by omega)]
   rfl
theorem rlst_w (r : Ru) (p : Int) : PCall Tryz.prog (.func 157) [.ag (rurow r), .int .i64 p] (.int .i64 (lastI r.decls p)) := by
 refine PCall.ok fun hok => ?_
 simp only [okAll, D.ok, okRows, and_true, true_and, lim_eq, inR_i64', inR_i32', inR_u8', inR_u16', inR_u64'] at hok
 simp only [rurow, okAll, D.ok, okRows, and_true, true_and, lim_eq, inR_i64'] at hok
 obtain ⟨⟨_, _, _, hl, hr⟩, _⟩ := hok; rw [List.length_map] at hl
 have hw0 : IntKind.wrap .i64 ((r.decls.length : Int) - 1) = (r.decls.length : Int) - 1 := w64 (by omega)
 refine PCall.le ?_
 refine fn_ Tryz.func157 (by rfl) (by rfl) (rs := [.tmp 4]) (by rfl) (by simp [Tryz.f157]) ?_
 refine sr_ [1, 2] [2] [] fun κ ξ hκ hξ => ?_
 simp +decide only [go_sem]
 refine hκ _ _ ?_
 refine sq ?_
 refine sr_ [1, 2, 5] [] [] fun κ ξ hκ hξ => ?_
 simp +decide only [go_sem, hw0]
 refine hκ _ _ ?_
 refine bl ?_
 refine lp (α := Nat) (fun m => mk [(1, .int .i64 p), (2, .el (rurow r)), (5, .int .i64 ((m : Int) - 1))]) (fun _ => []) (fun m => m ≤ r.decls.length ∧ lastI r.decls p = lstN r.decls p m) (fun m => m) r.decls.length ⟨⟨Nat.le_refl _, rfl⟩, EnvLe.of_eq rfl, .refl _⟩ ?_
 rintro m ⟨hm, hlm⟩
 refine sq ?_
 refine sr_ [1, 2, 5, 11] [] [] fun κ ξ hκ hξ => ?_
 simp +decide only [go_sem]
 refine hκ _ _ ?_
 refine cd_ (fun c0 => ?_) (fun c0 => ?_)
 ·simp only [go_sem] at c0
  obtain ⟨k, hk⟩ : ∃ k : Nat, m = k + 1 := ⟨m - 1, by omega⟩
  have hk1 : (m : Int) - 1 = (k : Int) := by omega
  have hkl : (k : Int) < r.decls.length := by omega
  have hk0 : (0 : Int) ≤ (k : Int) := by omega
  refine sk ?_
  refine sq ?_
  refine bl ?_
  refine sr_ [1, 2, 5, 21] [] [] fun κ ξ hκ hξ => ?_
  simp +decide only [go_sem, hk1, hkl, hk0]
  refine hκ _ _ ?_
  refine cd_ (fun c1 => ?_) (fun c1 => ?_)
  ·try simp only [go_sem] at c1
   refine sr_ [4] [] [] fun κ ξ hκ hξ => ?_
   simp +decide only [go_sem, c1]
   refine hκ _ _ ?_
   refine rt ?_
   refine retE ?_
   simp +decide only [go_sem, resD, resV, hw0, c0, hk1, hkl, hk0, c1]
   congr 1
   rw [hlm, hk, lstN, if_pos c1]
  ·try simp only [go_sem] at c1
   refine sk ?_
   refine rr_ [1, 2, 5] [] [] fun κ ξ hκ hξ => ?_
   simp +decide only [go_sem, c1]
   refine hκ _ _ ?_
   refine ⟨k, ⟨⟨by omega, by rw [hlm, hk, lstN, if_neg c1]⟩, by omega⟩, EnvLe.of_eq (by rw [w64 (n := (k : Int) - 1) (by omega)]; rfl), .refl _⟩
 ·simp only [go_sem] at c0
  obtain rfl : m = 0 := by omega
  refine ex ?_
  refine sr_ [4] [] [] fun κ ξ hκ hξ => ?_
  simp +decide only [go_sem]
  refine hκ _ _ ?_
  refine rt ?_
  refine retE ?_
  simp +decide only [go_sem, resD, resV, hw0, c0]
  congr 1
  rw [hlm]; rfl
theorem rwin_w (l : List Nd) (rs : List Ru) (t u : Tok) (x p w s lg bx : Int) : PCall Tryz.prog (.func 100) [.sl 5 (l.map nrow) t, .sl 4 (rs.map rurow) u, .int .i64 x, .int .i64 p, .ag [.int .i64 w, .int .i64 s, .int .i64 lg], .int .i64 bx] (.tup [.int .i64 (winI l rs x p w s lg bx), .int .i64 (winK l rs x p w s lg bx)]) := by
 refine PCall.ok fun hok => ?_
 simp only [okAll, D.ok, okRows, and_true, true_and, lim_eq, inR_i64', inR_i32', inR_u8', inR_u16', inR_u64'] at hok
 have hl := hok.2.1.1; rw [List.length_map] at hl
 refine PCall.le ?_
 refine fn_ Tryz.func100 (by rfl) (by rfl) (rs := [.tmp 12, .tmp 13]) (by rfl) (by simp [Tryz.f100]) ?_
 refine sr_ [0, 1, 2, 3, 5, 10] [10] [] fun κ ξ hκ hξ => ?_
 simp +decide only [go_sem]
 refine hκ _ _ ?_
 refine sr_ [0, 1, 2, 3, 5, 10, 14] [] [] fun κ ξ hκ hξ => ?_
 simp +decide only [go_sem]
 refine hκ _ _ ?_
 refine sq ?_
 refine sr_ [0, 1, 2, 3, 5, 10, 14, 15] [] [] fun κ ξ hκ hξ => ?_
 simp +decide only [go_sem]
 refine hκ _ _ ?_
 refine bl ?_
 refine lp (α := Nat) (fun i => mk [(0, .sl 5 (l.map nrow) t), (1, .sl 4 (rs.map rurow) u), (2, .int .i64 x), (3, .int .i64 p), (5, .int .i64 bx), (10, .el [.int .i64 w, .int .i64 s, .int .i64 lg]), (14, .int .i64 (winN l rs x p w s lg bx i)), (15, .int .i64 i)]) (fun _ => []) (fun i => i ≤ rs.length) (fun i => rs.length - i) 0 ⟨by omega, EnvLe.of_eq rfl, .refl _⟩ ?_
 rintro i hi
 have hrg := winN_rng l rs x p w s lg bx i
 refine sq ?_
 refine sr_ [0, 1, 2, 3, 5, 10, 14, 15, 27] [] [] fun κ ξ hκ hξ => ?_
 simp +decide only [go_sem]
 refine hκ _ _ ?_
 refine cd_ (fun c0 => ?_) (fun c0 => ?_)
 ·try simp only [go_sem] at c0
  refine sk ?_
  refine sq ?_
  refine bl ?_
  refine sr_ [0, 1, 2, 3, 5, 10, 14, 15, 16] [] [] fun κ ξ hκ hξ => ?_
  simp +decide only [go_sem, c0]
  repeat with_reducible refine an_ ?_
  refine callF (rmch2_w _ _ _ _ _) ?_
  simp +decide only [go_sem]
  refine hκ _ _ ?_
  refine srd_ [0, 1, 2, 3, 5, 10, 14, 15, 16, 18] [] [49] [] fun κ ξ hκ hξ => ?_
  simp +decide only [go_sem, c0]
  repeat with_reducible refine an_ ?_
  refine scallF (rhol_w _ _ _ _ _ _) ?_
  simp +decide only [go_sem]
  refine hκ _ _ ?_
  refine sq ?_
  refine sr_ [0, 1, 2, 3, 5, 10, 14, 15, 66] [] [(2, 54), (6, 58)] fun κ ξ hκ hξ => ?_
  simp +decide only [go_sem, c0]
  repeat with_reducible refine an_ ?_
  refine vo_gc ?_
  simp +decide only [go_sem]
  refine gcF (rlst_w _ _) ?_
  simp +decide only [go_sem]
  refine hκ _ _ ?_
  refine cd_ (fun c1 => ?_) (fun c1 => ?_)
  ·simp only [go_sem] at c1
   refine ex ?_
   refine rr_ [0, 1, 2, 3, 5, 10, 14, 15] [] [] fun κ ξ hκ hξ => ?_
   simp +decide only [go_sem]
   refine hκ _ _ ?_
   have hn : (winN l rs x p w s lg bx (i + 1)) = (winN l rs x p w s lg bx i) := by
    rw [winN]
    rw [if_neg]
    rintro ⟨h1, h2⟩
    unfold ruM at h1
    rw [Bool.and_eq_true] at h1
    rcases c1 with (c | c) | c
    ·rw [h1.1] at c; cases c
    ·rw [h1.2] at c; cases c
    ·omega
   refine ⟨i + 1, ⟨by omega, by omega⟩, EnvLe.of_eq (by rw [hn, w64 (n := (i : Int) + 1) (by omega)]; rfl), .refl _⟩
  ·simp only [go_sem] at c1
   have hmt : ruM l x w s lg bx (ruat rs i) = true ∧ 0 ≤ lastI (ruat rs i).decls p := ⟨by unfold ruM; rw [c1.1.1, c1.1.2]; rfl, by omega⟩
   refine sk ?_
   refine sq ?_
   refine sr_ [0, 1, 2, 3, 5, 10, 14, 15, 68] [] [] fun κ ξ hκ hξ => ?_
   simp +decide only [go_sem, c1]
   refine hκ _ _ ?_
   refine cd_ (fun c2 => ?_) (fun c2 => ?_)
   ·simp only [go_sem] at c2
    refine sr_ [0, 1, 2, 3, 5, 10, 14, 15] [] [] fun κ ξ hκ hξ => ?_
    simp +decide only [go_sem, c2]
    refine hκ _ _ ?_
    refine ex ?_
    refine rr_ [0, 1, 2, 3, 5, 10, 14, 15] [] [] fun κ ξ hκ hξ => ?_
    simp +decide only [go_sem]
    refine hκ _ _ ?_
    have hn : (winN l rs x p w s lg bx (i + 1)) = (i : Int) := by
     rw [winN]
     rw [if_pos hmt, if_pos c2]
    refine ⟨i + 1, ⟨by omega, by omega⟩, EnvLe.of_eq (by rw [hn, w64 (n := (i : Int) + 1) (by omega)]; rfl), .refl _⟩
   ·simp only [go_sem] at c2
    obtain ⟨kb, hkb⟩ : ∃ kb : Nat, (winN l rs x p w s lg bx i) = (kb : Int) := ⟨((winN l rs x p w s lg bx i)).toNat, by omega⟩
    have hkl : (kb : Int) < rs.length := by omega
    have hk0 : (0 : Int) ≤ (kb : Int) := by omega
    refine sk ?_
    refine sr_ [0, 1, 2, 3, 5, 10, 14, 15, 20] [] [] fun κ ξ hκ hξ => ?_
    simp +decide only [go_sem, hkb, hkl, hk0]
    refine callF (rwt2_w _ _) ?_
    simp +decide only [go_sem]
    refine hκ _ _ ?_
    refine sr_ [0, 1, 2, 3, 5, 10, 14, 15, 20, 22] [] [] fun κ ξ hκ hξ => ?_
    simp +decide only [go_sem, c0]
    repeat with_reducible refine an_ ?_
    refine callF (rwt2_w _ _) ?_
    simp +decide only [go_sem]
    refine hκ _ _ ?_
    refine srd_ [0, 1, 2, 3, 5, 10, 14, 15, 116] [] [] [(11, 99), (23, 111)] fun κ ξ hκ hξ => ?_
    simp +decide only [go_sem, c0, hkl, hk0]
    repeat with_reducible refine an_ ?_
    refine hκ _ _ ?_
    refine cd_ (fun c3 => ?_) (fun c3 => ?_)
    ·try simp only [go_sem] at c3
     refine rr_ [0, 1, 2, 3, 5, 10, 14, 15] [] [] fun κ ξ hκ hξ => ?_
     simp +decide only [go_sem]
     refine hκ _ _ ?_
     refine rr_ [0, 1, 2, 3, 5, 10, 14, 15] [] [] fun κ ξ hκ hξ => ?_
     simp +decide only [go_sem]
     refine hκ _ _ ?_
     have hn : (winN l rs x p w s lg bx (i + 1)) = (i : Int) := by
      rw [winN]
      rw [if_pos hmt, if_neg c2, hkb, Int.toNat_natCast, if_pos c3]
     refine ⟨i + 1, ⟨by omega, by omega⟩, EnvLe.of_eq (by rw [hn, w64 (n := (i : Int) + 1) (by omega)]; rfl), .refl _⟩
    ·try simp only [go_sem] at c3
     refine sk ?_
     refine rr_ [0, 1, 2, 3, 5, 10, 14, 15] [] [] fun κ ξ hκ hξ => ?_
     simp +decide only [go_sem, c3]
     refine hκ _ _ ?_
     have hn : (winN l rs x p w s lg bx (i + 1)) = (kb : Int) := by
      rw [winN]
      rw [if_pos hmt, if_neg c2, hkb, Int.toNat_natCast, if_neg (by rintro (h | h) <;> omega)]
     refine ⟨i + 1, ⟨by omega, by omega⟩, EnvLe.of_eq (by rw [hn, w64 (n := (i : Int) + 1) (by omega)]; rfl), .refl _⟩
 ·try simp only [go_sem] at c0
  refine ex ?_
  refine sq ?_
  refine sr_ [1, 3, 14, 119] [] [] fun κ ξ hκ hξ => ?_
  simp +decide only [go_sem, c0]
  refine hκ _ _ ?_
  refine cd_ (fun c4 => ?_) (fun c4 => ?_)
  ·simp only [go_sem] at c4
   refine sr_ [12, 13] [] [] fun κ ξ hκ hξ => ?_
   simp +decide only [go_sem, c4]
   refine hκ _ _ ?_
   refine rt ?_
   refine retE ?_
   simp +decide only [go_sem, resD, resV, c0, c4]
   obtain rfl : i = rs.length := by omega
   unfold winK winI
   rw [if_pos c4, show (winN l rs x p w s lg bx rs.length) = -1 by omega]
  ·simp only [go_sem] at c4
   obtain rfl : i = rs.length := by omega
   obtain ⟨kb, hkb⟩ : ∃ kb : Nat, (winN l rs x p w s lg bx rs.length) = (kb : Int) := ⟨((winN l rs x p w s lg bx rs.length)).toNat, by omega⟩
   have hkl : (kb : Int) < rs.length := by omega
   have hk0 : (0 : Int) ≤ (kb : Int) := by omega
   refine sk ?_
   refine sr_ [12, 13] [] [] fun κ ξ hκ hξ => ?_
   simp +decide only [go_sem, hkb, hkl, hk0]
   refine callF (rlst_w _ _) ?_
   simp +decide only [go_sem]
   refine hκ _ _ ?_
   refine rt ?_
   refine retE ?_
   simp +decide only [go_sem, resD, resV, c0, c4, hkb, hkl, hk0]
   unfold winK winI
   rw [hkb, if_neg (by omega)]; rfl
end
section
def vL (st : List Int) (i : Nat) : List Int := (st.drop 25).take i ++ List.replicate (8 - i) 0
theorem vL_len {st : List Int} (h : st.length = 33) {i : Nat} (hi : i ≤ 8) : (vL st i).length = 8 := by
 unfold vL
 rw [List.length_append, List.length_take, List.length_drop, List.length_replicate]; omega
theorem vL_succ {st : List Int} (h : st.length = 33) {i : Nat} (hi : i < 8) : (vL st i).set i (iat st (25 + i)) = vL st (i + 1) := by
 unfold vL
 have hl : ((st.drop 25).take i).length = i := by rw [List.length_take, List.length_drop]; omega
 have e : (st.drop 25)[i]? = some (iat st (25 + i)) := by
  rw [List.getElem?_drop, iat, List.getD_eq_getElem?_getD, List.getElem?_eq_getElem (by omega)]; rfl
 rw [List.take_add_one, e, show 8 - i = (8 - (i + 1)) + 1 by omega, List.replicate_succ, List.set_append_right _ _ (by omega), hl, Nat.sub_self]
 simp
theorem vL_all {st : List Int} (h : st.length = 33) : vL st 8 = st.drop 25 := by
 unfold vL
 rw [List.take_of_length_le (by rw [List.length_drop]; omega)]
 simp
theorem clip_sw {n a b : Int} (h : a ≤ b) : mxI a (mnI b n) = mnI (mxI n a) b := by
 unfold mnI mxI
 repeat' split
 all_goals omega
def inhB (p : Int) : Bool := decide (p = 8 ∨ p = 9 ∨ p = 10 ∨ p = 11 ∨ 25 ≤ p)
theorem cut_fl {p : Nat} {n : Int} (h : cutK.getD p none = none) : cutV p n = if n = 0 then 0 else 1 := by
 unfold cutV
 rw [h]
attribute [local go_sem] List.length_map rowAt_n nrow rowAt_t trow rowAt_i irow
attribute [local go_sem] rowAt_e rowAt_tm rowAt_dc rowAt_ru tmrow dcrow rurow
attribute [local go_sem] rowAt_br rowAt_s rowAt_fo rowAt_ve rowAt_g rowAt_k grow krow srow brrow forow dorow verow
attribute [local go_sem] iD_all iD_len rw2_0 rw2_1 rw1_0 Int.toNat_one
attribute [local go_sem] iD_putU List.length_set Int.reduceToNat List.append_nil
theorem rvar_w (st : List Int) (hst : st.length = 33) : PCall Tryz.prog (.func 101) [.ag (st.map iD)] (.ag ((st.drop 25).map iD)) := by
 refine PCall.le ?_
 refine fn_ Tryz.func101 (by rfl) (by rfl) (rs := [.cell 2 102]) (by rfl) (by simp [Tryz.f101]) ?_
 refine sr_ [1, 2] [1] [] fun κ ξ hκ hξ => ?_
 simp +decide only [go_sem]
 intro b2 hb2
 refine hκ _ _ ?_
 refine sr_ [1, 2, 3] [] [] fun κ ξ hκ hξ => ?_
 simp +decide only [go_sem, hb2]
 intro b3 hb3
 refine hκ _ _ ?_
 refine weak _ (EnvLe.refl _) (σ' := [(b3, .cells ((vL st 0).map iD)), (b2, .cells ((vL st 0).map iD))]) (.refl _) ?_
 refine sq ?_
 refine sr_ [1, 2, 3, 4] [] [] fun κ ξ hκ hξ => ?_
 simp +decide only [go_sem, hb2, hb3]
 refine hκ _ _ ?_
 refine bl ?_
 refine lp (α := Nat) (fun i => mk [(1, .el (st.map iD)), (2, .ptr b2 0), (3, .ptr b3 0), (4, .int .i64 i)]) (fun i => [(b3, .cells ((vL st i).map iD)), (b2, .cells ((vL st 0).map iD))]) (fun i => i ≤ 8) (fun i => 8 - i) 0 ⟨by omega, EnvLe.of_eq rfl, .refl _⟩ ?_
 rintro i hi
 have hvl := vL_len hst hi
 have hv0 := vL_len hst (Nat.zero_le 8)
 refine sq ?_
 refine sr_ [1, 2, 3, 4, 6] [] [] fun κ ξ hκ hξ => ?_
 simp +decide only [go_sem, hb2, hb3]
 refine hκ _ _ ?_
 refine cd_ (fun c0 => ?_) (fun c0 => ?_)
 ·simp only [go_sem] at c0
  have hwi : IntKind.wrap .i64 (25 + (i : Int)) = ((25 + i : Nat) : Int) := by rw [w64 (by omega)]; omega
  have hk1 : ((25 + i : Nat) : Int) < 33 := by omega
  have hk0 : (0 : Int) ≤ ((25 + i : Nat) : Int) := by omega
  have hi8 : i < 8 := by omega
  have hhd := hd_i (l := st) (k := 25 + i) (by omega)
  have hzz : 1 ≤ (List.drop (25 + i) st).length := by rw [List.length_drop]; omega
  refine sk ?_
  refine sq ?_
  refine bl ?_
  refine rr_ [1, 2, 3, 4] [] [] fun κ ξ hκ hξ => ?_
  simp +decide only [go_sem, hb2, hb3, hvl, c0, hwi, hk0, hi8, hhd, hzz, Int.toNat_natCast, Nat.mul_one, Nat.zero_add]
  repeat with_reducible refine an_ ?_
  refine hκ _ _ ?_
  refine rr_ [1, 2, 3, 4] [] [] fun κ ξ hκ hξ => ?_
  simp +decide only [go_sem, hb2, hb3]
  refine hκ _ _ ?_
  refine ⟨i + 1, ⟨by omega, by omega⟩, EnvLe.of_eq (by rw [w64 (n := (i : Int) + 1) (by omega)]; rfl), ?_⟩
  rw [← vL_succ hst (by omega)]
  exact .refl _
 ·simp only [go_sem] at c0
  obtain rfl : i = 8 := by omega
  have hva := vL_all hst
  have h8 : (List.drop 25 st).length = 8 := by rw [List.length_drop]; omega
  have h8t : List.take 8 (List.drop 25 st) = List.drop 25 st := List.take_of_length_le (by omega)
  have h80 : List.drop 8 (vL st 0) = [] := List.drop_eq_nil_of_le (by omega)
  refine ex ?_
  refine sr_ [2] [] [] fun κ ξ hκ hξ => ?_
  simp +decide only [go_sem, hb2, hb3, hv0, hva, h8, h8t, h80, Nat.zero_add]
  refine hκ _ _ ?_
  refine rt ?_
  refine retE ?_
  simp +decide only [go_sem, resD, resV, hb2, hb3, hvl, hv0, c0, hva, h8, h8t, h80, Nat.zero_add]
  all_goals first | rfl | (simp [*]; done)
theorem rcut_w (p : Nat) (n : Int) (hp : 1 ≤ p ∧ p ≤ 32) : PCall Tryz.prog (.func 103) [.int .i64 p, .int .i64 n] (.int .i64 (cutV p n)) := by
 refine PCall.le ?_
 refine fn_ Tryz.func103 (by rfl) (by rfl) (rs := [.tmp 4]) (by rfl) (by simp [Tryz.f103]) ?_
 refine sr_ [0, 1] [] [] fun κ ξ hκ hξ => ?_
 simp +decide only [go_sem]
 refine hκ _ _ ?_
 refine sq ?_
 refine sr_ [0, 1, 5] [] [] fun κ ξ hκ hξ => ?_
 simp +decide only [go_sem]
 refine hκ _ _ ?_
 refine bl ?_
 refine sq ?_
 refine sr_ [0, 1, 5, 6] [] [] fun κ ξ hκ hξ => ?_
 simp +decide only [go_sem]
 refine hκ _ _ ?_
 refine cd_ (fun c0 => ?_) (fun c0 => ?_)
 ·have k0 := c0
  try simp only [go_sem] at c0
  refine sk ?_
  refine cdt (by first | rfl | exact congrArg D.bool k0) ?_
  refine sr_ [4] [] [] fun κ ξ hκ hξ => ?_
  simp +decide only [go_sem, c0]
  refine hκ _ _ ?_
  refine rt ?_
  refine retE ?_
  simp +decide only [go_sem, resD, resV, c0]
  congr 1
  have hq : p = 1 ∨ p = 2 ∨ p = 3 ∨ p = 4 ∨ p = 5 ∨ p = 6 ∨ p = 7 ∨ p = 8 ∨ p = 9 ∨ p = 10 ∨ p = 11 ∨ p = 12 ∨ p = 13 ∨ p = 14 ∨ p = 15 ∨ p = 16 ∨ p = 17 ∨ p = 18 ∨ p = 19 ∨ p = 20 ∨ p = 21 ∨ p = 22 ∨ p = 23 ∨ p = 24 ∨ p = 25 ∨ p = 26 ∨ p = 27 ∨ p = 28 ∨ p = 29 ∨ p = 30 ∨ p = 31 ∨ p = 32 := by omega
  rcases hq with rfl | rfl | rfl | rfl | rfl | rfl | rfl | rfl | rfl | rfl | rfl | rfl | rfl | rfl | rfl | rfl | rfl | rfl | rfl | rfl | rfl | rfl | rfl | rfl | rfl | rfl | rfl | rfl | rfl | rfl | rfl | rfl <;> first | (exfalso; omega) | rfl | (refine clip_sw ?_; omega) | (show _ = if n = 0 then (0 : Int) else 1; split <;> omega)
 ·have k0 := c0
  try simp only [go_sem] at c0
  refine sr_ [0, 1, 5, 6] [] [] fun κ ξ hκ hξ => ?_
  simp +decide only [go_sem, c0]
  refine hκ _ _ ?_
  refine cd_ (fun c1 => ?_) (fun c1 => ?_)
  ·have k1 := c1
   try simp only [go_sem] at c1
   refine sk ?_
   refine cdt (by first | rfl | exact congrArg D.bool k1) ?_
   refine sr_ [4] [] [] fun κ ξ hκ hξ => ?_
   simp +decide only [go_sem, c1]
   refine hκ _ _ ?_
   refine rt ?_
   refine retE ?_
   simp +decide only [go_sem, resD, resV, c0, c1]
   congr 1
   have hq : p = 1 ∨ p = 2 ∨ p = 3 ∨ p = 4 ∨ p = 5 ∨ p = 6 ∨ p = 7 ∨ p = 8 ∨ p = 9 ∨ p = 10 ∨ p = 11 ∨ p = 12 ∨ p = 13 ∨ p = 14 ∨ p = 15 ∨ p = 16 ∨ p = 17 ∨ p = 18 ∨ p = 19 ∨ p = 20 ∨ p = 21 ∨ p = 22 ∨ p = 23 ∨ p = 24 ∨ p = 25 ∨ p = 26 ∨ p = 27 ∨ p = 28 ∨ p = 29 ∨ p = 30 ∨ p = 31 ∨ p = 32 := by omega
   rcases hq with rfl | rfl | rfl | rfl | rfl | rfl | rfl | rfl | rfl | rfl | rfl | rfl | rfl | rfl | rfl | rfl | rfl | rfl | rfl | rfl | rfl | rfl | rfl | rfl | rfl | rfl | rfl | rfl | rfl | rfl | rfl | rfl <;> first | (exfalso; omega) | rfl | (refine clip_sw ?_; omega) | (show _ = if n = 0 then (0 : Int) else 1; split <;> omega)
  ·have k1 := c1
   try simp only [go_sem] at c1
   refine sr_ [0, 1, 5, 6] [] [] fun κ ξ hκ hξ => ?_
   simp +decide only [go_sem, c1]
   refine hκ _ _ ?_
   refine cd_ (fun c2 => ?_) (fun c2 => ?_)
   ·have k2 := c2
    try simp only [go_sem] at c2
    refine sk ?_
    refine cdt (by first | rfl | exact congrArg D.bool k2) ?_
    refine sr_ [4] [] [] fun κ ξ hκ hξ => ?_
    simp +decide only [go_sem, c2]
    refine hκ _ _ ?_
    refine rt ?_
    refine retE ?_
    simp +decide only [go_sem, resD, resV, c0, c1, c2]
    congr 1
    have hq : p = 1 ∨ p = 2 ∨ p = 3 ∨ p = 4 ∨ p = 5 ∨ p = 6 ∨ p = 7 ∨ p = 8 ∨ p = 9 ∨ p = 10 ∨ p = 11 ∨ p = 12 ∨ p = 13 ∨ p = 14 ∨ p = 15 ∨ p = 16 ∨ p = 17 ∨ p = 18 ∨ p = 19 ∨ p = 20 ∨ p = 21 ∨ p = 22 ∨ p = 23 ∨ p = 24 ∨ p = 25 ∨ p = 26 ∨ p = 27 ∨ p = 28 ∨ p = 29 ∨ p = 30 ∨ p = 31 ∨ p = 32 := by omega
    rcases hq with rfl | rfl | rfl | rfl | rfl | rfl | rfl | rfl | rfl | rfl | rfl | rfl | rfl | rfl | rfl | rfl | rfl | rfl | rfl | rfl | rfl | rfl | rfl | rfl | rfl | rfl | rfl | rfl | rfl | rfl | rfl | rfl <;> first | (exfalso; omega) | rfl | (refine clip_sw ?_; omega) | (show _ = if n = 0 then (0 : Int) else 1; split <;> omega)
   ·have k2 := c2
    try simp only [go_sem] at c2
    refine rr_ [0, 1, 5, 6] [] [] fun κ ξ hκ hξ => ?_
    simp +decide only [go_sem, c2]
    refine hκ _ _ ?_
    refine cd_ (fun c3 => ?_) (fun c3 => ?_)
    ·have k3 := c3
     try simp only [go_sem] at c3
     refine sr_ [4] [] [] fun κ ξ hκ hξ => ?_
     simp +decide only [go_sem, c3]
     refine hκ _ _ ?_
     refine rt ?_
     refine retE ?_
     simp +decide only [go_sem, resD, resV, c0, c1, c2, c3]
     congr 1
     have hq : p = 1 ∨ p = 2 ∨ p = 3 ∨ p = 4 ∨ p = 5 ∨ p = 6 ∨ p = 7 ∨ p = 8 ∨ p = 9 ∨ p = 10 ∨ p = 11 ∨ p = 12 ∨ p = 13 ∨ p = 14 ∨ p = 15 ∨ p = 16 ∨ p = 17 ∨ p = 18 ∨ p = 19 ∨ p = 20 ∨ p = 21 ∨ p = 22 ∨ p = 23 ∨ p = 24 ∨ p = 25 ∨ p = 26 ∨ p = 27 ∨ p = 28 ∨ p = 29 ∨ p = 30 ∨ p = 31 ∨ p = 32 := by omega
     rcases hq with rfl | rfl | rfl | rfl | rfl | rfl | rfl | rfl | rfl | rfl | rfl | rfl | rfl | rfl | rfl | rfl | rfl | rfl | rfl | rfl | rfl | rfl | rfl | rfl | rfl | rfl | rfl | rfl | rfl | rfl | rfl | rfl <;> first | (exfalso; omega) | rfl | (refine clip_sw ?_; omega) | (show _ = if n = 0 then (0 : Int) else 1; split <;> omega)
    ·have k3 := c3
     try simp only [go_sem] at c3
     refine sq ?_
     refine sr_ [0, 1, 5, 14] [] [] fun κ ξ hκ hξ => ?_
     simp +decide only [go_sem, c3]
     refine hκ _ _ ?_
     refine cd_ (fun c4 => ?_) (fun c4 => ?_)
     ·have k4 := c4
      try simp only [go_sem] at c4
      refine sk ?_
      refine cdt (by first | rfl | exact congrArg D.bool k4) ?_
      refine sr_ [4] [] [] fun κ ξ hκ hξ => ?_
      simp +decide only [go_sem, c4]
      refine hκ _ _ ?_
      refine rt ?_
      refine retE ?_
      simp +decide only [go_sem, resD, resV, c0, c1, c2, c3, c4]
      congr 1
      have hq : p = 1 ∨ p = 2 ∨ p = 3 ∨ p = 4 ∨ p = 5 ∨ p = 6 ∨ p = 7 ∨ p = 8 ∨ p = 9 ∨ p = 10 ∨ p = 11 ∨ p = 12 ∨ p = 13 ∨ p = 14 ∨ p = 15 ∨ p = 16 ∨ p = 17 ∨ p = 18 ∨ p = 19 ∨ p = 20 ∨ p = 21 ∨ p = 22 ∨ p = 23 ∨ p = 24 ∨ p = 25 ∨ p = 26 ∨ p = 27 ∨ p = 28 ∨ p = 29 ∨ p = 30 ∨ p = 31 ∨ p = 32 := by omega
      rcases hq with rfl | rfl | rfl | rfl | rfl | rfl | rfl | rfl | rfl | rfl | rfl | rfl | rfl | rfl | rfl | rfl | rfl | rfl | rfl | rfl | rfl | rfl | rfl | rfl | rfl | rfl | rfl | rfl | rfl | rfl | rfl | rfl <;> first | (exfalso; omega) | rfl | (refine clip_sw ?_; omega) | (show _ = if n = 0 then (0 : Int) else 1; split <;> omega)
     ·have k4 := c4
      try simp only [go_sem] at c4
      refine rr_ [0, 1, 5, 14] [] [] fun κ ξ hκ hξ => ?_
      simp +decide only [go_sem, c4]
      refine hκ _ _ ?_
      refine cd_ (fun c5 => ?_) (fun c5 => ?_)
      ·have k5 := c5
       try simp only [go_sem] at c5
       refine sr_ [4] [] [] fun κ ξ hκ hξ => ?_
       simp +decide only [go_sem, c5]
       refine hκ _ _ ?_
       refine rt ?_
       refine retE ?_
       simp +decide only [go_sem, resD, resV, c0, c1, c2, c3, c4, c5]
       congr 1
       have hq : p = 1 ∨ p = 2 ∨ p = 3 ∨ p = 4 ∨ p = 5 ∨ p = 6 ∨ p = 7 ∨ p = 8 ∨ p = 9 ∨ p = 10 ∨ p = 11 ∨ p = 12 ∨ p = 13 ∨ p = 14 ∨ p = 15 ∨ p = 16 ∨ p = 17 ∨ p = 18 ∨ p = 19 ∨ p = 20 ∨ p = 21 ∨ p = 22 ∨ p = 23 ∨ p = 24 ∨ p = 25 ∨ p = 26 ∨ p = 27 ∨ p = 28 ∨ p = 29 ∨ p = 30 ∨ p = 31 ∨ p = 32 := by omega
       rcases hq with rfl | rfl | rfl | rfl | rfl | rfl | rfl | rfl | rfl | rfl | rfl | rfl | rfl | rfl | rfl | rfl | rfl | rfl | rfl | rfl | rfl | rfl | rfl | rfl | rfl | rfl | rfl | rfl | rfl | rfl | rfl | rfl <;> first | (exfalso; omega) | rfl | (refine clip_sw ?_; omega) | (show _ = if n = 0 then (0 : Int) else 1; split <;> omega)
      ·have k5 := c5
       try simp only [go_sem] at c5
       refine sr_ [0, 1, 5, 20] [] [] fun κ ξ hκ hξ => ?_
       simp +decide only [go_sem, c5]
       refine hκ _ _ ?_
       refine cd_ (fun c6 => ?_) (fun c6 => ?_)
       ·have k6 := c6
        try simp only [go_sem] at c6
        refine sr_ [4] [] [] fun κ ξ hκ hξ => ?_
        simp +decide only [go_sem, c6]
        refine hκ _ _ ?_
        refine rt ?_
        refine retE ?_
        simp +decide only [go_sem, resD, resV, c0, c1, c2, c3, c4, c5, c6]
        congr 1
        have hq : p = 1 ∨ p = 2 ∨ p = 3 ∨ p = 4 ∨ p = 5 ∨ p = 6 ∨ p = 7 ∨ p = 8 ∨ p = 9 ∨ p = 10 ∨ p = 11 ∨ p = 12 ∨ p = 13 ∨ p = 14 ∨ p = 15 ∨ p = 16 ∨ p = 17 ∨ p = 18 ∨ p = 19 ∨ p = 20 ∨ p = 21 ∨ p = 22 ∨ p = 23 ∨ p = 24 ∨ p = 25 ∨ p = 26 ∨ p = 27 ∨ p = 28 ∨ p = 29 ∨ p = 30 ∨ p = 31 ∨ p = 32 := by omega
        rcases hq with rfl | rfl | rfl | rfl | rfl | rfl | rfl | rfl | rfl | rfl | rfl | rfl | rfl | rfl | rfl | rfl | rfl | rfl | rfl | rfl | rfl | rfl | rfl | rfl | rfl | rfl | rfl | rfl | rfl | rfl | rfl | rfl <;> first | (exfalso; omega) | rfl | (refine clip_sw ?_; omega) | (show _ = if n = 0 then (0 : Int) else 1; split <;> omega)
       ·have k6 := c6
        try simp only [go_sem] at c6
        refine sq ?_
        refine sr_ [0, 1, 5, 25] [] [] fun κ ξ hκ hξ => ?_
        simp +decide only [go_sem, c6]
        refine hκ _ _ ?_
        refine cd_ (fun c7 => ?_) (fun c7 => ?_)
        ·have k7 := c7
         try simp only [go_sem] at c7
         refine sk ?_
         refine cdt (by first | rfl | exact congrArg D.bool k7) ?_
         refine sr_ [4] [] [] fun κ ξ hκ hξ => ?_
         simp +decide only [go_sem, c7]
         refine hκ _ _ ?_
         refine rt ?_
         refine retE ?_
         simp +decide only [go_sem, resD, resV, c0, c1, c2, c3, c4, c5, c6, c7]
         congr 1
         have hq : p = 1 ∨ p = 2 ∨ p = 3 ∨ p = 4 ∨ p = 5 ∨ p = 6 ∨ p = 7 ∨ p = 8 ∨ p = 9 ∨ p = 10 ∨ p = 11 ∨ p = 12 ∨ p = 13 ∨ p = 14 ∨ p = 15 ∨ p = 16 ∨ p = 17 ∨ p = 18 ∨ p = 19 ∨ p = 20 ∨ p = 21 ∨ p = 22 ∨ p = 23 ∨ p = 24 ∨ p = 25 ∨ p = 26 ∨ p = 27 ∨ p = 28 ∨ p = 29 ∨ p = 30 ∨ p = 31 ∨ p = 32 := by omega
         rcases hq with rfl | rfl | rfl | rfl | rfl | rfl | rfl | rfl | rfl | rfl | rfl | rfl | rfl | rfl | rfl | rfl | rfl | rfl | rfl | rfl | rfl | rfl | rfl | rfl | rfl | rfl | rfl | rfl | rfl | rfl | rfl | rfl <;> first | (exfalso; omega) | rfl | (refine clip_sw ?_; omega) | (show _ = if n = 0 then (0 : Int) else 1; split <;> omega)
        ·have k7 := c7
         try simp only [go_sem] at c7
         refine rr_ [0, 1, 5, 25] [] [] fun κ ξ hκ hξ => ?_
         simp +decide only [go_sem, c7]
         refine hκ _ _ ?_
         refine cd_ (fun c8 => ?_) (fun c8 => ?_)
         ·have k8 := c8
          try simp only [go_sem] at c8
          refine sr_ [4] [] [] fun κ ξ hκ hξ => ?_
          simp +decide only [go_sem, c8]
          refine hκ _ _ ?_
          refine rt ?_
          refine retE ?_
          simp +decide only [go_sem, resD, resV, c0, c1, c2, c3, c4, c5, c6, c7, c8]
          congr 1
          have hq : p = 1 ∨ p = 2 ∨ p = 3 ∨ p = 4 ∨ p = 5 ∨ p = 6 ∨ p = 7 ∨ p = 8 ∨ p = 9 ∨ p = 10 ∨ p = 11 ∨ p = 12 ∨ p = 13 ∨ p = 14 ∨ p = 15 ∨ p = 16 ∨ p = 17 ∨ p = 18 ∨ p = 19 ∨ p = 20 ∨ p = 21 ∨ p = 22 ∨ p = 23 ∨ p = 24 ∨ p = 25 ∨ p = 26 ∨ p = 27 ∨ p = 28 ∨ p = 29 ∨ p = 30 ∨ p = 31 ∨ p = 32 := by omega
          rcases hq with rfl | rfl | rfl | rfl | rfl | rfl | rfl | rfl | rfl | rfl | rfl | rfl | rfl | rfl | rfl | rfl | rfl | rfl | rfl | rfl | rfl | rfl | rfl | rfl | rfl | rfl | rfl | rfl | rfl | rfl | rfl | rfl <;> first | (exfalso; omega) | rfl | (refine clip_sw ?_; omega) | (show _ = if n = 0 then (0 : Int) else 1; split <;> omega)
         ·have k8 := c8
          try simp only [go_sem] at c8
          refine sq ?_
          refine sr_ [0, 1, 5, 31] [] [] fun κ ξ hκ hξ => ?_
          simp +decide only [go_sem, c8]
          refine hκ _ _ ?_
          refine cd_ (fun c9 => ?_) (fun c9 => ?_)
          ·have k9 := c9
           try simp only [go_sem] at c9
           refine sk ?_
           refine cdt (by first | rfl | exact congrArg D.bool k9) ?_
           refine sq ?_
           refine sr_ [38] [] [] fun κ ξ hκ hξ => ?_
           simp +decide only [go_sem, c9]
           refine hκ _ _ ?_
           refine cd_ (fun c10 => ?_) (fun c10 => ?_)
           ·have k10 := c10
            try simp only [go_sem] at c10
            refine sr_ [4] [] [] fun κ ξ hκ hξ => ?_
            simp +decide only [go_sem, c10]
            refine hκ _ _ ?_
            refine rt ?_
            refine retE ?_
            simp +decide only [go_sem, resD, resV, c0, c1, c2, c3, c4, c5, c6, c7, c8, c9, c10]
            congr 1
            have hq : p = 1 ∨ p = 2 ∨ p = 3 ∨ p = 4 ∨ p = 5 ∨ p = 6 ∨ p = 7 ∨ p = 8 ∨ p = 9 ∨ p = 10 ∨ p = 11 ∨ p = 12 ∨ p = 13 ∨ p = 14 ∨ p = 15 ∨ p = 16 ∨ p = 17 ∨ p = 18 ∨ p = 19 ∨ p = 20 ∨ p = 21 ∨ p = 22 ∨ p = 23 ∨ p = 24 ∨ p = 25 ∨ p = 26 ∨ p = 27 ∨ p = 28 ∨ p = 29 ∨ p = 30 ∨ p = 31 ∨ p = 32 := by omega
            rcases hq with rfl | rfl | rfl | rfl | rfl | rfl | rfl | rfl | rfl | rfl | rfl | rfl | rfl | rfl | rfl | rfl | rfl | rfl | rfl | rfl | rfl | rfl | rfl | rfl | rfl | rfl | rfl | rfl | rfl | rfl | rfl | rfl <;> first | (exfalso; omega) | rfl | (refine clip_sw ?_; omega) | (show _ = if n = 0 then (0 : Int) else 1; split <;> omega)
           ·have k10 := c10
            try simp only [go_sem] at c10
            refine sk ?_
            refine sr_ [4] [] [] fun κ ξ hκ hξ => ?_
            simp +decide only [go_sem, c10]
            refine hκ _ _ ?_
            refine rt ?_
            refine retE ?_
            simp +decide only [go_sem, resD, resV, c0, c1, c2, c3, c4, c5, c6, c7, c8, c9, c10]
            congr 1
            have hq : p = 1 ∨ p = 2 ∨ p = 3 ∨ p = 4 ∨ p = 5 ∨ p = 6 ∨ p = 7 ∨ p = 8 ∨ p = 9 ∨ p = 10 ∨ p = 11 ∨ p = 12 ∨ p = 13 ∨ p = 14 ∨ p = 15 ∨ p = 16 ∨ p = 17 ∨ p = 18 ∨ p = 19 ∨ p = 20 ∨ p = 21 ∨ p = 22 ∨ p = 23 ∨ p = 24 ∨ p = 25 ∨ p = 26 ∨ p = 27 ∨ p = 28 ∨ p = 29 ∨ p = 30 ∨ p = 31 ∨ p = 32 := by omega
            rcases hq with rfl | rfl | rfl | rfl | rfl | rfl | rfl | rfl | rfl | rfl | rfl | rfl | rfl | rfl | rfl | rfl | rfl | rfl | rfl | rfl | rfl | rfl | rfl | rfl | rfl | rfl | rfl | rfl | rfl | rfl | rfl | rfl <;> first | (exfalso; omega) | rfl | (refine clip_sw ?_; omega) | (show _ = if n = 0 then (0 : Int) else 1; split <;> omega)
          ·have k9 := c9
           try simp only [go_sem] at c9
           refine sr_ [0, 1, 5, 31] [] [] fun κ ξ hκ hξ => ?_
           simp +decide only [go_sem, c9]
           refine hκ _ _ ?_
           refine cd_ (fun c11 => ?_) (fun c11 => ?_)
           ·have k11 := c11
            try simp only [go_sem] at c11
            refine sk ?_
            refine cdt (by first | rfl | exact congrArg D.bool k11) ?_
            refine sq ?_
            refine sr_ [38] [] [] fun κ ξ hκ hξ => ?_
            simp +decide only [go_sem, c11]
            refine hκ _ _ ?_
            refine cd_ (fun c12 => ?_) (fun c12 => ?_)
            ·have k12 := c12
             try simp only [go_sem] at c12
             refine sr_ [4] [] [] fun κ ξ hκ hξ => ?_
             simp +decide only [go_sem, c12]
             refine hκ _ _ ?_
             refine rt ?_
             refine retE ?_
             simp +decide only [go_sem, resD, resV, c0, c1, c2, c3, c4, c5, c6, c7, c8, c9, c11, c12]
             congr 1
             have hq : p = 1 ∨ p = 2 ∨ p = 3 ∨ p = 4 ∨ p = 5 ∨ p = 6 ∨ p = 7 ∨ p = 8 ∨ p = 9 ∨ p = 10 ∨ p = 11 ∨ p = 12 ∨ p = 13 ∨ p = 14 ∨ p = 15 ∨ p = 16 ∨ p = 17 ∨ p = 18 ∨ p = 19 ∨ p = 20 ∨ p = 21 ∨ p = 22 ∨ p = 23 ∨ p = 24 ∨ p = 25 ∨ p = 26 ∨ p = 27 ∨ p = 28 ∨ p = 29 ∨ p = 30 ∨ p = 31 ∨ p = 32 := by omega
             rcases hq with rfl | rfl | rfl | rfl | rfl | rfl | rfl | rfl | rfl | rfl | rfl | rfl | rfl | rfl | rfl | rfl | rfl | rfl | rfl | rfl | rfl | rfl | rfl | rfl | rfl | rfl | rfl | rfl | rfl | rfl | rfl | rfl <;> first | (exfalso; omega) | rfl | (refine clip_sw ?_; omega) | (show _ = if n = 0 then (0 : Int) else 1; split <;> omega)
            ·have k12 := c12
             try simp only [go_sem] at c12
             refine sk ?_
             refine sr_ [4] [] [] fun κ ξ hκ hξ => ?_
             simp +decide only [go_sem, c12]
             refine hκ _ _ ?_
             refine rt ?_
             refine retE ?_
             simp +decide only [go_sem, resD, resV, c0, c1, c2, c3, c4, c5, c6, c7, c8, c9, c11, c12]
             congr 1
             have hq : p = 1 ∨ p = 2 ∨ p = 3 ∨ p = 4 ∨ p = 5 ∨ p = 6 ∨ p = 7 ∨ p = 8 ∨ p = 9 ∨ p = 10 ∨ p = 11 ∨ p = 12 ∨ p = 13 ∨ p = 14 ∨ p = 15 ∨ p = 16 ∨ p = 17 ∨ p = 18 ∨ p = 19 ∨ p = 20 ∨ p = 21 ∨ p = 22 ∨ p = 23 ∨ p = 24 ∨ p = 25 ∨ p = 26 ∨ p = 27 ∨ p = 28 ∨ p = 29 ∨ p = 30 ∨ p = 31 ∨ p = 32 := by omega
             rcases hq with rfl | rfl | rfl | rfl | rfl | rfl | rfl | rfl | rfl | rfl | rfl | rfl | rfl | rfl | rfl | rfl | rfl | rfl | rfl | rfl | rfl | rfl | rfl | rfl | rfl | rfl | rfl | rfl | rfl | rfl | rfl | rfl <;> first | (exfalso; omega) | rfl | (refine clip_sw ?_; omega) | (show _ = if n = 0 then (0 : Int) else 1; split <;> omega)
           ·have k11 := c11
            try simp only [go_sem] at c11
            refine sr_ [0, 1, 5, 31] [] [] fun κ ξ hκ hξ => ?_
            simp +decide only [go_sem, c11]
            refine hκ _ _ ?_
            refine cd_ (fun c13 => ?_) (fun c13 => ?_)
            ·have k13 := c13
             try simp only [go_sem] at c13
             refine sk ?_
             refine cdt (by first | rfl | exact congrArg D.bool k13) ?_
             refine sq ?_
             refine sr_ [38] [] [] fun κ ξ hκ hξ => ?_
             simp +decide only [go_sem, c13]
             refine hκ _ _ ?_
             refine cd_ (fun c14 => ?_) (fun c14 => ?_)
             ·have k14 := c14
              try simp only [go_sem] at c14
              refine sr_ [4] [] [] fun κ ξ hκ hξ => ?_
              simp +decide only [go_sem, c14]
              refine hκ _ _ ?_
              refine rt ?_
              refine retE ?_
              simp +decide only [go_sem, resD, resV, c0, c1, c2, c3, c4, c5, c6, c7, c8, c9, c11, c13, c14]
              congr 1
              have hq : p = 1 ∨ p = 2 ∨ p = 3 ∨ p = 4 ∨ p = 5 ∨ p = 6 ∨ p = 7 ∨ p = 8 ∨ p = 9 ∨ p = 10 ∨ p = 11 ∨ p = 12 ∨ p = 13 ∨ p = 14 ∨ p = 15 ∨ p = 16 ∨ p = 17 ∨ p = 18 ∨ p = 19 ∨ p = 20 ∨ p = 21 ∨ p = 22 ∨ p = 23 ∨ p = 24 ∨ p = 25 ∨ p = 26 ∨ p = 27 ∨ p = 28 ∨ p = 29 ∨ p = 30 ∨ p = 31 ∨ p = 32 := by omega
              rcases hq with rfl | rfl | rfl | rfl | rfl | rfl | rfl | rfl | rfl | rfl | rfl | rfl | rfl | rfl | rfl | rfl | rfl | rfl | rfl | rfl | rfl | rfl | rfl | rfl | rfl | rfl | rfl | rfl | rfl | rfl | rfl | rfl <;> first | (exfalso; omega) | rfl | (refine clip_sw ?_; omega) | (show _ = if n = 0 then (0 : Int) else 1; split <;> omega)
             ·have k14 := c14
              try simp only [go_sem] at c14
              refine sk ?_
              refine sr_ [4] [] [] fun κ ξ hκ hξ => ?_
              simp +decide only [go_sem, c14]
              refine hκ _ _ ?_
              refine rt ?_
              refine retE ?_
              simp +decide only [go_sem, resD, resV, c0, c1, c2, c3, c4, c5, c6, c7, c8, c9, c11, c13, c14]
              congr 1
              have hq : p = 1 ∨ p = 2 ∨ p = 3 ∨ p = 4 ∨ p = 5 ∨ p = 6 ∨ p = 7 ∨ p = 8 ∨ p = 9 ∨ p = 10 ∨ p = 11 ∨ p = 12 ∨ p = 13 ∨ p = 14 ∨ p = 15 ∨ p = 16 ∨ p = 17 ∨ p = 18 ∨ p = 19 ∨ p = 20 ∨ p = 21 ∨ p = 22 ∨ p = 23 ∨ p = 24 ∨ p = 25 ∨ p = 26 ∨ p = 27 ∨ p = 28 ∨ p = 29 ∨ p = 30 ∨ p = 31 ∨ p = 32 := by omega
              rcases hq with rfl | rfl | rfl | rfl | rfl | rfl | rfl | rfl | rfl | rfl | rfl | rfl | rfl | rfl | rfl | rfl | rfl | rfl | rfl | rfl | rfl | rfl | rfl | rfl | rfl | rfl | rfl | rfl | rfl | rfl | rfl | rfl <;> first | (exfalso; omega) | rfl | (refine clip_sw ?_; omega) | (show _ = if n = 0 then (0 : Int) else 1; split <;> omega)
            ·have k13 := c13
             try simp only [go_sem] at c13
             refine sr_ [0, 1, 5, 31] [] [] fun κ ξ hκ hξ => ?_
             simp +decide only [go_sem, c13]
             refine hκ _ _ ?_
             refine cd_ (fun c15 => ?_) (fun c15 => ?_)
             ·have k15 := c15
              try simp only [go_sem] at c15
              refine sk ?_
              refine cdt (by first | rfl | exact congrArg D.bool k15) ?_
              refine sq ?_
              refine sr_ [38] [] [] fun κ ξ hκ hξ => ?_
              simp +decide only [go_sem, c15]
              refine hκ _ _ ?_
              refine cd_ (fun c16 => ?_) (fun c16 => ?_)
              ·have k16 := c16
               try simp only [go_sem] at c16
               refine sr_ [4] [] [] fun κ ξ hκ hξ => ?_
               simp +decide only [go_sem, c16]
               refine hκ _ _ ?_
               refine rt ?_
               refine retE ?_
               simp +decide only [go_sem, resD, resV, c0, c1, c2, c3, c4, c5, c6, c7, c8, c9, c11, c13, c15, c16]
               congr 1
               have hq : p = 1 ∨ p = 2 ∨ p = 3 ∨ p = 4 ∨ p = 5 ∨ p = 6 ∨ p = 7 ∨ p = 8 ∨ p = 9 ∨ p = 10 ∨ p = 11 ∨ p = 12 ∨ p = 13 ∨ p = 14 ∨ p = 15 ∨ p = 16 ∨ p = 17 ∨ p = 18 ∨ p = 19 ∨ p = 20 ∨ p = 21 ∨ p = 22 ∨ p = 23 ∨ p = 24 ∨ p = 25 ∨ p = 26 ∨ p = 27 ∨ p = 28 ∨ p = 29 ∨ p = 30 ∨ p = 31 ∨ p = 32 := by omega
               rcases hq with rfl | rfl | rfl | rfl | rfl | rfl | rfl | rfl | rfl | rfl | rfl | rfl | rfl | rfl | rfl | rfl | rfl | rfl | rfl | rfl | rfl | rfl | rfl | rfl | rfl | rfl | rfl | rfl | rfl | rfl | rfl | rfl <;> first | (exfalso; omega) | rfl | (refine clip_sw ?_; omega) | (show _ = if n = 0 then (0 : Int) else 1; split <;> omega)
              ·have k16 := c16
               try simp only [go_sem] at c16
               refine sk ?_
               refine sr_ [4] [] [] fun κ ξ hκ hξ => ?_
               simp +decide only [go_sem, c16]
               refine hκ _ _ ?_
               refine rt ?_
               refine retE ?_
               simp +decide only [go_sem, resD, resV, c0, c1, c2, c3, c4, c5, c6, c7, c8, c9, c11, c13, c15, c16]
               congr 1
               have hq : p = 1 ∨ p = 2 ∨ p = 3 ∨ p = 4 ∨ p = 5 ∨ p = 6 ∨ p = 7 ∨ p = 8 ∨ p = 9 ∨ p = 10 ∨ p = 11 ∨ p = 12 ∨ p = 13 ∨ p = 14 ∨ p = 15 ∨ p = 16 ∨ p = 17 ∨ p = 18 ∨ p = 19 ∨ p = 20 ∨ p = 21 ∨ p = 22 ∨ p = 23 ∨ p = 24 ∨ p = 25 ∨ p = 26 ∨ p = 27 ∨ p = 28 ∨ p = 29 ∨ p = 30 ∨ p = 31 ∨ p = 32 := by omega
               rcases hq with rfl | rfl | rfl | rfl | rfl | rfl | rfl | rfl | rfl | rfl | rfl | rfl | rfl | rfl | rfl | rfl | rfl | rfl | rfl | rfl | rfl | rfl | rfl | rfl | rfl | rfl | rfl | rfl | rfl | rfl | rfl | rfl <;> first | (exfalso; omega) | rfl | (refine clip_sw ?_; omega) | (show _ = if n = 0 then (0 : Int) else 1; split <;> omega)
             ·have k15 := c15
              try simp only [go_sem] at c15
              refine rr_ [0, 1, 31] [] [] fun κ ξ hκ hξ => ?_
              simp +decide only [go_sem, c15]
              refine hκ _ _ ?_
              refine cd_ (fun c17 => ?_) (fun c17 => ?_)
              ·have k17 := c17
               try simp only [go_sem] at c17
               refine sq ?_
               refine sr_ [38] [] [] fun κ ξ hκ hξ => ?_
               simp +decide only [go_sem, c17]
               refine hκ _ _ ?_
               refine cd_ (fun c18 => ?_) (fun c18 => ?_)
               ·have k18 := c18
                try simp only [go_sem] at c18
                refine sr_ [4] [] [] fun κ ξ hκ hξ => ?_
                simp +decide only [go_sem, c18]
                refine hκ _ _ ?_
                refine rt ?_
                refine retE ?_
                simp +decide only [go_sem, resD, resV, c0, c1, c2, c3, c4, c5, c6, c7, c8, c9, c11, c13, c15, c17, c18]
                congr 1
                have hq : p = 1 ∨ p = 2 ∨ p = 3 ∨ p = 4 ∨ p = 5 ∨ p = 6 ∨ p = 7 ∨ p = 8 ∨ p = 9 ∨ p = 10 ∨ p = 11 ∨ p = 12 ∨ p = 13 ∨ p = 14 ∨ p = 15 ∨ p = 16 ∨ p = 17 ∨ p = 18 ∨ p = 19 ∨ p = 20 ∨ p = 21 ∨ p = 22 ∨ p = 23 ∨ p = 24 ∨ p = 25 ∨ p = 26 ∨ p = 27 ∨ p = 28 ∨ p = 29 ∨ p = 30 ∨ p = 31 ∨ p = 32 := by omega
                rcases hq with rfl | rfl | rfl | rfl | rfl | rfl | rfl | rfl | rfl | rfl | rfl | rfl | rfl | rfl | rfl | rfl | rfl | rfl | rfl | rfl | rfl | rfl | rfl | rfl | rfl | rfl | rfl | rfl | rfl | rfl | rfl | rfl <;> first | (exfalso; omega) | rfl | (refine clip_sw ?_; omega) | (show _ = if n = 0 then (0 : Int) else 1; split <;> omega)
               ·have k18 := c18
                try simp only [go_sem] at c18
                refine sk ?_
                refine sr_ [4] [] [] fun κ ξ hκ hξ => ?_
                simp +decide only [go_sem, c18]
                refine hκ _ _ ?_
                refine rt ?_
                refine retE ?_
                simp +decide only [go_sem, resD, resV, c0, c1, c2, c3, c4, c5, c6, c7, c8, c9, c11, c13, c15, c17, c18]
                congr 1
                have hq : p = 1 ∨ p = 2 ∨ p = 3 ∨ p = 4 ∨ p = 5 ∨ p = 6 ∨ p = 7 ∨ p = 8 ∨ p = 9 ∨ p = 10 ∨ p = 11 ∨ p = 12 ∨ p = 13 ∨ p = 14 ∨ p = 15 ∨ p = 16 ∨ p = 17 ∨ p = 18 ∨ p = 19 ∨ p = 20 ∨ p = 21 ∨ p = 22 ∨ p = 23 ∨ p = 24 ∨ p = 25 ∨ p = 26 ∨ p = 27 ∨ p = 28 ∨ p = 29 ∨ p = 30 ∨ p = 31 ∨ p = 32 := by omega
                rcases hq with rfl | rfl | rfl | rfl | rfl | rfl | rfl | rfl | rfl | rfl | rfl | rfl | rfl | rfl | rfl | rfl | rfl | rfl | rfl | rfl | rfl | rfl | rfl | rfl | rfl | rfl | rfl | rfl | rfl | rfl | rfl | rfl <;> first | (exfalso; omega) | rfl | (refine clip_sw ?_; omega) | (show _ = if n = 0 then (0 : Int) else 1; split <;> omega)
              ·have k17 := c17
               try simp only [go_sem] at c17
               refine sk ?_
               refine sq ?_
               refine sr_ [1, 40] [] [] fun κ ξ hκ hξ => ?_
               simp +decide only [go_sem, c17]
               refine hκ _ _ ?_
               refine cd_ (fun c19 => ?_) (fun c19 => ?_)
               ·have k19 := c19
                try simp only [go_sem] at c19
                refine sr_ [4] [] [] fun κ ξ hκ hξ => ?_
                simp +decide only [go_sem, c19]
                refine hκ _ _ ?_
                refine rt ?_
                refine retE ?_
                simp +decide only [go_sem, resD, resV, c0, c1, c2, c3, c4, c5, c6, c7, c8, c9, c11, c13, c15, c17, c19]
                congr 1
                have hq : p = 1 ∨ p = 2 ∨ p = 3 ∨ p = 4 ∨ p = 5 ∨ p = 6 ∨ p = 7 ∨ p = 8 ∨ p = 9 ∨ p = 10 ∨ p = 11 ∨ p = 12 ∨ p = 13 ∨ p = 14 ∨ p = 15 ∨ p = 16 ∨ p = 17 ∨ p = 18 ∨ p = 19 ∨ p = 20 ∨ p = 21 ∨ p = 22 ∨ p = 23 ∨ p = 24 ∨ p = 25 ∨ p = 26 ∨ p = 27 ∨ p = 28 ∨ p = 29 ∨ p = 30 ∨ p = 31 ∨ p = 32 := by omega
                rcases hq with rfl | rfl | rfl | rfl | rfl | rfl | rfl | rfl | rfl | rfl | rfl | rfl | rfl | rfl | rfl | rfl | rfl | rfl | rfl | rfl | rfl | rfl | rfl | rfl | rfl | rfl | rfl | rfl | rfl | rfl | rfl | rfl <;> first | (exfalso; omega) | rfl | (refine clip_sw ?_; omega) | (show _ = if n = 0 then (0 : Int) else 1; split <;> omega)
               ·have k19 := c19
                try simp only [go_sem] at c19
                refine sk ?_
                refine sr_ [4] [] [] fun κ ξ hκ hξ => ?_
                simp +decide only [go_sem, c19]
                refine hκ _ _ ?_
                refine rt ?_
                refine retE ?_
                simp +decide only [go_sem, resD, resV, c0, c1, c2, c3, c4, c5, c6, c7, c8, c9, c11, c13, c15, c17, c19]
                congr 1
                have hq : p = 1 ∨ p = 2 ∨ p = 3 ∨ p = 4 ∨ p = 5 ∨ p = 6 ∨ p = 7 ∨ p = 8 ∨ p = 9 ∨ p = 10 ∨ p = 11 ∨ p = 12 ∨ p = 13 ∨ p = 14 ∨ p = 15 ∨ p = 16 ∨ p = 17 ∨ p = 18 ∨ p = 19 ∨ p = 20 ∨ p = 21 ∨ p = 22 ∨ p = 23 ∨ p = 24 ∨ p = 25 ∨ p = 26 ∨ p = 27 ∨ p = 28 ∨ p = 29 ∨ p = 30 ∨ p = 31 ∨ p = 32 := by omega
                rcases hq with rfl | rfl | rfl | rfl | rfl | rfl | rfl | rfl | rfl | rfl | rfl | rfl | rfl | rfl | rfl | rfl | rfl | rfl | rfl | rfl | rfl | rfl | rfl | rfl | rfl | rfl | rfl | rfl | rfl | rfl | rfl | rfl <;> first | (exfalso; omega) | rfl | (refine clip_sw ?_; omega) | (show _ = if n = 0 then (0 : Int) else 1; split <;> omega)
theorem rinh_w (p : Int) : PCall Tryz.prog (.func 99) [.int .i64 p] (.bool (inhB p)) := by
 refine PCall.le ?_
 refine fn_ Tryz.func99 (by rfl) (by rfl) (rs := [.tmp 2]) (by rfl) (by simp [Tryz.f99]) ?_
 refine sr_ [0] [] [] fun κ ξ hκ hξ => ?_
 simp +decide only [go_sem]
 refine hκ _ _ ?_
 refine sr_ [2] [] [(2, 5), (6, 9), (10, 13), (14, 17)] fun κ ξ hκ hξ => ?_
 simp +decide only [go_sem]
 refine hκ _ _ ?_
 refine rt ?_
 refine retE ?_
 simp +decide only [go_sem, resD, resV]
 congr 1
 unfold inhB
 rw [Bool.eq_iff_iff]
 simp [or_assoc]
theorem rrt_w (st : List Int) (hst : st.length = 33) : PCall Tryz.prog (.func 97) [.ag (st.map iD)] (.bool (parB st)) := by
 refine PCall.le ?_
 refine fn_ Tryz.func97 (by rfl) (by rfl) (rs := [.tmp 2]) (by rfl) (by simp [Tryz.f97]) ?_
 refine sr_ [1] [1] [] fun κ ξ hκ hξ => ?_
 simp +decide only [go_sem]
 refine hκ _ _ ?_
 refine sq ?_
 refine sr_ [1, 3] [] [] fun κ ξ hκ hξ => ?_
 simp +decide only [go_sem]
 refine hκ _ _ ?_
 refine bl ?_
 refine lp (α := Nat) (fun i => mk [(1, .el (st.map iD)), (3, .int .i64 i)]) (fun _ => []) (fun i => (1 ≤ i ∧ i ≤ 33) ∧ ∀ j, 1 ≤ j → j < i → cutV j (iat st j) = iat st j) (fun i => 33 - i) 1 ⟨⟨by omega, by intro j h1 hj; omega⟩, EnvLe.of_eq rfl, .refl _⟩ ?_
 rintro i ⟨hi, hj⟩
 refine sq ?_
 refine sr_ [1, 3, 5] [] [] fun κ ξ hκ hξ => ?_
 simp +decide only [go_sem]
 refine hκ _ _ ?_
 refine cd_ (fun c0 => ?_) (fun c0 => ?_)
 ·simp only [go_sem] at c0
  have hi33 : (i : Int) < 33 := by omega
  have hhd := hd_i (l := st) (k := i) (by omega)
  have hzz : 1 ≤ (List.drop i st).length := by rw [List.length_drop]; omega
  refine sk ?_
  refine sq ?_
  refine bl ?_
  refine srd_ [1, 3, 16] [] [12] [] fun κ ξ hκ hξ => ?_
  simp +decide only [go_sem, c0, hhd, hzz, Int.toNat_natCast, Nat.mul_one]
  repeat with_reducible refine an_ ?_
  refine scallF (rcut_w _ _ (by omega)) ?_
  simp +decide only [go_sem, hhd, hzz, Int.toNat_natCast, Nat.mul_one]
  repeat with_reducible refine an_ ?_
  refine hκ _ _ ?_
  refine cd_ (fun c1 => ?_) (fun c1 => ?_)
  ·try simp only [go_sem] at c1
   refine sr_ [2] [] [] fun κ ξ hκ hξ => ?_
   simp +decide only [go_sem, c1]
   refine hκ _ _ ?_
   refine rt ?_
   refine retE ?_
   simp +decide only [go_sem, resD, resV, c0, hi33, hhd, hzz, Int.toNat_natCast, Nat.mul_one, Nat.zero_add, c1]
   congr 1
   rw [parB_no (i := i) (by omega) c1]
  ·try simp only [go_sem] at c1
   refine sk ?_
   refine rr_ [1, 3] [] [] fun κ ξ hκ hξ => ?_
   simp +decide only [go_sem, c1]
   refine hκ _ _ ?_
   refine ⟨i + 1, ⟨⟨by omega, ?_⟩, by omega⟩, EnvLe.of_eq (by rw [w64 (n := (i : Int) + 1) (by omega)]; rfl), .refl _⟩
   intro j h1 h
   rcases Nat.lt_succ_iff_lt_or_eq.1 h with h | rfl
   ·exact hj j h1 h
   ·exact c1
 ·simp only [go_sem] at c0
  obtain rfl : i = 33 := by omega
  have hh0 : (List.map iD st).headD .top = .int .i64 (iat st 0) := hd_i (l := st) (k := 0) (by omega)
  have hz0 : 1 ≤ st.length := by omega
  refine ex ?_
  refine sr_ [2] [] [] fun κ ξ hκ hξ => ?_
  simp +decide only [go_sem, hh0, hst]
  refine hκ _ _ ?_
  refine rt ?_
  refine retE ?_
  simp +decide only [go_sem, resD, resV, c0, hh0, hz0, hst]
  congr 1
  rw [Bool.eq_iff_iff, parB_iff, decide_eq_true_eq]
  have e0 : cutV 0 (iat st 0) = 0 := by
   unfold cutV
   show mnI (mxI _ 0) 0 = 0
   unfold mnI mxI
   repeat' split
   all_goals omega
  constructor
  ·intro h p hp
   rcases Nat.eq_zero_or_pos p with rfl | h1
   ·rw [e0]; exact h.symm
   ·exact hj p h1 hp
  ·intro h
   have := h 0 (by omega)
   rw [e0] at this
   exact this.symm
end
section
theorem win_last (l : List Nd) (rs : List Ru) (x p w s lg bx : Int) : ∀ n : Nat, 0 ≤ winN l rs x p w s lg bx n → 0 ≤ lastI (ruat rs (winN l rs x p w s lg bx n).toNat).decls p
 | 0, h => by simp [winN] at h
 | n + 1, h => by
  unfold winN at h ⊢
  split
  ·rename_i h1
   split
   ·rw [Int.toNat_natCast]; exact h1.2
   ·rename_i h2
    split
    ·rw [Int.toNat_natCast]; exact h1.2
    ·exact win_last l rs x p w s lg bx n (by omega)
  ·rename_i h1
   rw [if_neg h1] at h
   exact win_last l rs x p w s lg bx n h
def inhS (par : List Int) (p : Nat) (out : List Int) : List Int := if inhB p = true then out.set p (iat par p) else out
theorem inhS_len (par : List Int) (p : Nat) (out : List Int) : (inhS par p out).length = out.length := by
 unfold inhS
 split <;> simp
def vrs (p : Nat) (par o : List Int) : List Int := if p < 25 then o.drop 25 else par.drop 25
theorem vrs_len {p : Nat} {par o : List Int} (h1 : par.length = 33) (h2 : o.length = 33) : (vrs p par o).length = 8 := by
 unfold vrs
 split <;> rw [List.length_drop] <;> omega
def dE (l : List Nd) (rs : List Ru) (x p w s lg bx : Int) : Ex := (dcat (ruat rs (winI l rs x p w s lg bx).toNat).decls (winK l rs x p w s lg bx).toNat).val
def rF (l : List Nd) (rs : List Ru) (x w s lg bx wd : Int) (par : List Int) : Nat → List Int → List Int × Int
 | 0, out => (out, 0)
 | p + 1, out => if winI l rs x ((p + 1 : Nat) : Int) w s lg bx < 0 then rF l rs x w s lg bx wd par p (inhS par (p + 1) out) else
   if (evV wd s (vrs (p + 1) par (inhS par (p + 1) out)) (dE l rs x ((p + 1 : Nat) : Int) w s lg bx)).2 = 0 then rF l rs x w s lg bx wd par p ((inhS par (p + 1) out).set (p + 1) (cutV (p + 1) (evV wd s (vrs (p + 1) par (inhS par (p + 1) out)) (dE l rs x ((p + 1 : Nat) : Int) w s lg bx)).1))
   else (zS, (evV wd s (vrs (p + 1) par (inhS par (p + 1) out)) (dE l rs x ((p + 1 : Nat) : Int) w s lg bx)).2)
theorem rgate {a b c e f g : Bool} {wd : Int} (h : ((((((a = true ∧ b = true) ∧ c = true) ∧ e = true) ∧ f = true) ∧ ¬wd < 0) ∧ ¬1000000 < wd) ∧ g = true) : (a = true ∧ b = true ∧ c = true ∧ e = true) ∧ f = true ∧ (0 ≤ wd ∧ wd ≤ 1000000) ∧ g = true := by
 obtain ⟨⟨⟨⟨⟨⟨⟨h1, h2⟩, h3⟩, h4⟩, h5⟩, h6⟩, h7⟩, h8⟩ := h
 exact ⟨⟨h1, h2, h3, h4⟩, h5, ⟨by omega, by omega⟩, h8⟩
theorem rgate_no {a b c e f g : Bool} {wd : Int} (h : ((((((((a = false ∨ b = false) ∨ c = false) ∨ e = false) ∨ f = false) ∨ wd < 0) ∨ 1000000 < wd)) ∨ g = false)) : ¬ ((a = true ∧ b = true ∧ c = true ∧ e = true) ∧ f = true ∧ (0 ≤ wd ∧ wd ≤ 1000000) ∧ g = true) := by
 rintro ⟨⟨rfl, rfl, rfl, rfl⟩, rfl, ⟨h6, h7⟩, rfl⟩
 simp at h
 omega
def rsty (l : List Nd) (rs : List Ru) (x w s lg : Int) (par : List Int) (wd bx : Int) : List Int × Int :=
 if (treB l = true ∧ rulesB rs = true ∧ idB x = true ∧ rdB w s lg = true) ∧ parB par = true ∧ (0 ≤ wd ∧ wd ≤ 1000000) ∧ isBx bx = true then (if idx l x < 0 then (zS, 4) else rF l rs x w s lg bx wd par 32 firstS) else (zS, 1)
attribute [local go_sem] List.length_map rowAt_n nrow rowAt_t trow rowAt_i irow
attribute [local go_sem] rowAt_e rowAt_tm rowAt_dc rowAt_ru tmrow dcrow rurow
attribute [local go_sem] rowAt_br rowAt_s rowAt_fo rowAt_ve rowAt_g rowAt_k grow krow srow brrow forow dorow verow
attribute [local go_sem] iD_all iD_len rw2_0 rw2_1 rw1_0 Int.toNat_one
attribute [local go_sem] iD_putU List.length_set Int.reduceToNat List.append_nil firstS_len Nat.zero_add
theorem rsty_w (d : Do) (x w s lg : Int) (par : List Int) (wd bx : Int) (hpl : par.length = 33) : PCall Tryz.prog (.func 64) [.ag (dorow d), .int .i64 x, .ag [.int .i64 w, .int .i64 s, .int .i64 lg], .ag (par.map iD), .int .i64 wd, .int .i64 bx] (.tup [.ag ((rsty d.nodes d.rules x w s lg par wd bx).1.map iD), .int .i64 (rsty d.nodes d.rules x w s lg par wd bx).2]) := by
 have h33 : par.take 33 = par := List.take_of_length_le (by omega)
 refine PCall.le ?_
 refine fn_ Tryz.func64 (by rfl) (by rfl) (rs := [.cell 12 33, .tmp 13]) (by rfl) (by simp [Tryz.f64]) ?_
 refine sr_ [1, 4, 5, 6, 8, 9, 12] [6, 8, 9] [] fun κ ξ hκ hξ => ?_
 simp +decide only [go_sem]
 intro b12 hb12
 refine hκ _ _ ?_
 refine weak _ (EnvLe.refl _) (σ' := [(b12, .cells (zS.map iD))]) (.refl _) ?_
 refine sq ?_
 refine sr_ [1, 4, 5, 6, 8, 9, 12, 58] [] [(4, 25), (10, 31), (15, 36), (20, 41), (25, 46), (29, 50), (33, 54)] fun κ ξ hκ hξ => ?_
 simp +decide only [go_sem, hb12]
 refine callF (rtre_w _ _) ?_
 simp +decide only [go_sem, hb12]
 refine vo_gc ?_
 simp +decide only [go_sem, hb12]
 refine gcF (rshv_w _ _) ?_
 simp +decide only [go_sem, hb12]
 refine vo_gc ?_
 simp +decide only [go_sem, hb12]
 refine gcF (rid_w _) ?_
 simp +decide only [go_sem, hb12]
 refine vo_gc ?_
 simp +decide only [go_sem, hb12]
 refine gcF (rrd_w _ _ _) ?_
 simp +decide only [go_sem, hpl, h33, hb12]
 refine vo_gc ?_
 simp +decide only [go_sem, hb12]
 refine gcF (rrt_w _ (by assumption)) ?_
 simp +decide only [go_sem, hb12]
 refine vo_gc ?_
 simp +decide only [go_sem, hb12]
 refine gcF (rbx_w _) ?_
 simp +decide only [go_sem, hb12]
 refine hκ _ _ ?_
 refine cd_ (fun c0 => ?_) (fun c0 => ?_)
 ·simp only [go_sem] at c0
  refine sr_ [12, 13] [] [] fun κ ξ hκ hξ => ?_
  simp +decide only [go_sem, zS_end, hb12]
  refine hκ _ _ ?_
  refine rt ?_
  refine retE ?_
  simp +decide only [go_sem, resD, resV, hpl, h33, zS_end, hb12, c0]
  rw [show rsty d.nodes d.rules x w s lg par wd bx = (zS, 1) by unfold rsty; exact if_neg (rgate_no c0)]
  rfl
 ·simp only [go_sem] at c0
  have hv := rgate c0
  refine sk ?_
  refine sq ?_
  refine sr_ [1, 4, 5, 6, 8, 9, 12, 64] [] [] fun κ ξ hκ hξ => ?_
  simp +decide only [go_sem, hb12, c0]
  refine callF (ridx_w _ _ _) ?_
  simp +decide only [go_sem, hb12]
  refine hκ _ _ ?_
  refine cd_ (fun c1 => ?_) (fun c1 => ?_)
  ·try simp only [go_sem] at c1
   refine sr_ [12, 13] [] [] fun κ ξ hκ hξ => ?_
   simp +decide only [go_sem, zS_end, hb12, c1]
   refine hκ _ _ ?_
   refine rt ?_
   refine retE ?_
   simp +decide only [go_sem, resD, resV, hpl, h33, zS_end, hb12, c0, c1]
   rw [show rsty d.nodes d.rules x w s lg par wd bx = (zS, 4) by unfold rsty; rw [if_pos hv]; exact if_pos c1]
   rfl
  ·try simp only [go_sem] at c1
   refine sk ?_
   refine sr_ [1, 4, 5, 6, 8, 9, 12, 14] [] [] fun κ ξ hκ hξ => ?_
   simp +decide only [go_sem, hb12, c1]
   refine callF (rfrst_w) ?_
   simp +decide only [go_sem, hb12]
   intro b14 hb14
   refine hκ _ _ ?_
   refine sq ?_
   refine sr_ [1, 4, 5, 6, 8, 9, 12, 14, 15] [] [] fun κ ξ hκ hξ => ?_
   simp +decide only [go_sem, hb12, hb14]
   refine hκ _ _ ?_
   refine bl ?_
   obtain ⟨T, hT0⟩ : ∃ T, T = rF d.nodes d.rules x w s lg bx wd par 32 firstS := ⟨_, rfl⟩
   refine lp (α := Nat × List Int) (fun z => mk [(1, .int .i64 x), (4, .int .i64 wd), (5, .int .i64 bx), (6, .el (dorow d)), (8, .el [.int .i64 w, .int .i64 s, .int .i64 lg]), (9, .el (par.map iD)), (12, .ptr b12 0), (14, .ptr b14 0), (15, .int .i64 z.1)]) (fun z => [(b14, .cells (z.2.map iD)), (b12, .cells (zS.map iD))]) (fun z => z.1 ≤ 32 ∧ z.2.length = 33 ∧ T = rF d.nodes d.rules x w s lg bx wd par z.1 z.2) (fun z => z.1) (32, firstS) ⟨⟨by simp only; omega, firstS_len, hT0⟩, EnvLe.of_eq rfl, .refl _⟩ ?_
   rintro ⟨m, out⟩ ⟨hm, hol, hT⟩
   simp only at hm hol hT
   refine sq ?_
   refine sr_ [1, 4, 5, 6, 8, 9, 12, 14, 15, 68] [] [] fun κ ξ hκ hξ => ?_
   simp +decide only [go_sem, hb12, hb14]
   refine hκ _ _ ?_
   refine cd_ (fun c2 => ?_) (fun c2 => ?_)
   ·simp only [go_sem] at c2
    obtain ⟨k, rfl⟩ : ∃ k : Nat, m = k + 1 := ⟨m - 1, by omega⟩
    obtain ⟨m, hmk⟩ : ∃ m, m = k + 1 := ⟨_, rfl⟩
    rw [← hmk] at hm hT c2 ⊢
    have hm33 : m < 33 := by omega
    have hmi : (m : Int) < 33 := by omega
    have hm0 : (0 : Int) ≤ (m : Int) := by omega
    have hhd := hd_i (l := par) (k := m) (by omega)
    have hzz : 1 ≤ (List.drop m par).length := by rw [List.length_drop]; omega
    obtain ⟨o1, ho1⟩ : ∃ o1, o1 = inhS par m out := ⟨_, rfl⟩
    have ho1l : o1.length = 33 := by rw [ho1, inhS_len]; exact hol
    have hT1 : T = if (winI d.nodes d.rules x (m : Int) w s lg bx) < 0 then rF d.nodes d.rules x w s lg bx wd par k o1 else if (evV wd s (vrs m par o1) (dE d.nodes d.rules x (m : Int) w s lg bx)).2 = 0 then rF d.nodes d.rules x w s lg bx wd par k (o1.set m (cutV m (evV wd s (vrs m par o1) (dE d.nodes d.rules x (m : Int) w s lg bx)).1)) else (zS, (evV wd s (vrs m par o1) (dE d.nodes d.rules x (m : Int) w s lg bx)).2) := by
     rw [hT, ho1, hmk, rF]
    refine sk ?_
    refine sq ?_
    refine bl ?_
    refine jn (α := Unit) (fun _ => mk [(1, .int .i64 x), (4, .int .i64 wd), (5, .int .i64 bx), (6, .el (dorow d)), (8, .el [.int .i64 w, .int .i64 s, .int .i64 lg]), (9, .el (par.map iD)), (12, .ptr b12 0), (14, .ptr b14 0), (15, .int .i64 m)]) (fun _ => [(b14, .cells (o1.map iD)), (b12, .cells (zS.map iD))]) (fun _ => True) ?_ ?_
    ·refine sr_ [1, 4, 5, 6, 8, 9, 12, 14, 15, 72] [] [] fun κ ξ hκ hξ => ?_
     simp +decide only [go_sem, hb12, hb14, c2]
     refine callF (rinh_w _) ?_
     simp +decide only [go_sem, hb12, hb14]
     refine hκ _ _ ?_
     refine cd_ (fun c3 => ?_) (fun c3 => ?_)
     ·try simp only [go_sem] at c3
      refine rr_ [1, 4, 5, 6, 8, 9, 12, 14, 15] [] [] fun κ ξ hκ hξ => ?_
      simp +decide only [go_sem, hb12, hb14, hol, hm33, hm0, hhd, hzz, Int.toNat_natCast, Nat.mul_one, c3]
      repeat with_reducible refine an_ ?_
      refine hκ _ _ ?_
      refine ⟨(), trivial, EnvLe.of_l ⟨rfl, rfl, rfl, rfl, rfl, rfl, rfl, rfl, rfl, trivial⟩, ?_⟩
      rw [ho1, inhS, if_pos c3]
      exact .refl _
     ·try simp only [go_sem] at c3
      refine sk ?_
      refine ⟨(), trivial, EnvLe.of_l ⟨rfl, rfl, rfl, rfl, rfl, rfl, rfl, rfl, rfl, trivial⟩, ?_⟩
      rw [ho1, inhS, if_neg (by rw [c3]; simp)]
      exact .refl _
    ·rintro _ _
     have o33 : List.take 33 o1 = o1 := List.take_of_length_le (by omega)
     have hvl := vrs_len (p := m) hpl ho1l
     refine sr_ [1, 4, 5, 6, 8, 9, 12, 14, 15, 16, 17] [] [] fun κ ξ hκ hξ => ?_
     simp +decide only [go_sem, hb12, hb14]
     refine callF (rwin_w _ _ _ _ _ _ _ _ _ _) ?_
     simp +decide only [go_sem, hb12, hb14]
     refine hκ _ _ ?_
     refine sq ?_
     refine sr_ [1, 4, 5, 6, 8, 9, 12, 14, 15, 16, 17, 91] [] [] fun κ ξ hκ hξ => ?_
     simp +decide only [go_sem, hb12, hb14]
     refine hκ _ _ ?_
     refine cd_ (fun c4 => ?_) (fun c4 => ?_)
     ·simp only [go_sem] at c4
      refine ex ?_
      refine rr_ [1, 4, 5, 6, 8, 9, 12, 14, 15] [] [] fun κ ξ hκ hξ => ?_
      simp +decide only [go_sem, hb12, hb14, c4]
      refine hκ _ _ ?_
      refine ⟨(k, o1), ⟨⟨by simp only; omega, ho1l, by simp only; rw [hT1, if_pos c4]⟩, by simp only; omega⟩, EnvLe.of_l ⟨rfl, rfl, rfl, rfl, rfl, rfl, rfl, rfl, (by rw [w64 (n := (m : Int) - 1) (by omega)]; show D.int .i64 ((m : Int) - 1) = D.int .i64 (k : Int); congr 1; omega), trivial⟩, .refl _⟩
     ·simp only [go_sem] at c4
      obtain ⟨kb, hkb⟩ : ∃ kb : Nat, (winI d.nodes d.rules x (m : Int) w s lg bx) = (kb : Int) := ⟨(winI d.nodes d.rules x (m : Int) w s lg bx).toNat, by omega⟩
      have hwr := winN_rng d.nodes d.rules x (m : Int) w s lg bx d.rules.length
      have hwl := win_last d.nodes d.rules x (m : Int) w s lg bx d.rules.length (by unfold winI at hkb; omega)
      have hkb2 : winN d.nodes d.rules x (m : Int) w s lg bx d.rules.length = (kb : Int) := hkb
      rw [hkb2] at hwr hwl
      rw [Int.toNat_natCast] at hwl
      have hwk : (winK d.nodes d.rules x (m : Int) w s lg bx) = lastI (ruat d.rules kb).decls (m : Int) := by unfold winK; rw [hkb, if_neg (by omega), Int.toNat_natCast]
      obtain ⟨kk, hkk⟩ : ∃ kk : Nat, (winK d.nodes d.rules x (m : Int) w s lg bx) = (kk : Int) := ⟨(winK d.nodes d.rules x (m : Int) w s lg bx).toNat, by omega⟩
      have hlr := lstN_rng (ruat d.rules kb).decls (m : Int) (ruat d.rules kb).decls.length
      have hkb3 : (kb : Int) < d.rules.length := by omega
      have hkk3 : (kk : Int) < (ruat d.rules kb).decls.length := by rw [← hkk, hwk]; exact hlr.2
      have hkb0 : (0 : Int) ≤ (kb : Int) := by omega
      have hkk0 : (0 : Int) ≤ (kk : Int) := by omega
      have hdE : dE d.nodes d.rules x (m : Int) w s lg bx = (dcat (ruat d.rules kb).decls kk).val := by unfold dE; rw [hkb, hkk]; rfl
      rw [hkb, if_neg (by omega), hdE] at hT1
      have p25 : (List.drop 25 par).length = 8 := by rw [List.length_drop]; omega
      have p8t : List.take 8 (List.drop 25 par) = List.drop 25 par := List.take_of_length_le (by omega)
      have o25 : (List.drop 25 o1).length = 8 := by rw [List.length_drop]; omega
      have o8t : List.take 8 (List.drop 25 o1) = List.drop 25 o1 := List.take_of_length_le (by omega)
      have p8d : List.drop 8 (List.drop 25 par) = [] := List.drop_eq_nil_of_le (by omega)
      refine sk ?_
      refine sr_ [1, 4, 5, 6, 8, 9, 12, 14, 15, 16, 17, 18] [] [] fun κ ξ hκ hξ => ?_
      simp +decide only [go_sem, hpl, h33, hb12, hb14, hkb, hkk]
      refine callF (rvar_w _ (by assumption)) ?_
      simp +decide only [go_sem, hb12, hb14, p25]
      intro b18 hb18
      refine hκ _ _ ?_
      refine jn (α := Unit) (fun _ => mk [(1, .int .i64 x), (4, .int .i64 wd), (5, .int .i64 bx), (6, .el (dorow d)), (8, .el [.int .i64 w, .int .i64 s, .int .i64 lg]), (9, .el (par.map iD)), (12, .ptr b12 0), (14, .ptr b14 0), (15, .int .i64 m), (16, .int .i64 (kb : Int)), (17, .int .i64 (kk : Int)), (18, .ptr b18 0)]) (fun _ => (b18, .cells ((vrs m par o1).map iD)) :: [(b14, .cells (o1.map iD)), (b12, .cells (zS.map iD))]) (fun _ => True) ?_ ?_
      ·refine sr_ [1, 4, 5, 6, 8, 9, 12, 14, 15, 16, 17, 18, 95] [] [] fun κ ξ hκ hξ => ?_
       simp +decide only [go_sem, hb12, hb14, hb18]
       refine hκ _ _ ?_
       refine cd_ (fun c5 => ?_) (fun c5 => ?_)
       ·try simp only [go_sem] at c5
        refine rr_ [1, 4, 5, 6, 8, 9, 12, 14, 15, 16, 17, 18] [] [] fun κ ξ hκ hξ => ?_
        simp +decide only [go_sem, hb12, hb14, ho1l, o33, hb18, c5]
        refine callF (rvar_w _ (by assumption)) ?_
        simp +decide only [go_sem, hb12, hb14, p25, o25, p8d, hb18]
        refine hκ _ _ ?_
        refine ⟨(), trivial, EnvLe.of_l ⟨rfl, rfl, rfl, rfl, rfl, rfl, rfl, rfl, rfl, rfl, rfl, rfl, trivial⟩, ?_⟩
        rw [show vrs m par o1 = o1.drop 25 by unfold vrs; rw [if_pos (by omega)]]
        exact .refl _
       ·try simp only [go_sem] at c5
        refine sk ?_
        refine ⟨(), trivial, EnvLe.of_l ⟨rfl, rfl, rfl, rfl, rfl, rfl, rfl, rfl, rfl, rfl, rfl, rfl, trivial⟩, ?_⟩
        rw [show vrs m par o1 = par.drop 25 by unfold vrs; rw [if_neg (by omega)]]
        exact .refl _
      ·rintro _ _
       have hv8 : List.take 8 (vrs m par o1) = vrs m par o1 := List.take_of_length_le (by omega)
       refine srd_ [1, 4, 5, 6, 8, 9, 12, 14, 15, 19, 20] [] [113] [] fun κ ξ hκ hξ => ?_
       simp +decide only [go_sem, hb12, hb14, Int.toNat_natCast, hkb3, hkk3, hkb0, hkk0, hb18, hvl, hv8]
       refine scallF (ev14_w _ _ _ (by assumption) _) ?_
       simp +decide only [go_sem, hb12, hb14, hb18]
       refine hκ _ _ ?_
       refine sq ?_
       refine sr_ [1, 4, 5, 6, 8, 9, 12, 14, 15, 19, 20, 117] [] [] fun κ ξ hκ hξ => ?_
       simp +decide only [go_sem, hb12, hb14, hb18]
       refine hκ _ _ ?_
       refine cd_ (fun c6 => ?_) (fun c6 => ?_)
       ·try simp only [go_sem] at c6
        refine sr_ [12, 13] [] [] fun κ ξ hκ hξ => ?_
        simp +decide only [go_sem, zS_end, hb12, hb14, hb18, c6]
        refine hκ _ _ ?_
        refine rt ?_
        refine retE ?_
        simp +decide only [go_sem, resD, resV, hpl, h33, zS_end, hb12, c0, c1, hb14, hol, c2, hm33, hmi, hm0, hhd, hzz, Int.toNat_natCast, Nat.mul_one, ho1l, o33, c4, hkb, hkk, hkb3, hkk3, hkb0, hkk0, p25, p8t, o25, o8t, p8d, hb18, hvl, hv8, c6]
        have e : rsty d.nodes d.rules x w s lg par wd bx = T := by
         unfold rsty
         rw [if_pos hv, if_neg c1]
         exact hT0.symm
        rw [hT1, if_neg c6] at e
        rw [e]
        rfl
       ·try simp only [go_sem] at c6
        refine sk ?_
        refine rr_ [1, 4, 5, 6, 8, 9, 12, 14, 15] [] [] fun κ ξ hκ hξ => ?_
        simp +decide only [go_sem, hb12, hb14, hb18, c6]
        refine callF (rcut_w m _ (by omega)) ?_
        simp +decide only [go_sem, hb12, hb14, hm33, hm0, Int.toNat_natCast, Nat.mul_one, ho1l, hb18]
        repeat with_reducible refine an_ ?_
        refine hκ _ _ ?_
        refine rr_ [1, 4, 5, 6, 8, 9, 12, 14, 15] [] [] fun κ ξ hκ hξ => ?_
        simp +decide only [go_sem, hb12, hb14, hb18]
        refine hκ _ _ ?_
        refine ⟨(k, o1.set m (cutV m (evV wd s (vrs m par o1) (dcat (ruat d.rules kb).decls kk).val).1)), ⟨⟨by simp only; omega, by simpa using ho1l, by simp only; rw [hT1, if_pos c6]⟩, by simp only; omega⟩, EnvLe.of_l ⟨rfl, rfl, rfl, rfl, rfl, rfl, rfl, rfl, (by rw [w64 (n := (m : Int) - 1) (by omega)]; show D.int .i64 ((m : Int) - 1) = D.int .i64 (k : Int); congr 1; omega), trivial⟩, .cons _ (.refl _)⟩
   ·simp only [go_sem] at c2
    obtain rfl : m = 0 := by omega
    have o33 : List.take 33 out = out := List.take_of_length_le (by omega)
    refine ex ?_
    refine sr_ [12, 13] [] [] fun κ ξ hκ hξ => ?_
    simp +decide only [go_sem, zS_end, hb12, hb14, hol, o33]
    refine hκ _ _ ?_
    refine rt ?_
    refine retE ?_
    simp +decide only [go_sem, resD, resV, hpl, h33, zS_end, hb12, c0, c1, hb14, hol, c2, o33]
    have e : rsty d.nodes d.rules x w s lg par wd bx = T := by
     unfold rsty
     rw [if_pos hv, if_neg c1]
     exact hT0.symm
    rw [hT, rF] at e
    rw [e]
end
end Go.Proofs.YtinhjbnljbmbcaaGreat
