/- Joined. -/
import Derived.Test.YtinhjbnljbmbcaaGreatQ12
import Derived.Test.YtinhjbnljbmbcaaGreatQ13
import Derived.Test.YtinhjbnljbmbcaaGreatQ10
namespace Go.Proofs.YtinhjbnljbmbcaaGreat
open Go Go.RowKit
set_option linter.unusedSimpArgs false
set_option linter.unusedVariables false
set_option maxRecDepth 100000
set_option maxHeartbeats 4000000
section
theorem cmpL_three {a b a' b' : Int} {i n : Int} (h : i < n) : cmpL [a, b, i] [a', b', n] < 0 ↔ a < a' ∨ a' = a ∧ b ≤ b' := by
 simp only [cmpL, cmpI]
 repeat' split
 all_goals omega
theorem clU_three {r k a b i : Int} {a' b' n : Int} (h : i < n) : clU ⟨r, k, a, b, i, true⟩ a' b' n = true ↔ a < a' ∨ a' = a ∧ b ≤ b' := by
 rw [← cmpL_three h]
 unfold clU
 have e : decide (a = a' ∧ b = b' ∧ i = n) = false := decide_eq_false (by omega)
 simp only [Bool.not_true, Bool.false_or, e, decide_eq_true_eq]
theorem clR_cell {rs : List Ru} {i : Nat} {o : List Cl} {p : Nat} (hp : p < o.length) (hd : ∀ k, k < (ruat rs i).decls.length → 1 ≤ (dcat (ruat rs i).decls k).prop) : ∀ n, n ≤ (ruat rs i).decls.length → clat (clR rs i o n) p = if 0 ≤ lstN (ruat rs i).decls (p : Int) n ∧ clU (clat o p) (ruat rs i).lay (wtB (ruat rs i).tests) i = true then ⟨i, lstN (ruat rs i).decls (p : Int) n, (ruat rs i).lay, wtB (ruat rs i).tests, i, true⟩ else clat o p
 | 0, _ => by rw [if_neg (by simp [lstN])]; rfl
 | n + 1, hn => by
  have ih := clR_cell (i := i) hp hd n (by omega)
  have hpos := hd n (by omega)
  have hl : (clR rs i o n).length = o.length := clR_len ..
  rw [clR_succ]
  unfold cl1
  by_cases hq : (dcat (ruat rs i).decls n).prop = (p : Int)
  ·have hq2 : (dcat (ruat rs i).decls n).prop.toNat = p := by omega
   have hL : lstN (ruat rs i).decls (p : Int) (n + 1) = n := by rw [lstN, if_pos hq]
   rw [hq2, hL]
   by_cases hu : clU (clat o p) (ruat rs i).lay (wtB (ruat rs i).tests) i = true
   ·have hu2 : clU (clat (clR rs i o n) p) (ruat rs i).lay (wtB (ruat rs i).tests) i = true := by
     rw [ih]
     split
     ·unfold clU; simp
     ·exact hu
    rw [if_pos hu2, clat_set, if_pos ⟨rfl, by omega⟩, if_pos ⟨by omega, hu⟩]
   ·have e : clat (clR rs i o n) p = clat o p := by rw [ih, if_neg (fun h => hu h.2)]
    rw [e, if_neg hu, e, if_neg (fun h => hu h.2)]
  ·have hL : lstN (ruat rs i).decls (p : Int) (n + 1) = lstN (ruat rs i).decls (p : Int) n := by rw [lstN, if_neg hq]
   rw [hL, ← ih]
   split
   ·rw [clat_set, if_neg (by omega)]
   ·rfl
theorem clF_snoc (rs : List Ru) (o : List Cl) (is : List Nat) (i : Nat) : clF rs o (is ++ [i]) = clR rs i (clF rs o is) (ruat rs i).decls.length := by
 unfold clF
 rw [List.foldl_append]
 rfl
theorem mI_succ (p : Nat → Bool) (n : Nat) : mI p (n + 1) = mI p n ++ (if p n = true then [n] else []) := by
 unfold mI
 rw [List.range_succ, List.filter_append]
 congr 1
 by_cases h : p n = true
 ·rw [if_pos h, List.filter_cons_of_pos h, List.filter_nil]
 ·rw [if_neg h, List.filter_cons_of_neg h, List.filter_nil]
def clW (rs : List Ru) (p b : Int) : Cl := if b < 0 then cl0 else ⟨b, lastI (ruat rs b.toNat).decls p, (ruat rs b.toNat).lay, wtB (ruat rs b.toNat).tests, b, true⟩
theorem win_cell (l : List Nd) (rs : List Ru) (x w s lg bx : Int) {p : Nat} (hp : p < 33) (hd : ∀ i, i < rs.length → ∀ k, k < (ruat rs i).decls.length → 1 ≤ (dcat (ruat rs i).decls k).prop) : ∀ n, n ≤ rs.length → clat (clF rs (List.replicate 33 cl0) (mI (fun i => ruM l x w s lg bx (ruat rs i)) n)) p = clW rs p (winN l rs x p w s lg bx n)
 | 0, _ => by
  show clat (List.replicate 33 cl0) p = cl0
  unfold clat
  rw [List.getD_eq_getElem?_getD, List.getElem?_replicate, if_pos hp]
  rfl
 | n + 1, hn => by
  have ih := win_cell l rs x w s lg bx hp hd n (by omega)
  have hr := winN_rng l rs x p w s lg bx n
  rw [mI_succ]
  by_cases hm : ruM l x w s lg bx (ruat rs n) = true
  ·rw [if_pos hm, clF_snoc, clR_cell (by rw [clF_len, List.length_replicate]; exact hp) (hd n (by omega)) _ (Nat.le_refl _), ih]
   by_cases h0 : 0 ≤ lastI (ruat rs n).decls p
   ·have hn1 : clW rs p (n : Int) = ⟨n, lstN (ruat rs n).decls (p : Int) (ruat rs n).decls.length, (ruat rs n).lay, wtB (ruat rs n).tests, n, true⟩ := by
     unfold clW
     rw [if_neg (by omega), Int.toNat_natCast]
     rfl
    have hW : winN l rs x p w s lg bx (n + 1) = (if winN l rs x p w s lg bx n < 0 then (n : Int) else if (ruat rs (winN l rs x p w s lg bx n).toNat).lay < (ruat rs n).lay ∨ (ruat rs n).lay = (ruat rs (winN l rs x p w s lg bx n).toNat).lay ∧ wtB (ruat rs (winN l rs x p w s lg bx n).toNat).tests ≤ wtB (ruat rs n).tests then (n : Int) else winN l rs x p w s lg bx n) := by rw [winN, if_pos ⟨hm, h0⟩]
    rw [hW]
    clear hW ih
    generalize winN l rs x p w s lg bx n = b at hr
    by_cases hw : b < 0
    ·have e : clW rs p b = cl0 := by unfold clW; rw [if_pos hw]
     rw [if_pos hw, e, hn1, if_pos ⟨h0, rfl⟩]
    ·have e : clW rs p b = ⟨b, lastI (ruat rs b.toNat).decls p, (ruat rs b.toNat).lay, wtB (ruat rs b.toNat).tests, b, true⟩ := by unfold clW; rw [if_neg hw]
     have hc : clU (clW rs p b) (ruat rs n).lay (wtB (ruat rs n).tests) n = true ↔ ((ruat rs b.toNat).lay < (ruat rs n).lay ∨ (ruat rs n).lay = (ruat rs b.toNat).lay ∧ wtB (ruat rs b.toNat).tests ≤ wtB (ruat rs n).tests) := by rw [e]; exact clU_three hr.2
     rw [if_neg hw]
     by_cases hx : (ruat rs b.toNat).lay < (ruat rs n).lay ∨ (ruat rs n).lay = (ruat rs b.toNat).lay ∧ wtB (ruat rs b.toNat).tests ≤ wtB (ruat rs n).tests
     ·rw [if_pos ⟨h0, hc.2 hx⟩, if_pos hx, hn1]
     ·rw [if_neg (fun h => hx (hc.1 h.2)), if_neg hx]
   ·have hW : winN l rs x p w s lg bx (n + 1) = winN l rs x p w s lg bx n := by rw [winN, if_neg (fun h => h0 h.2)]
    rw [hW, if_neg (fun h => h0 h.1)]
  ·have hW : winN l rs x p w s lg bx (n + 1) = winN l rs x p w s lg bx n := by rw [winN, if_neg (fun h => hm h.1)]
   rw [hW, if_neg hm, List.append_nil]
   exact ih
theorem claims_cell (l : List Nd) {rs : List Ru} (x w s lg bx : Int) {p : Nat} (hp : p < 33) (hr : rulesB rs = true) : clat (claimsR l rs x w s lg bx) p = clW rs p (winI l rs x p w s lg bx) :=
 win_cell l rs x w s lg bx hp (fun i hi k hk => (((rules_dc hr).2 i hi).2 k hk).1.1) _ (Nat.le_refl _)
section
variable (ok : Nat → Bool) (ev : Nat → Int × Int) (inh : Nat → Bool) (par : List Int)
def gPu (p : Nat) (out : List Int) : List Int := if inh p = true then out.set p (iat par p) else out
def gF : List Nat → List Int → List Int × Int
 | [], out => (out, 0)
 | p :: ps, out => if ok p = true then (if (ev p).2 = 0 then gF ps ((gPu inh par p out).set p (cutV p (ev p).1)) else (zS, (ev p).2)) else gF ps (gPu inh par p out)
def gV (p : Nat) (d : Int) : Int := if ok p = true then cutV p (ev p).1 else if inh p = true then iat par p else d
theorem gV_two (p : Nat) (d : Int) : gV ok ev inh par p (gV ok ev inh par p d) = gV ok ev inh par p d := by
 unfold gV
 repeat' split
 all_goals first | rfl | contradiction
end
section
variable {ok : Nat → Bool} {ev : Nat → Int × Int} {inh : Nat → Bool} {par : List Int}
theorem iat_setg {l : List Int} {p : Nat} (h : p < l.length) (v : Int) (q : Nat) : iat (l.set p v) q = if q = p then v else iat l q := by
 unfold iat
 rw [List.getD_eq_getElem?_getD, List.getD_eq_getElem?_getD, List.getElem?_set]
 by_cases e : p = q
 ·subst e
  simp [h]
 ·simp [e, Ne.symm e]
theorem gPu_len (p : Nat) (out : List Int) : (gPu inh par p out).length = out.length := by
 unfold gPu
 split <;> simp
theorem gPu_iat {p : Nat} {out : List Int} (h : p < out.length) (q : Nat) : iat (gPu inh par p out) q = if q = p then (if inh p = true then iat par p else iat out p) else iat out q := by
 unfold gPu
 split
 ·rw [iat_setg h]
 ·by_cases e : q = p
  ·rw [if_pos e, e]
  ·rw [if_neg e]
theorem gF_good : ∀ (ps : List Nat) (out : List Int), (∀ p ∈ ps, ok p = true → (ev p).2 = 0) → (∀ p ∈ ps, p < out.length) → (gF ok ev inh par ps out).2 = 0 ∧ (gF ok ev inh par ps out).1.length = out.length ∧ ∀ q, iat (gF ok ev inh par ps out).1 q = if q ∈ ps then gV ok ev inh par q (iat out q) else iat out q
 | [], out, _, _ => ⟨rfl, rfl, fun q => by rw [if_neg (by simp)]; rfl⟩
 | p :: ps, out, h, hl => by
  have hp : p < out.length := hl p (by simp)
  have key : ∀ o2 : List Int, o2.length = out.length → (∀ q, iat o2 q = if q = p then gV ok ev inh par q (iat out q) else iat out q) → gF ok ev inh par (p :: ps) out = gF ok ev inh par ps o2 → (gF ok ev inh par (p :: ps) out).2 = 0 ∧ (gF ok ev inh par (p :: ps) out).1.length = out.length ∧ ∀ q, iat (gF ok ev inh par (p :: ps) out).1 q = if q ∈ p :: ps then gV ok ev inh par q (iat out q) else iat out q := by
   intro o2 h2 hi e
   obtain ⟨a, b, c⟩ := gF_good ps o2 (fun q hq => h q (List.mem_cons_of_mem _ hq)) (fun q hq => by rw [h2]; exact hl q (List.mem_cons_of_mem _ hq))
   rw [e]
   refine ⟨a, b.trans h2, fun q => ?_⟩
   rw [c q, hi q]
   by_cases hqp : q = p
   ·rw [if_pos hqp, if_pos (show q ∈ p :: ps by simp [hqp]), gV_two]
    split <;> rfl
   ·rw [if_neg hqp]
    by_cases hm : q ∈ ps
    ·rw [if_pos hm, if_pos (List.mem_cons_of_mem _ hm)]
    ·rw [if_neg hm, if_neg (by simp [hqp, hm])]
  by_cases ho : ok p = true
  ·have he := h p (by simp) ho
   refine key ((gPu inh par p out).set p (cutV p (ev p).1)) (by rw [List.length_set, gPu_len]) (fun q => ?_) (by rw [gF, if_pos ho, if_pos he])
   rw [iat_setg (by rw [gPu_len]; exact hp), gPu_iat hp]
   by_cases e : q = p
   ·rw [if_pos e, if_pos e, e]; unfold gV; rw [if_pos ho]
   ·rw [if_neg e, if_neg e, if_neg e]
  ·refine key (gPu inh par p out) (gPu_len ..) (fun q => ?_) (by rw [gF, if_neg ho])
   rw [gPu_iat hp]
   by_cases e : q = p
   ·rw [if_pos e, if_pos e, e]; unfold gV; rw [if_neg ho]
   ·rw [if_neg e, if_neg e]
theorem gF_bad : ∀ (ps : List Nat) (out : List Int), (∀ p ∈ ps, ok p = true → (ev p).2 = 0 ∨ (ev p).2 = 3) → (¬ ∀ p ∈ ps, ok p = true → (ev p).2 = 0) → gF ok ev inh par ps out = (zS, 3)
 | [], out, _, h => absurd (by simp) h
 | p :: ps, out, he, h => by
  have ih : ∀ o2, ¬ (∀ q ∈ ps, ok q = true → (ev q).2 = 0) → gF ok ev inh par ps o2 = (zS, 3) := fun o2 h2 => gF_bad ps o2 (fun q hq => he q (List.mem_cons_of_mem _ hq)) h2
  rw [gF]
  by_cases ho : ok p = true
  ·rw [if_pos ho]
   by_cases h0 : (ev p).2 = 0
   ·rw [if_pos h0]
    refine ih _ fun h2 => h fun q hq hk => ?_
    rcases List.mem_cons.1 hq with rfl | hq
    ·exact h0
    ·exact h2 q hq hk
   ·rw [if_neg h0]
    have := he p (by simp) ho
    rw [show (ev p).2 = 3 by omega]
  ·rw [if_neg ho]
   refine ih _ fun h2 => h fun q hq hk => ?_
   rcases List.mem_cons.1 hq with rfl | hq
   ·exact absurd hk ho
   ·exact h2 q hq hk
end
theorem ext_iat {l m : List Int} (hl : l.length = m.length) (h : ∀ q, q < l.length → iat l q = iat m q) : l = m := by
 apply List.ext_getElem hl
 intro q h1 h2
 have := h q h1
 unfold iat at this
 rw [List.getD_eq_getElem?_getD, List.getD_eq_getElem?_getD, List.getElem?_eq_getElem h1, List.getElem?_eq_getElem h2] at this
 exact this
theorem iat_drp (l : List Int) (k q : Nat) : iat (l.drop k) q = iat l (k + q) := by
 unfold iat
 rw [List.getD_eq_getElem?_getD, List.getD_eq_getElem?_getD, List.getElem?_drop]
theorem st0_iatB {par : List Int} (h : par.length = 33) {q : Nat} (hq : q < 33) : iat (st0 par) q = if inhB (q : Int) = true then iat par q else iat firstS q := by
 rw [st0_iat h q hq]
 unfold inhB
 by_cases e : 25 ≤ q ∨ q = 8 ∨ q = 9 ∨ q = 10 ∨ q = 11
 ·rw [if_pos e, if_pos (by rw [decide_eq_true_eq]; omega)]
 ·rw [if_neg e, if_neg (by rw [decide_eq_true_eq]; omega)]
def dlst (lo : Nat) : Nat → List Nat
 | 0 => []
 | n + 1 => (lo + n + 1) :: dlst lo n
theorem mem_dlst {lo p : Nat} : ∀ {n : Nat}, p ∈ dlst lo n ↔ lo < p ∧ p ≤ lo + n
 | 0 => by simp [dlst]; try omega
 | n + 1 => by
  rw [dlst, List.mem_cons, mem_dlst (n := n)]
  omega
theorem stF_g (rs : List Ru) (cs : List Cl) (w s : Int) (vs par : List Int) : ∀ (n p : Nat) (out : List Int), stF rs cs w s vs n p out = gF (fun p => (clat cs p).ok) (fun p => evV w s vs (clE rs (clat cs p))) (fun _ => false) par (List.range' p n) out
 | 0, _, _ => rfl
 | n + 1, p, out => by
  have e : gPu (fun _ => false) par p out = out := rfl
  rw [List.range'_succ, gF, stF, e, stF_g rs cs w s vs par n, stF_g rs cs w s vs par n]
section
variable {l : List Nd} {rs : List Ru} {x w s lg bx wd : Int} {par : List Int}
theorem ok_cl (hr : rulesB rs = true) {p : Nat} (hp : p < 33) : (clat (claimsR l rs x w s lg bx) p).ok = true ↔ ¬ winI l rs x p w s lg bx < 0 := by
 rw [claims_cell l x w s lg bx hp hr]
 unfold clW
 split
 ·rename_i h; simp [cl0, h]
 ·rename_i h; simp [h]
theorem dE_cl (hr : rulesB rs = true) {p : Nat} (hp : p < 33) (h : ¬ winI l rs x p w s lg bx < 0) : dE l rs x p w s lg bx = clE rs (clat (claimsR l rs x w s lg bx) p) := by
 rw [claims_cell l x w s lg bx hp hr]
 unfold clW dE winK clE
 rw [if_neg h, if_neg h]
theorem inhS_g (p : Nat) (out : List Int) : inhS par p out = gPu (fun p => inhB (p : Int)) par p out := rfl
theorem rF_g (hr : rulesB rs = true) {p : Nat} (hp : p + 1 < 33) (out : List Int) : rF l rs x w s lg bx wd par (p + 1) out = if (clat (claimsR l rs x w s lg bx) (p + 1)).ok = true then
   (if (evV wd s (vrs (p + 1) par (gPu (fun p => inhB (p : Int)) par (p + 1) out)) (clE rs (clat (claimsR l rs x w s lg bx) (p + 1)))).2 = 0 then rF l rs x w s lg bx wd par p ((gPu (fun p => inhB (p : Int)) par (p + 1) out).set (p + 1) (cutV (p + 1) (evV wd s (vrs (p + 1) par (gPu (fun p => inhB (p : Int)) par (p + 1) out)) (clE rs (clat (claimsR l rs x w s lg bx) (p + 1)))).1))
   else (zS, (evV wd s (vrs (p + 1) par (gPu (fun p => inhB (p : Int)) par (p + 1) out)) (clE rs (clat (claimsR l rs x w s lg bx) (p + 1)))).2))
   else rF l rs x w s lg bx wd par p (gPu (fun p => inhB (p : Int)) par (p + 1) out) := by
 have ho := ok_cl (l := l) (x := x) (w := w) (s := s) (lg := lg) (bx := bx) hr hp
 rw [rF, inhS_g]
 by_cases h : winI l rs x ((p + 1 : Nat) : Int) w s lg bx < 0
 ·rw [if_pos h, if_neg (fun k => ho.1 k h)]
 ·rw [if_neg h, if_pos (ho.2 h), dE_cl hr hp h]
theorem gPu_drop {inh : Nat → Bool} {p : Nat} (h : p < 25) (out : List Int) : (gPu inh par p out).drop 25 = out.drop 25 := by
 unfold gPu
 split
 ·rw [List.drop_set_of_lt h]
 ·rfl
theorem rF_lo (hr : rulesB rs = true) : ∀ n, n ≤ 24 → ∀ out : List Int, rF l rs x w s lg bx wd par n out = gF (fun p => (clat (claimsR l rs x w s lg bx) p).ok) (fun p => evV wd s (out.drop 25) (clE rs (clat (claimsR l rs x w s lg bx) p))) (fun p => inhB (p : Int)) par (dlst 0 n) out
 | 0, _, _ => rfl
 | n + 1, hn, out => by
  have hv : vrs (n + 1) par (gPu (fun p => inhB (p : Int)) par (n + 1) out) = out.drop 25 := by
   unfold vrs
   rw [if_pos (by omega), gPu_drop (by omega)]
  rw [rF_g hr (by omega), hv, rF_lo hr n (by omega), rF_lo hr n (by omega), List.drop_set_of_lt (by omega), gPu_drop (by omega), dlst, gF, Nat.zero_add]
theorem rF_hi (hr : rulesB rs = true) : ∀ n, n ≤ 8 → ∀ out : List Int, rF l rs x w s lg bx wd par (24 + n) out = if (gF (fun p => (clat (claimsR l rs x w s lg bx) p).ok) (fun p => evV wd s (par.drop 25) (clE rs (clat (claimsR l rs x w s lg bx) p))) (fun p => inhB (p : Int)) par (dlst 24 n) out).2 = 0 then rF l rs x w s lg bx wd par 24 (gF (fun p => (clat (claimsR l rs x w s lg bx) p).ok) (fun p => evV wd s (par.drop 25) (clE rs (clat (claimsR l rs x w s lg bx) p))) (fun p => inhB (p : Int)) par (dlst 24 n) out).1 else (zS, (gF (fun p => (clat (claimsR l rs x w s lg bx) p).ok) (fun p => evV wd s (par.drop 25) (clE rs (clat (claimsR l rs x w s lg bx) p))) (fun p => inhB (p : Int)) par (dlst 24 n) out).2)
 | 0, _, _ => by rw [dlst, gF, if_pos rfl]
 | n + 1, hn, out => by
  have hv : ∀ o : List Int, vrs (24 + n + 1) par o = par.drop 25 := fun o => by
   unfold vrs
   rw [if_neg (by omega)]
  rw [show 24 + (n + 1) = 24 + n + 1 from rfl, rF_g hr (by omega), hv, rF_hi hr n (by omega), rF_hi hr n (by omega), dlst, gF]
  by_cases h1 : (clat (claimsR l rs x w s lg bx) (24 + n + 1)).ok = true
  ·rw [if_pos h1, if_pos h1]
   by_cases h2 : (evV wd s (par.drop 25) (clE rs (clat (claimsR l rs x w s lg bx) (24 + n + 1)))).2 = 0
   ·rw [if_pos h2, if_pos h2]
   ·rw [if_neg h2, if_neg h2, if_neg h2]
  ·rw [if_neg h1, if_neg h1]
theorem rF_styI (hr : rulesB rs = true) (hrd : rdB w s lg = true) (hp : parB par = true) (hpl : par.length = 33) (hw : 0 ≤ wd ∧ wd ≤ 1000000) : rF l rs x w s lg bx wd par 32 firstS = styI rs (claimsR l rs x w s lg bx) wd s par := by
 have hs := (rdB_w hrd).2
 have herr : ∀ vs : List Int, vs.all okV = true → ∀ p, (clat (claimsR l rs x w s lg bx) p).ok = true → (evV wd s vs (clE rs (clat (claimsR l rs x w s lg bx) p))).2 = 0 ∨ (evV wd s vs (clE rs (clat (claimsR l rs x w s lg bx) p))).2 = 3 := fun vs hv p h1 => by
  obtain ⟨⟨a, b⟩, c, e⟩ := claims_ok l rs x w s lg bx p h1
  have hx := (((rules_dc hr).2 (clat (claimsR l rs x w s lg bx) p).ru.toNat (by omega)).2 (clat (claimsR l rs x w s lg bx) p).k.toNat (by omega)).2
  exact evV_err hx hs hv hw
 rw [show (32 : Nat) = 24 + 8 from rfl, rF_hi hr 8 (by omega)]
 unfold styI
 have hv1 := drop_ok hp hpl
 have e1 := stF_g rs (claimsR l rs x w s lg bx) wd s (par.drop 25) par 8 25 (st0 par)
 have hok2 : ∀ t, stF rs (claimsR l rs x w s lg bx) wd s (par.drop 25) 8 25 (st0 par) = t → t.2 = 0 → (t.1.drop 25).all okV = true := fun t ht h0 => by
  subst ht
  exact drop_ok (stF_ok _ _ _ (st0_par hpl hp) h0) (stF_len _ _ _ _ _ _ _ _ (st0_len hpl))
 rw [e1] at hok2 ⊢
 have hok2 := hok2 _ rfl
 by_cases hg : ∀ p ∈ dlst 24 8, (clat (claimsR l rs x w s lg bx) p).ok = true → (evV wd s (par.drop 25) (clE rs (clat (claimsR l rs x w s lg bx) p))).2 = 0
 ·obtain ⟨a1, a2, a3⟩ := gF_good (inh := fun p => inhB (p : Int)) (par := par) (dlst 24 8) firstS hg (fun p h => by have := mem_dlst.1 h; rw [firstS_len]; omega)
  obtain ⟨b1, b2, b3⟩ := gF_good (inh := fun _ => false) (par := par) (List.range' 25 8) (st0 par) (fun p h => hg p (by rw [List.mem_range'_1] at h; exact mem_dlst.2 (by omega))) (fun p h => by rw [List.mem_range'_1] at h; rw [st0_len hpl]; omega)
  have hok2 := hok2 b1
  rw [if_pos a1, if_pos b1]
  generalize (gF (fun p => (clat (claimsR l rs x w s lg bx) p).ok) (fun p => evV wd s (par.drop 25) (clE rs (clat (claimsR l rs x w s lg bx) p))) (fun p => inhB (p : Int)) par (dlst 24 8) firstS).1 = o1 at a2 a3 ⊢
  generalize (gF (fun p => (clat (claimsR l rs x w s lg bx) p).ok) (fun p => evV wd s (par.drop 25) (clE rs (clat (claimsR l rs x w s lg bx) p))) (fun _ => false) par (List.range' 25 8) (st0 par)).1 = o2 at b2 b3 hok2 ⊢
  rw [firstS_len] at a2
  rw [st0_len hpl] at b2
  have hhi : ∀ q, 25 ≤ q → q < 33 → iat o1 q = iat o2 q := fun q h1 h2 => by
   rw [a3, b3, if_pos (mem_dlst.2 (by omega)), if_pos (by rw [List.mem_range'_1]; omega)]
   unfold gV
   rw [if_pos (show inhB (q : Int) = true by unfold inhB; rw [decide_eq_true_eq]; omega), if_neg (show ¬ false = true by simp), st0_iatB hpl h2, if_pos (show inhB (q : Int) = true by unfold inhB; rw [decide_eq_true_eq]; omega)]
  have hlo1 : ∀ q, q < 25 → iat o1 q = iat firstS q := fun q h => by rw [a3, if_neg (fun k => by have := mem_dlst.1 k; omega)]
  have hlo2 : ∀ q, q < 25 → iat o2 q = if inhB (q : Int) = true then iat par q else iat firstS q := fun q h => by rw [b3, if_neg (fun k => by rw [List.mem_range'_1] at k; omega), st0_iatB hpl (by omega)]
  have hdr : o1.drop 25 = o2.drop 25 := ext_iat (by rw [List.length_drop, List.length_drop, a2, b2]) fun q hq => by
   rw [List.length_drop] at hq
   rw [iat_drp, iat_drp]
   exact hhi _ (by omega) (by omega)
  rw [rF_lo hr 24 (by omega), stF_g rs (claimsR l rs x w s lg bx) wd s (o2.drop 25) par 24 1 o2, hdr]
  by_cases hg2 : ∀ p ∈ dlst 0 24, (clat (claimsR l rs x w s lg bx) p).ok = true → (evV wd s (o2.drop 25) (clE rs (clat (claimsR l rs x w s lg bx) p))).2 = 0
  ·obtain ⟨c1, c2, c3⟩ := gF_good (inh := fun p => inhB (p : Int)) (par := par) (dlst 0 24) o1 hg2 (fun p h => by have := mem_dlst.1 h; omega)
   obtain ⟨d1, d2, d3⟩ := gF_good (inh := fun _ => false) (par := par) (List.range' 1 24) o2 (fun p h => hg2 p (by rw [List.mem_range'_1] at h; exact mem_dlst.2 (by omega))) (fun p h => by rw [List.mem_range'_1] at h; omega)
   refine Prod.ext (ext_iat (by rw [c2, d2, a2, b2]) fun q hq => ?_) (c1.trans d1.symm)
   rw [c3, d3]
   by_cases hm : 1 ≤ q ∧ q ≤ 24
   ·rw [if_pos (mem_dlst.2 (by omega)), if_pos (by rw [List.mem_range'_1]; omega), hlo1 q (by omega), hlo2 q (by omega)]
    unfold gV
    rw [if_neg (show ¬ false = true by simp)]
   ·rw [if_neg (fun k => by have := mem_dlst.1 k; omega), if_neg (fun k => by rw [List.mem_range'_1] at k; omega)]
    by_cases h0 : q = 0
    ·subst h0
     rw [hlo1 0 (by omega), hlo2 0 (by omega)]
     rfl
    ·exact hhi q (by omega) (by omega)
  ·rw [gF_bad _ _ (fun p _ => herr _ hok2 p) hg2, gF_bad _ _ (fun p _ => herr _ hok2 p) (fun k => hg2 fun p h => k p (by have := mem_dlst.1 h; rw [List.mem_range'_1]; omega))]
 ·rw [gF_bad _ _ (fun p _ => herr _ hv1 p) hg, gF_bad _ _ (fun p _ => herr _ hv1 p) (fun k => hg fun p h => k p (by have := mem_dlst.1 h; rw [List.mem_range'_1]; omega))]
  rfl
theorem sty_eq (hpl : par.length = 33) : rsty l rs x w s lg par wd bx = styR l rs x w s lg par wd bx := by
 unfold rsty styR
 by_cases hg : (treB l = true ∧ rulesB rs = true ∧ idB x = true ∧ rdB w s lg = true) ∧ parB par = true ∧ (0 ≤ wd ∧ wd ≤ 1000000) ∧ isBx bx = true
 ·obtain ⟨⟨h1, h2, h3, h4⟩, h5, h6, h7⟩ := hg
  rw [if_pos ⟨⟨h1, h2, h3, h4⟩, h5, h6, h7⟩, if_pos (show parB par = true ∧ 0 ≤ wd ∧ wd ≤ 1000000 from ⟨h5, h6⟩)]
  have e : ckE l rs x w s lg bx = if 0 ≤ idx l x then 0 else 4 := by
   unfold ckE
   rw [if_pos (ckB_iff.2 ⟨⟨⟨h1, h2⟩, h4⟩, h7⟩), if_pos h3]
  rw [e]
  by_cases hi : idx l x < 0
  ·rw [if_pos hi, if_neg (show ¬ 0 ≤ idx l x by omega)]
   rfl
  ·rw [if_neg hi, if_pos (show 0 ≤ idx l x by omega), if_pos rfl]
   exact rF_styI h2 h4 h5 hpl h6
 ·rw [if_neg hg]
  by_cases h2 : parB par = true ∧ 0 ≤ wd ∧ wd ≤ 1000000
  ·rw [if_pos h2]
   have e : ckE l rs x w s lg bx = 1 := by
    unfold ckE
    by_cases hb : ckB l rs w s lg bx = true
    ·obtain ⟨⟨⟨k1, k2⟩, k4⟩, k7⟩ := ckB_iff.1 hb
     rw [if_pos hb, if_neg (fun k3 => hg ⟨⟨k1, k2, k3, k4⟩, h2.1, h2.2, k7⟩)]
    ·rw [if_neg hb]
   rw [e]
   rfl
  ·rw [if_neg h2]
end
end
section
theorem rst_w (d : Do) (x w s lg : Int) (par : List Int) (wd bx : Int) (hpl : par.length = 33) : PCall Tryz.prog (.func 64) [.ag (dorow d), .int .i64 x, .ag [.int .i64 w, .int .i64 s, .int .i64 lg], .ag (par.map iD), .int .i64 wd, .int .i64 bx] (.tup [.ag ((styR d.nodes d.rules x w s lg par wd bx).1.map iD), .int .i64 (styR d.nodes d.rules x w s lg par wd bx).2]) := by
 have h := rsty_w d x w s lg par wd bx hpl
 rw [sty_eq hpl] at h
 exact h
theorem styR_ix {l : List Nd} {rs : List Ru} {x w s lg : Int} {par : List Int} {wd bx : Int} (h : (styR l rs x w s lg par wd bx).2 = 0) : 0 ≤ idx l x := by
 unfold styR at h
 split at h
 ·split at h
  ·rename_i h1; exact (ckE_zero h1).2.2
  ·rename_i h1; exact absurd h h1
 ·exact absurd h (by simp)
attribute [local go_sem] List.length_map rowAt_n nrow rowAt_t trow rowAt_i irow
attribute [local go_sem] rowAt_e rowAt_tm rowAt_dc rowAt_ru tmrow dcrow rurow
attribute [local go_sem] rowAt_br rowAt_s rowAt_fo rowAt_ve rowAt_g rowAt_k grow krow srow brrow forow dorow verow
attribute [local go_sem] iD_all iD_len rw2_0 rw2_1 rw1_0 Int.toNat_one
attribute [local go_sem] pl_d33 pl_d34 pl_d35 pl_d36 pl_d37 pl_d38 pl_d39 pl_t33 pl_t34 pl_t35 pl_t36 pl_t37 pl_t38 pl_t39 pl_dlt pl_ge pl_len pl_all iD_len iD_all plR plT List.append_assoc firstS_len Nat.zero_add Int.reduceToNat
theorem rout_w (st : List Int) (hl : st.length = 33) (room : Int) : PCall Tryz.prog (.func 65) [.ag (st.map iD), .int .i64 room] (.int .i64 (outV st room)) := by
 have hq4 : (List.map iD (List.drop 4 st)).headD .top = .int .i64 (iat st 4) := hd_i (by omega)
 have hz4 : 1 ≤ (List.drop 4 st).length := by rw [List.length_drop]; omega
 have hq5 : (List.map iD (List.drop 5 st)).headD .top = .int .i64 (iat st 5) := hd_i (by omega)
 have hz5 : 1 ≤ (List.drop 5 st).length := by rw [List.length_drop]; omega
 have hq6 : (List.map iD (List.drop 6 st)).headD .top = .int .i64 (iat st 6) := hd_i (by omega)
 have hz6 : 1 ≤ (List.drop 6 st).length := by rw [List.length_drop]; omega
 refine PCall.le ?_
 refine fn_ Tryz.func65 (by rfl) (by rfl) (rs := [.tmp 4]) (by rfl) (by simp [Tryz.f65]) ?_
 refine sr_ [1, 2] [2] [] fun κ ξ hκ hξ => ?_
 simp +decide only [go_sem]
 refine hκ _ _ ?_
 refine sr_ [1, 2, 5] [] [] fun κ ξ hκ hξ => ?_
 simp +decide only [go_sem, hq4, hz4]
 refine hκ _ _ ?_
 refine sq ?_
 refine sr_ [1, 2, 5, 9] [] [] fun κ ξ hκ hξ => ?_
 simp +decide only [go_sem]
 refine hκ _ _ ?_
 refine cd_ (fun c0 => ?_) (fun c0 => ?_)
 ·try simp only [go_sem] at c0
  refine rr_ [2, 5] [] [] fun κ ξ hκ hξ => ?_
  simp +decide only [go_sem, c0]
  refine hκ _ _ ?_
  refine sq ?_
  refine sr_ [2, 5, 13] [] [] fun κ ξ hκ hξ => ?_
  simp +decide only [go_sem, hq6, hz6]
  refine hκ _ _ ?_
  refine cd_ (fun c1 => ?_) (fun c1 => ?_)
  ·try simp only [go_sem] at c1
   refine rr_ [2, 5] [] [] fun κ ξ hκ hξ => ?_
   simp +decide only [go_sem, hq6, hz6, c1]
   refine hκ _ _ ?_
   refine sr_ [4] [] [] fun κ ξ hκ hξ => ?_
   simp +decide only [go_sem, hq5, hz5]
   refine hκ _ _ ?_
   refine rt ?_
   refine retE ?_
   simp +decide only [go_sem, resD, resV, hl, hq4, hz4, hq5, hz5, hq6, hz6, c0, c1]
   congr 1
   unfold outV
   simp only [*, if_true, if_false]
  ·try simp only [go_sem] at c1
   refine sk ?_
   refine sr_ [4] [] [] fun κ ξ hκ hξ => ?_
   simp +decide only [go_sem, hq5, hz5, c1]
   refine hκ _ _ ?_
   refine rt ?_
   refine retE ?_
   simp +decide only [go_sem, resD, resV, hl, hq4, hz4, hq5, hz5, hq6, hz6, c0, c1]
   congr 1
   unfold outV
   simp only [*, if_true, if_false]
 ·try simp only [go_sem] at c0
  refine sk ?_
  refine sq ?_
  refine sr_ [2, 5, 13] [] [] fun κ ξ hκ hξ => ?_
  simp +decide only [go_sem, hq6, hz6, c0]
  refine hκ _ _ ?_
  refine cd_ (fun c2 => ?_) (fun c2 => ?_)
  ·try simp only [go_sem] at c2
   refine rr_ [2, 5] [] [] fun κ ξ hκ hξ => ?_
   simp +decide only [go_sem, hq6, hz6, c2]
   refine hκ _ _ ?_
   refine sr_ [4] [] [] fun κ ξ hκ hξ => ?_
   simp +decide only [go_sem, hq5, hz5]
   refine hκ _ _ ?_
   refine rt ?_
   refine retE ?_
   simp +decide only [go_sem, resD, resV, hl, hq4, hz4, hq5, hz5, hq6, hz6, c0, c2]
   congr 1
   unfold outV
   simp only [*, if_true, if_false]
  ·try simp only [go_sem] at c2
   refine sk ?_
   refine sr_ [4] [] [] fun κ ξ hκ hξ => ?_
   simp +decide only [go_sem, hq5, hz5, c2]
   refine hκ _ _ ?_
   refine rt ?_
   refine retE ?_
   simp +decide only [go_sem, resD, resV, hl, hq4, hz4, hq5, hz5, hq6, hz6, c0, c2]
   congr 1
   unfold outV
   simp only [*, if_true, if_false]
theorem rown_w (d : Do) (ps : List Int) (t : Tok) (hps : ∀ i, i < ps.length → 0 ≤ idx d.nodes (iat ps i)) (hpm : ps.length ≤ 1000) : PCall Tryz.prog (.func 48) [.ag (dorow d), .sl 1 (ps.map irow) t] (.bool (ps.all fun y => decide (kdAt d.nodes y = 1))) := by
 refine PCall.le ?_
 refine fn_ Tryz.func48 (by rfl) (by rfl) (rs := [.tmp 4]) (by rfl) (by simp [Tryz.f48]) ?_
 refine sr_ [1, 2] [2] [] fun κ ξ hκ hξ => ?_
 simp +decide only [go_sem]
 refine hκ _ _ ?_
 refine sq ?_
 refine sr_ [1, 2, 5] [] [] fun κ ξ hκ hξ => ?_
 simp +decide only [go_sem]
 refine hκ _ _ ?_
 refine bl ?_
 refine lp (α := Nat) (fun i => mk [(1, .sl 1 (ps.map irow) t), (2, .el (dorow d)), (5, .int .i64 i)]) (fun _ => []) (fun i => i ≤ ps.length ∧ ∀ j, j < i → kdAt d.nodes (iat ps j) = 1) (fun i => ps.length - i) 0 ⟨⟨by omega, by intro j hj; omega⟩, EnvLe.of_eq rfl, .refl _⟩ ?_
 rintro i ⟨hi, hj⟩
 refine sq ?_
 refine sr_ [1, 2, 5, 9] [] [] fun κ ξ hκ hξ => ?_
 simp +decide only [go_sem]
 refine hκ _ _ ?_
 refine cd_ (fun c0 => ?_) (fun c0 => ?_)
 ·simp only [go_sem] at c0
  have hx := hps i (by omega)
  obtain ⟨k, hk, hkl⟩ : ∃ k : Nat, idx d.nodes (iat ps i) = (k : Int) ∧ (k : Int) < d.nodes.length := by
   rcases idx_cases d.nodes (iat ps i) with ⟨y, hy1, _, _, hy2⟩ | ⟨_, hy2⟩
   ·exact ⟨y, hy2, by omega⟩
   ·have := hx; omega
  have hk0 : (0 : Int) ≤ (k : Int) := by omega
  have hkd : kdAt d.nodes (iat ps i) = (nat d.nodes k).kind := by unfold kdAt; rw [hk, Int.toNat_natCast]
  refine sk ?_
  refine sq ?_
  refine bl ?_
  refine srd_ [1, 2, 5, 24] [] [20] [] fun κ ξ hκ hξ => ?_
  simp +decide only [go_sem, c0]
  repeat with_reducible refine an_ ?_
  refine scallF (ridx_w _ _ _) ?_
  simp +decide only [go_sem, hk, hkl, hk0]
  refine hκ _ _ ?_
  refine cd_ (fun c1 => ?_) (fun c1 => ?_)
  ·try simp only [go_sem] at c1
   refine sr_ [4] [] [] fun κ ξ hκ hξ => ?_
   simp +decide only [go_sem, c1]
   refine hκ _ _ ?_
   refine rt ?_
   refine retE ?_
   simp +decide only [go_sem, resD, resV, c0, hk, hkl, hk0, c1]
   congr 1
   symm
   rw [← Bool.not_eq_true]
   intro h
   rw [List.all_eq_true] at h
   have := h _ (mem_iat (l := ps) (i := i) (by omega))
   rw [decide_eq_true_eq, hkd] at this
   exact c1 this
  ·try simp only [go_sem] at c1
   refine sk ?_
   refine rr_ [1, 2, 5] [] [] fun κ ξ hκ hξ => ?_
   simp +decide only [go_sem, c1]
   refine hκ _ _ ?_
   refine ⟨i + 1, ⟨⟨by omega, ?_⟩, by omega⟩, EnvLe.of_eq (by rw [w64 (by omega)]; rfl), List.nil_sublist _⟩
   intro j h
   rcases Nat.lt_succ_iff_lt_or_eq.1 h with h | rfl
   ·exact hj j h
   ·rw [hkd]; exact c1
 ·simp only [go_sem] at c0
  refine ex ?_
  refine sr_ [4] [] [] fun κ ξ hκ hξ => ?_
  simp +decide only [go_sem, c0]
  refine hκ _ _ ?_
  refine rt ?_
  refine retE ?_
  simp +decide only [go_sem, resD, resV, c0]
  congr 1
  symm
  rw [List.all_eq_true]
  intro y hy
  obtain ⟨j, hj2, rfl⟩ := List.mem_iff_getElem.1 hy
  rw [decide_eq_true_eq]
  have := hj j (by omega)
  rw [iat, List.getD_eq_getElem?_getD, List.getElem?_eq_getElem hj2] at this
  exact this
theorem ropn_w (d : Do) (x w s lg : Int) : PCall Tryz.prog (.func 31) [.ag (dorow d), .int .i64 x, .ag [.int .i64 w, .int .i64 s, .int .i64 lg]] (.tup [if opE d x w s lg = 0 then .sl 1 ((pthX d.nodes x).map irow) .no else .sl 0 [] .nil, .int .i64 (opE d x w s lg)]) := by
 refine PCall.le ?_
 refine fn_ Tryz.func31 (by rfl) (by rfl) (rs := [.tmp 6, .tmp 7]) (by rfl) (by simp [Tryz.f31]) ?_
 refine sr_ [1, 3, 5] [3, 5] [] fun κ ξ hκ hξ => ?_
 simp +decide only [go_sem]
 refine hκ _ _ ?_
 refine sr_ [1, 3, 5, 8] [] [] fun κ ξ hκ hξ => ?_
 simp +decide only [go_sem]
 refine callF (rcov_w _) ?_
 simp +decide only [go_sem]
 refine hκ _ _ ?_
 refine sr_ [1, 3, 8, 9] [] [] fun κ ξ hκ hξ => ?_
 simp +decide only [go_sem]
 refine callF (rrd_w _ _ _) ?_
 simp +decide only [go_sem]
 refine hκ _ _ ?_
 refine sq ?_
 refine sr_ [1, 3, 24] [] [(2, 16), (6, 20)] fun κ ξ hκ hξ => ?_
 simp +decide only [go_sem]
 refine vo_gc ?_
 simp +decide only [go_sem]
 refine gcF (rid_w _) ?_
 simp +decide only [go_sem]
 refine hκ _ _ ?_
 refine cd_ (fun c0 => ?_) (fun c0 => ?_)
 ·simp only [go_sem] at c0
  refine sr_ [6, 7] [] [] fun κ ξ hκ hξ => ?_
  simp +decide only [go_sem]
  refine hκ _ _ ?_
  refine rt ?_
  refine retE ?_
  simp +decide only [go_sem, resD, resV, c0]
  rw [show opE d x w s lg = 1 by unfold opE; exact if_neg fun h => by rcases c0 with (c | c) | c <;> first | (rw [h.1] at c; cases c) | (rw [h.2.1] at c; cases c) | (rw [h.2.2] at c; cases c)]
  rfl
 ·simp only [go_sem] at c0
  have hv : docB d = true ∧ rdB w s lg = true ∧ idB x = true := ⟨c0.1.1, c0.1.2, c0.2⟩
  refine sk ?_
  refine sq ?_
  refine sr_ [1, 3, 29] [] [] fun κ ξ hκ hξ => ?_
  simp +decide only [go_sem, c0]
  refine callF (ridx_w _ _ _) ?_
  simp +decide only [go_sem]
  refine hκ _ _ ?_
  refine cd_ (fun c1 => ?_) (fun c1 => ?_)
  ·simp only [go_sem] at c1
   refine sr_ [6, 7] [] [] fun κ ξ hκ hξ => ?_
   simp +decide only [go_sem, c1]
   refine hκ _ _ ?_
   refine rt ?_
   refine retE ?_
   simp +decide only [go_sem, resD, resV, c0, c1]
   have hg4 : opE d x w s lg = 4 := by
    unfold opE gerr
    rw [if_pos hv, if_pos (by rw [Bool.and_eq_true]; exact ⟨(docB_tre hv.1).1, hv.2.2⟩), if_neg (by omega)]
   rw [hg4]
   rfl
  ·simp only [go_sem] at c1
   have hg0 : opE d x w s lg = 0 := by
    unfold opE gerr
    rw [if_pos hv, if_pos (by rw [Bool.and_eq_true]; exact ⟨(docB_tre hv.1).1, hv.2.2⟩), if_pos (by omega)]
   obtain ⟨hdb, hrd, hid, htb, hix⟩ := opE_zero hg0
   have hT := treB_true.1 htb
   obtain ⟨hlt, hnx⟩ := idx_in hix
   have hway := way_w d.nodes .no _ hT hlt
   rw [hnx] at hway
   refine sk ?_
   refine sr_ [6, 7] [] [] fun κ ξ hκ hξ => ?_
   simp +decide only [go_sem, c1]
   refine callF hway ?_
   simp +decide only [go_sem]
   refine hκ _ _ ?_
   refine rt ?_
   refine retE ?_
   simp +decide only [go_sem, resD, resV, c0, c1]
   rw [hg0]
   rfl
end
section
section
variable {d : Do} {w s lg : Int}
theorem styC_len (d : Do) (x w s lg : Int) : (styC d x w s lg).1.length = 33 := by
 unfold styC
 split
 ·rfl
 ·split
  ·rfl
  ·exact fnd_len d x w s lg
theorem deq_i {P : Program} {t : TypeId} (ht : (ink P t).isSome = true) : ∀ {a b : List Int}, a.length = b.length → deqF P (List.replicate a.length t) (a.map iD) (b.map iD) = some (decide (a = b))
 | [], [], _ => rfl
 | x :: a, y :: b, h => by
  have ih := deq_i ht (a := a) (b := b) (by simpa using h)
  simp only [List.length_cons, List.replicate_succ, List.map_cons, deqF, iD, deq1]
  rw [if_pos ⟨ht, trivial⟩]
  have ih' : deqF P (List.replicate a.length t) (List.map (fun n => D.int .i64 n) a) (List.map (fun n => D.int .i64 n) b) = some (decide (a = b)) := ih
  show (match some (decide (x = y)), deqF P (List.replicate a.length t) (List.map iD a) (List.map iD b) with | some p, some q => some (p && q) | _, _ => none) = _
  rw [ih]
  simp only [Option.some.injEq]
  by_cases h1 : x = y <;> by_cases h2 : a = b <;> simp [h1, h2]
 | [], _ :: _, h => by simp at h
 | _ :: _, [], h => by simp at h
theorem deq33 {a b : List Int} (ha : a.length = 33) (hb : b.length = 33) : deqF Tryz.prog (List.replicate 33 3) (a.map iD) (b.map iD) = some (decide (a = b)) := by
 have := deq_i (P := Tryz.prog) (t := 3) (by kernel_rfl) (ha.trans hb.symm)
 rwa [ha] at this
end
end
section
end
section
section
variable {d : Do} {w s lg : Int}
end
end
section
section
variable {w s lg : Int}
end
section
variable {w s lg : Int}
end
section
variable {P : Program} {sz n b : Nat} {rows : List (List D)} {o : Option (Nat × Nat)} {x y : Box}
theorem apD_some {c : Nat} : apD sz rows (some (b, c)) = .sl sz rows (.own b c) := by simp only [apD]
def frO (o : Option (Nat × Nat)) (b : Nat) : Prop := ∀ c k, o = some (c, k) → c ≠ b
theorem get_apS (h : frO o b) : (apS sz n o ++ [(b, x)]).get b = some x := by
 cases o with
 | none => simp [apS, Store.get]
 | some p =>
  obtain ⟨c, k⟩ := p
  have : ¬ c = b := h c k rfl
  have h2 : ¬ b = c := fun e => this e.symm
  simp [apS, Store.get, this, h2]
theorem upd_apS (h : frO o b) : (apS sz n o ++ [(b, x)]).upd b y = apS sz n o ++ [(b, y)] := by
 cases o with
 | none => simp [apS, Store.upd]
 | some p =>
  obtain ⟨c, k⟩ := p
  have : ¬ c = b := h c k rfl
  have h2 : ¬ b = c := fun e => this e.symm
  simp [apS, Store.upd, this, h2]
theorem frO_ap (h : frO o b) : apFr o [(b, x)] := by
 intro c k e
 have := h c k e
 simp [Store.keys, this]
end
end
section
attribute [local go_sem] List.length_map rowAt_n nrow rowAt_t trow rowAt_i irow
attribute [local go_sem] rowAt_e rowAt_tm rowAt_dc rowAt_ru tmrow dcrow rurow
attribute [local go_sem] rowAt_br rowAt_s rowAt_fo rowAt_ve rowAt_g rowAt_k grow krow srow brrow forow dorow verow
attribute [local go_sem] iD_all iD_len rw2_0 rw2_1 rw1_0 Int.toNat_one
attribute [local go_sem] pl_d33 pl_d34 pl_d35 pl_d36 pl_d37 pl_d38 pl_d39 pl_t33 pl_t34 pl_t35 pl_t36 pl_t37 pl_t38 pl_t39 pl_dlt pl_ge pl_len pl_all iD_len iD_all plR plT List.append_assoc firstS_len Nat.zero_add Int.reduceToNat
attribute [local go_sem] apD_some get_apS upd_apS
end
section
def rpl (p : Pl) : List D := p.st.map iD ++ [.bool (p.own && decide (p.e = 0)), .int .i64 (if p.own = true ∧ p.e = 0 then innV p.st p.room else 0), .int .i64 p.box, .int .i64 p.wide]
def okS (L : List Pl) : Bool := L.all fun p => decide (p.e = 0)
def inO (o : Option (Nat × Nat)) (b : Nat) : Prop := ∃ k, o = some (b, k)
theorem nk_ap {sz n : Nat} {o : Option (Nat × Nat)} {b c : Nat} {x : Box} : (b ∈ Store.keys (apS sz n o ++ [(c, x)])) = (inO o b ∨ c = b) := by
 cases o with
 | none => simp [apS, Store.keys, inO, eq_comm]
 | some p =>
  obtain ⟨b2, k⟩ := p
  simp only [apS, List.cons_append, List.nil_append, nk_cons, inO]
  simp [Store.keys]
theorem frO2 {o : Option (Nat × Nat)} {b c : Nat} {x y : Box} (h1 : ¬ inO o b) (h2 : ¬ inO o c) : apFr o [(b, x), (c, y)] := by
 intro d k e
 subst e
 simp only [Store.keys, List.map_cons, List.map_nil, List.mem_cons, List.not_mem_nil, or_false, not_or]
 exact ⟨fun e => h1 ⟨k, by rw [e]⟩, fun e => h2 ⟨k, by rw [e]⟩⟩
theorem get_pre {b : Nat} {x : Box} {ρ : Store} : ∀ {π : Store}, b ∉ π.keys → (π ++ (b, x) :: ρ).get b = some x
 | [], _ => by simp [Store.get]
 | (c, y) :: π, h => by
  simp only [Store.keys, List.map_cons, List.mem_cons, not_or] at h
  simp only [List.cons_append, Store.get]
  rw [if_neg h.1]
  exact get_pre h.2
theorem ren_pre {b b' : Nat} {x y : Box} {ρ : Store} : ∀ {π : Store}, b ∉ π.keys → (π ++ (b, x) :: ρ).ren b b' y = π ++ (b', y) :: ρ
 | [], _ => by simp [Store.ren]
 | (c, z) :: π, h => by
  simp only [Store.keys, List.map_cons, List.mem_cons, not_or] at h
  simp only [List.cons_append, Store.ren]
  rw [if_neg h.1, ren_pre h.2]
theorem napp_growP {P : Program} {ts : Array TypeId} {T U V : TypeId} {g : Bool} {sz by_ : Nat} {z : List D} {rows new : List (List D)} {o : Option (Nat × Nat)} {π ρ : Store} {tk : Tok} {n : Nat} {K : D → Store → Prop}
  (hok : apOK rows o) (hfr : apFr o ρ) (hfp : apFr o π) (hn : rows.length = n) (hT : ts[0]? = some T) (hV : ts[1]? = some V) (hV' : (sle P V).isSome = true) (hs : sle P T = some (U, g, sz)) (hy : eby P T = some by_) (hz : zc P U = some z)
  (hside : (z.length = sz ∧ 0 < sz ∧ 0 < by_) ∧ new.all (·.all D.isCell) = true ∧ new ≠ [] ∧ (n + new.length) * by_ ≤ capB)
  (hK : ∀ b c σ', b ∉ ρ.keys → (apS sz (n + new.length) (some (b, c)) ++ ρ).Sublist σ' → K (apD sz (rows ++ new) (some (b, c))) σ') :
  napp P (π ++ (apS sz n o ++ ρ)) ts (apD sz rows o) (.sl sz new tk) K := by
 subst hn
 obtain ⟨⟨h1, h2, h3⟩, h4, h5, h6⟩ := hside
 unfold napp
 cases o with
 | none =>
  have hr := hok rfl
  subst hr
  simp only [hT, hV, hs, hy, hz, apD, apS, rowsOf, Option.bind_some, List.nil_append]
  refine ⟨⟨⟨z, rfl, h1⟩, ⟨V, rfl, .inl hV'⟩, h2, h3, .inl trivial, .inr trivial, h4, h6⟩, fun e => absurd e h5, fun _ b c hb => ?_⟩
  have hb2 : b ∉ ρ.keys := fun h => hb (by unfold Store.keys at h ⊢; rw [List.map_append, List.mem_append]; exact .inr h)
  have := hK b c ((b, .tail sz new.length c) :: (π ++ ρ)) hb2 (by simp only [apS, List.cons_append, List.nil_append, List.length_nil, Nat.zero_add]; exact (List.sublist_append_right π ρ).cons_cons _)
  simpa [apD] using this
 | some x =>
  obtain ⟨b, c⟩ := x
  simp only [hT, hV, hs, hy, hz, apD, apS, rowsOf, Option.bind_some, List.cons_append, List.nil_append]
  have hbp : b ∉ π.keys := hfp b c rfl
  refine ⟨⟨⟨z, rfl, h1⟩, ⟨V, rfl, .inl hV'⟩, h2, h3, .inr trivial, .inr trivial, h4, h6⟩, ⟨trivial, get_pre hbp⟩, fun b' c' hb' => ?_⟩
  rw [ren_pre hbp]
  have hb2 : b' ∉ ρ.keys := by
   rcases hb' with rfl | hb'
   ·exact hfr b' c rfl
   ·intro h
    exact hb' (by unfold Store.keys at h ⊢; rw [List.map_append, List.map_cons, List.mem_append]; exact .inr (List.mem_cons_of_mem _ h))
  have := hK b' c' (π ++ (b', .tail sz (rows.length + new.length) c') :: ρ) hb2 (by simp only [apS, List.cons_append, List.nil_append]; exact List.sublist_append_right π _)
  simpa [apD] using this
attribute [local go_sem] List.length_map rowAt_n nrow rowAt_t trow rowAt_i irow
attribute [local go_sem] rowAt_e rowAt_tm rowAt_dc rowAt_ru tmrow dcrow rurow
attribute [local go_sem] rowAt_br rowAt_s rowAt_fo rowAt_ve rowAt_g rowAt_k grow krow srow brrow forow dorow verow
attribute [local go_sem] iD_all iD_len rw2_0 rw2_1 rw1_0 Int.toNat_one
attribute [local go_sem] pl_d33 pl_d34 pl_d35 pl_d36 pl_d37 pl_d38 pl_d39 pl_t33 pl_t34 pl_t35 pl_t36 pl_t37 pl_t38 pl_t39 pl_dlt pl_ge pl_len pl_all iD_len iD_all plR plT List.append_assoc firstS_len Nat.zero_add Int.reduceToNat
attribute [local go_sem] apD_some get_apS upd_apS nk_ap
theorem rdwn_w (d : Do) (ps : List Int) (t : Tok) (w s lg : Int) (hw : 0 ≤ w ∧ w ≤ 1000000) (hpm : ps.length ≤ 1000) : PCall Tryz.prog (.func 32) [.ag (dorow d), .sl 1 (ps.map irow) t, .ag [.int .i64 w, .int .i64 s, .int .i64 lg]] (.tup [.sl 37 ((plSeq d w s lg (plF w) ps).map rpl) .no, .bool (okS (plSeq d w s lg (plF w) ps))]) := by
 obtain ⟨L, hL⟩ : ∃ L, L = (plSeq d w s lg (plF w) ps) := ⟨_, rfl⟩
 rw [← hL]
 refine PCall.le ?_
 refine fn_ Tryz.func32 (by rfl) (by rfl) (rs := [.tmp 6, .tmp 7]) (by rfl) (by simp [Tryz.f32]) ?_
 refine sr_ [1, 3, 5] [3, 5] [] fun κ ξ hκ hξ => ?_
 simp +decide only [go_sem]
 refine hκ _ _ ?_
 refine sr_ [1, 3, 5, 8] [] [] fun κ ξ hκ hξ => ?_
 simp +decide only [go_sem]
 refine hκ _ _ ?_
 refine sr_ [1, 3, 5, 8, 9] [] [] fun κ ξ hκ hξ => ?_
 simp +decide only [go_sem]
 refine callF (rfrst_w) ?_
 simp +decide only [go_sem]
 intro b9 hb9
 refine hκ _ _ ?_
 refine sr_ [1, 3, 5, 8, 9, 10] [] [] fun κ ξ hκ hξ => ?_
 simp +decide only [go_sem, hb9]
 refine hκ _ _ ?_
 refine sr_ [1, 3, 5, 8, 9, 10, 11] [] [] fun κ ξ hκ hξ => ?_
 simp +decide only [go_sem, hb9]
 refine hκ _ _ ?_
 refine sr_ [1, 3, 5, 8, 9, 10, 11, 12] [] [] fun κ ξ hκ hξ => ?_
 simp +decide only [go_sem, hb9]
 refine hκ _ _ ?_
 refine sr_ [1, 3, 5, 8, 9, 10, 11, 12, 13] [] [] fun κ ξ hκ hξ => ?_
 simp +decide only [go_sem, hb9]
 refine hκ _ _ ?_
 refine sq ?_
 refine sr_ [1, 3, 5, 8, 9, 10, 11, 12, 13, 14] [] [] fun κ ξ hκ hξ => ?_
 simp +decide only [go_sem, hb9]
 refine hκ _ _ ?_
 refine bl ?_
 refine lp (α := Nat × Pl × List Pl × Option (Nat × Nat)) (fun z => mk [(1, .sl 1 (ps.map irow) t), (3, .el (dorow d)), (5, .el [.int .i64 w, .int .i64 s, .int .i64 lg]), (8, apD 37 (z.2.2.1.map rpl) z.2.2.2), (9, .ptr b9 0), (10, .bool z.2.1.own), (11, .int .i64 z.2.1.room), (12, .int .i64 z.2.1.box), (13, .int .i64 z.2.1.wide), (14, .int .i64 z.1)]) (fun z => apS 37 z.1 z.2.2.2 ++ [(b9, .cells (z.2.1.st.map iD))]) (fun z => z.1 ≤ ps.length ∧ L = z.2.2.1 ++ plSeq d w s lg z.2.1 (ps.drop z.1) ∧ z.2.2.1.length = z.1 ∧ okS z.2.2.1 = true ∧ z.2.1.st.length = 33 ∧ (0 ≤ z.2.1.room ∧ z.2.1.room ≤ 1000000) ∧ apOK (z.2.2.1.map rpl) z.2.2.2 ∧ frO z.2.2.2 b9) (fun z => ps.length - z.1) (0, plF w, [], none) ⟨⟨by simp only; omega, hL, rfl, rfl, firstS_len, hw, fun _ => rfl, (fun _ _ h => by cases h)⟩, EnvLe.of_eq rfl, .refl _⟩ ?_
 rintro ⟨i, p, pre, o⟩ ⟨hi, hLp, hpre, hall, hpl, hpr, ho, hfo⟩
 simp only at hi hLp hpre hall hpl hpr ho hfo
 refine sq ?_
 refine sr_ [1, 3, 5, 8, 9, 10, 11, 12, 13, 14, 24] [] [] fun κ ξ hκ hξ => ?_
 simp +decide only [go_sem, hb9]
 refine hκ _ _ ?_
 refine cd_ (fun c0 => ?_) (fun c0 => ?_)
 ·simp only [go_sem] at c0
  have hp33 : List.take 33 p.st = p.st := List.take_of_length_le (by omega)
  have hp33d : List.drop 33 p.st = [] := List.drop_eq_nil_of_le (by omega)
  have hq33 : List.take 33 (styR d.nodes d.rules (iat ps i) w s lg p.st p.room p.wide).1 = (styR d.nodes d.rules (iat ps i) w s lg p.st p.room p.wide).1 := List.take_of_length_le (by rw [styR_len hpl]; exact Nat.le_refl _)
  have hdr : ps.drop i = iat ps i :: ps.drop (i + 1) := by
   rw [List.drop_eq_getElem_cons (by omega), iat, List.getD_eq_getElem?_getD, List.getElem?_eq_getElem (by omega)]; rfl
  have hql : (styR d.nodes d.rules (iat ps i) w s lg p.st p.room p.wide).1.length = 33 := styR_len hpl
  have hseq : plSeq d w s lg p (ps.drop i) = (plStep d w s lg p (iat ps i)) :: if (styR d.nodes d.rules (iat ps i) w s lg p.st p.room p.wide).2 = 0 then plSeq d w s lg (plNext (plStep d w s lg p (iat ps i))) (ps.drop (i + 1)) else [] := by rw [hdr, plSeq]; rfl
  refine sk ?_
  refine sq ?_
  refine bl ?_
  refine sr_ [1, 3, 5, 8, 9, 10, 11, 12, 13, 14, 15] [] [] fun κ ξ hκ hξ => ?_
  simp +decide only [go_sem, hb9, c0]
  intro b15 hb15
  refine hκ _ _ ?_
  refine srd_ [1, 3, 5, 8, 9, 10, 11, 12, 13, 14, 15, 16, 17] [] [40] [] fun κ ξ hκ hξ => ?_
  simp +decide only [go_sem, hb9, hpl, hfo, c0, hp33, hb15]
  repeat with_reducible refine an_ ?_
  refine scallF (rst_w _ _ _ _ _ _ _ _ (by assumption)) ?_
  simp +decide only [go_sem, hb9, hql, hb15]
  intro b16 hb16
  simp +decide only [go_sem, hb9, hb15, hb16]
  refine hκ _ _ ?_
  refine sq ?_
  refine sr_ [1, 3, 5, 8, 9, 10, 11, 12, 13, 14, 15, 16, 44] [] [] fun κ ξ hκ hξ => ?_
  simp +decide only [go_sem, hb9, hb15, hb16]
  refine hκ _ _ ?_
  refine cd_ (fun c1 => ?_) (fun c1 => ?_)
  ·simp only [go_sem] at c1
   refine sr_ [6, 7] [] [] fun κ ξ hκ hξ => ?_
   simp +decide only [go_sem, hb9, hb15, hb16, c1]
   refine napp_growP (o := o) (rows := pre.map rpl) (π := [(b16, _), (b15, _)]) (ρ := [(b9, _)]) ho (frO_ap hfo) (frO2 (by exact hb16.2.1) (by exact hb15.1)) (by rw [List.length_map]; exact hpre) rfl rfl (by simp +decide only [go_sem, Option.isSome_some]) tf331 tf332 tf344 (by refine ⟨⟨rfl, by decide, by decide⟩, by simp +decide only [go_sem], by simp, ?_⟩; simp [capB]; omega) ?_
   intro b48 c48 τ hb48 hsub
   have hfo2 : frO (some (b48, c48)) b9 := fun c k e => by cases e; simpa [Store.keys] using hb48
   simp +decide only [go_sem, hb9, hb15, hb16]
   refine hκ _ _ ?_
   refine rt ?_
   refine retL ?_
   simp +decide only [go_sem, resD, resV, hb9, hpl, hfo, c0, hql, hp33, hp33d, hq33, hb15, hb16, c1]
   have hLe : L = pre ++ [(plStep d w s lg p (iat ps i))] := by rw [hLp, hseq, if_neg c1]
   have hrow : rpl (plStep d w s lg p (iat ps i)) = zS.map iD ++ [.bool false, .int .i64 0, .int .i64 p.box, .int .i64 p.wide] := by
    unfold rpl plStep
    simp only [styR_out c1]
    simp [c1]
   have hok : okS L = false := by
    rw [hLe]
    unfold okS
    rw [List.all_append]
    simp [plStep, c1]
   rw [hok, hLe, List.map_append, List.map_cons, List.map_nil, hrow]
   exact DLe.tup ⟨DLe.tok _ _ _, DLe.refl _, trivial⟩
  ·simp only [go_sem] at c1
   have he0 := c1
   have hqp := styR_ok hpl he0
   obtain ⟨k, hk, hkl⟩ : ∃ k : Nat, idx d.nodes (iat ps i) = (k : Int) ∧ (k : Int) < d.nodes.length := by
    rcases idx_cases d.nodes (iat ps i) with ⟨y, hy1, _, _, hy2⟩ | ⟨_, hy2⟩
    ·exact ⟨y, hy2, by omega⟩
    ·have := styR_ix he0; omega
   have hk0 : (0 : Int) ≤ (k : Int) := by omega
   have hkd : kdAt d.nodes (iat ps i) = (nat d.nodes k).kind := by unfold kdAt; rw [hk, Int.toNat_natCast]
   have hL2 : L = (pre ++ [(plStep d w s lg p (iat ps i))]) ++ plSeq d w s lg (plNext (plStep d w s lg p (iat ps i))) (ps.drop (i + 1)) := by rw [hLp, hseq, if_pos he0, List.append_assoc]; rfl
   have hall2 : okS (pre ++ [(plStep d w s lg p (iat ps i))]) = true := by
    unfold okS at hall ⊢
    rw [List.all_append, hall, Bool.true_and, List.all_cons, List.all_nil, Bool.and_true]
    exact decide_eq_true he0
   have hov := outV_lim hqp hql hpr
   have h3v := iat_pos hqp (p := 3) (by omega)
   have hw1 : IntKind.wrap .i64 (2 * iat (styR d.nodes d.rules (iat ps i) w s lg p.st p.room p.wide).1 3) = 2 * iat (styR d.nodes d.rules (iat ps i) w s lg p.st p.room p.wide).1 3 := w64 (by omega)
   have hw2 : IntKind.wrap .i64 (outV (styR d.nodes d.rules (iat ps i) w s lg p.st p.room p.wide).1 p.room - 2 * iat (styR d.nodes d.rules (iat ps i) w s lg p.st p.room p.wide).1 3) = outV (styR d.nodes d.rules (iat ps i) w s lg p.st p.room p.wide).1 p.room - 2 * iat (styR d.nodes d.rules (iat ps i) w s lg p.st p.room p.wide).1 3 := w64 (by omega)
   have hq3 : (List.map iD (List.drop 3 (styR d.nodes d.rules (iat ps i) w s lg p.st p.room p.wide).1)).headD .top = .int .i64 (iat (styR d.nodes d.rules (iat ps i) w s lg p.st p.room p.wide).1 3) := hd_i (by omega)
   have hz3 : 1 ≤ (List.drop 3 (styR d.nodes d.rules (iat ps i) w s lg p.st p.room p.wide).1).length := by rw [List.length_drop]; omega
   have hq21 : (List.map iD (List.drop 21 (styR d.nodes d.rules (iat ps i) w s lg p.st p.room p.wide).1)).headD .top = .int .i64 (iat (styR d.nodes d.rules (iat ps i) w s lg p.st p.room p.wide).1 21) := hd_i (by omega)
   have hz21 : 1 ≤ (List.drop 21 (styR d.nodes d.rules (iat ps i) w s lg p.st p.room p.wide).1).length := by rw [List.length_drop]; omega
   refine sk ?_
   refine srd_ [1, 3, 5, 8, 9, 10, 11, 12, 13, 14, 15, 16] [] [59] [(1, 50)] fun κ ξ hκ hξ => ?_
   simp +decide only [go_sem, hb9, c0, hb15, hb16, c1]
   repeat with_reducible refine an_ ?_
   refine vd_gc (by rfl) ?_
   simp +decide only [go_sem, hb9, hb15, hb16]
   refine gcF (ridx_w _ _ _) ?_
   simp +decide only [go_sem, hb9, hb15, hb16, hk, hkl, hk0]
   refine hκ _ _ ?_
   refine sr_ [1, 3, 5, 8, 9, 10, 11, 12, 13, 14, 15, 16] [] [] fun κ ξ hκ hξ => ?_
   simp +decide only [go_sem, hb9, hql, hq33, hb15, hb16]
   refine hκ _ _ ?_
   refine sr_ [1, 3, 5, 8, 9, 10, 11, 12, 13, 14, 15, 16] [] [] fun κ ξ hκ hξ => ?_
   simp +decide only [go_sem, hb9, hql, hb15, hb16]
   refine hκ _ _ ?_
   refine sq ?_
   refine sr_ [1, 3, 5, 8, 9, 10, 11, 12, 13, 14, 15, 16, 69] [] [] fun κ ξ hκ hξ => ?_
   simp +decide only [go_sem, hb9, hb15, hb16]
   refine hκ _ _ ?_
   refine cd_ (fun c2 => ?_) (fun c2 => ?_)
   ·try simp only [go_sem] at c2
    refine srd_ [1, 3, 5, 8, 9, 10, 12, 13, 14, 15, 16] [] [72] [] fun κ ξ hκ hξ => ?_
    simp +decide only [go_sem, hb9, hql, hq33, hb15, hb16, c2]
    refine scallF (rout_w _ (by assumption) _) ?_
    simp +decide only [go_sem, hb9, hql, hb15, hb16, hw1, hw2, hq3, hz3]
    refine hκ _ _ ?_
    refine sr_ [1, 3, 5, 8, 9, 10, 11, 12, 13, 14, 15, 16] [] [] fun κ ξ hκ hξ => ?_
    simp +decide only [go_sem, hb9, hql, hb15, hb16]
    refine hκ _ _ ?_
    refine sr_ [1, 3, 5, 8, 9, 10, 11, 12, 13, 14, 15, 16, 83] [] [] fun κ ξ hκ hξ => ?_
    simp +decide only [go_sem, hb9, hb15, hb16, hq21, hz21]
    refine hκ _ _ ?_
    refine cd_ (fun c3 => ?_) (fun c3 => ?_)
    ·try simp only [go_sem] at c3
     refine sr_ [1, 3, 5, 8, 9, 10, 11, 12, 14, 15, 16] [] [] fun κ ξ hκ hξ => ?_
     simp +decide only [go_sem, hb9, c0, hb15, hb16, c3]
     repeat with_reducible refine an_ ?_
     refine hκ _ _ ?_
     refine rr_ [1, 3, 5, 8, 9, 10, 11, 12, 13, 14, 15, 16] [] [] fun κ ξ hκ hξ => ?_
     simp +decide only [go_sem, hb9, hql, hb15, hb16]
     refine hκ _ _ ?_
     refine sr_ [1, 3, 5, 8, 9, 10, 11, 12, 13, 14, 15] [] [] fun κ ξ hκ hξ => ?_
     simp +decide only [go_sem, hb9, hpl, hfo, hql, hp33d, hq33, hb15, hb16]
     refine hκ _ _ ?_
     refine rr_ [1, 3, 5, 8, 9, 10, 11, 12, 13, 14] [] [] fun κ ξ hκ hξ => ?_
     simp +decide only [go_sem, hb9, hql, hb15, hb16]
     refine napp_growP (o := o) (rows := pre.map rpl) (π := [(b16, _), (b15, _)]) (ρ := [(b9, _)]) ho (frO_ap hfo) (frO2 (by exact hb16.2.1) (by exact hb15.1)) (by rw [List.length_map]; exact hpre) rfl rfl (by simp +decide only [go_sem, Option.isSome_some]) tf331 tf332 tf344 (by refine ⟨⟨rfl, by decide, by decide⟩, by simp +decide only [go_sem], by simp, ?_⟩; simp [capB]; omega) ?_
     intro b94 c94 τ hb94 hsub
     have hfo2 : frO (some (b94, c94)) b9 := fun c k e => by cases e; simpa [Store.keys] using hb94
     simp +decide only [go_sem, hb9, hb15, hb16]
     refine hκ _ _ ?_
     refine weak _ (EnvLe.refl _) (σ' := _) hsub ?_
     refine rr_ [1, 3, 5, 8, 9, 10, 11, 12, 13, 14] [] [] fun κ ξ hκ hξ => ?_
     simp +decide only [go_sem, hb9, hb15, hb16]
     refine hκ _ _ ?_
     have hpn : plNext (plStep d w s lg p (iat ps i)) = ⟨(styR d.nodes d.rules (iat ps i) w s lg p.st p.room p.wide).1, iat ps i, (innV (styR d.nodes d.rules (iat ps i) w s lg p.st p.room p.wide).1 p.room), iat ps i, (innV (styR d.nodes d.rules (iat ps i) w s lg p.st p.room p.wide).1 p.room), true, 0⟩ := by
      unfold plNext plStep
      simp only [hkd]
      rw [if_pos (by simp [c2.1, c2.2]), if_pos c3, he0, c2.1, c2.2]; rfl
     have hrow : rpl (plStep d w s lg p (iat ps i)) = (styR d.nodes d.rules (iat ps i) w s lg p.st p.room p.wide).1.map iD ++ [.bool true, .int .i64 (innV (styR d.nodes d.rules (iat ps i) w s lg p.st p.room p.wide).1 p.room), .int .i64 p.box, .int .i64 p.wide] := by
      unfold rpl plStep
      simp only [hkd, he0]
      simp [c2]
     refine ⟨(i + 1, ⟨(styR d.nodes d.rules (iat ps i) w s lg p.st p.room p.wide).1, iat ps i, (innV (styR d.nodes d.rules (iat ps i) w s lg p.st p.room p.wide).1 p.room), iat ps i, (innV (styR d.nodes d.rules (iat ps i) w s lg p.st p.room p.wide).1 p.room), true, 0⟩, pre ++ [(plStep d w s lg p (iat ps i))], some (b94, c94)), ⟨⟨by simp only; omega, by simp only; rw [← hpn]; exact hL2, by simp [hpre], hall2, hql, innV_lim hqp hql hpr, (show apOK _ (some _) from fun h => by cases h), hfo2⟩, by simp only; omega⟩, EnvLe.of_eq ?_, ?_⟩
     ·rw [w64 (n := (i : Int) + 1) (by omega)]
      simp only [List.map_append, List.map_cons, List.map_nil, hrow]
      rfl
     ·exact .refl _
    ·try simp only [go_sem] at c3
     refine sk ?_
     refine sr_ [1, 3, 5, 8, 9, 10, 11, 12, 13, 14, 15] [] [] fun κ ξ hκ hξ => ?_
     simp +decide only [go_sem, hb9, hpl, hfo, hql, hp33d, hq33, hb15, hb16, c3]
     refine hκ _ _ ?_
     refine rr_ [1, 3, 5, 8, 9, 10, 11, 12, 13, 14] [] [] fun κ ξ hκ hξ => ?_
     simp +decide only [go_sem, hb9, hql, hb15, hb16]
     refine napp_growP (o := o) (rows := pre.map rpl) (π := [(b16, _), (b15, _)]) (ρ := [(b9, _)]) ho (frO_ap hfo) (frO2 (by exact hb16.2.1) (by exact hb15.1)) (by rw [List.length_map]; exact hpre) rfl rfl (by simp +decide only [go_sem, Option.isSome_some]) tf331 tf332 tf344 (by refine ⟨⟨rfl, by decide, by decide⟩, by simp +decide only [go_sem], by simp, ?_⟩; simp [capB]; omega) ?_
     intro b94 c94 τ hb94 hsub
     have hfo2 : frO (some (b94, c94)) b9 := fun c k e => by cases e; simpa [Store.keys] using hb94
     simp +decide only [go_sem, hb9, hb15, hb16]
     refine hκ _ _ ?_
     refine weak _ (EnvLe.refl _) (σ' := _) hsub ?_
     refine rr_ [1, 3, 5, 8, 9, 10, 11, 12, 13, 14] [] [] fun κ ξ hκ hξ => ?_
     simp +decide only [go_sem, hb9, hb15, hb16]
     refine hκ _ _ ?_
     have hpn : plNext (plStep d w s lg p (iat ps i)) = ⟨(styR d.nodes d.rules (iat ps i) w s lg p.st p.room p.wide).1, iat ps i, (innV (styR d.nodes d.rules (iat ps i) w s lg p.st p.room p.wide).1 p.room), p.box, p.wide, true, 0⟩ := by
      unfold plNext plStep
      simp only [hkd]
      rw [if_pos (by simp [c2.1, c2.2]), if_neg c3, he0, c2.1, c2.2]; rfl
     have hrow : rpl (plStep d w s lg p (iat ps i)) = (styR d.nodes d.rules (iat ps i) w s lg p.st p.room p.wide).1.map iD ++ [.bool true, .int .i64 (innV (styR d.nodes d.rules (iat ps i) w s lg p.st p.room p.wide).1 p.room), .int .i64 p.box, .int .i64 p.wide] := by
      unfold rpl plStep
      simp only [hkd, he0]
      simp [c2]
     refine ⟨(i + 1, ⟨(styR d.nodes d.rules (iat ps i) w s lg p.st p.room p.wide).1, iat ps i, (innV (styR d.nodes d.rules (iat ps i) w s lg p.st p.room p.wide).1 p.room), p.box, p.wide, true, 0⟩, pre ++ [(plStep d w s lg p (iat ps i))], some (b94, c94)), ⟨⟨by simp only; omega, by simp only; rw [← hpn]; exact hL2, by simp [hpre], hall2, hql, innV_lim hqp hql hpr, (show apOK _ (some _) from fun h => by cases h), hfo2⟩, by simp only; omega⟩, EnvLe.of_eq ?_, ?_⟩
     ·rw [w64 (n := (i : Int) + 1) (by omega)]
      simp only [List.map_append, List.map_cons, List.map_nil, hrow]
      rfl
     ·exact .refl _
   ·try simp only [go_sem] at c2
    refine sk ?_
    refine sr_ [1, 3, 5, 8, 9, 10, 11, 12, 13, 14, 15] [] [] fun κ ξ hκ hξ => ?_
    simp +decide only [go_sem, hb9, hpl, hfo, hql, hp33d, hq33, hb15, hb16]
    refine hκ _ _ ?_
    refine rr_ [1, 3, 5, 8, 9, 10, 11, 12, 13, 14] [] [] fun κ ξ hκ hξ => ?_
    simp +decide only [go_sem, hb9, hql, hb15, hb16]
    refine napp_growP (o := o) (rows := pre.map rpl) (π := [(b16, _), (b15, _)]) (ρ := [(b9, _)]) ho (frO_ap hfo) (frO2 (by exact hb16.2.1) (by exact hb15.1)) (by rw [List.length_map]; exact hpre) rfl rfl (by simp +decide only [go_sem, Option.isSome_some]) tf331 tf332 tf344 (by refine ⟨⟨rfl, by decide, by decide⟩, by simp +decide only [go_sem], by simp, ?_⟩; simp [capB]; omega) ?_
    intro b94 c94 τ hb94 hsub
    have hfo2 : frO (some (b94, c94)) b9 := fun c k e => by cases e; simpa [Store.keys] using hb94
    simp +decide only [go_sem, hb9, hb15, hb16]
    refine hκ _ _ ?_
    refine weak _ (EnvLe.refl _) (σ' := _) hsub ?_
    refine rr_ [1, 3, 5, 8, 9, 10, 11, 12, 13, 14] [] [] fun κ ξ hκ hξ => ?_
    simp +decide only [go_sem, hb9, hb15, hb16]
    refine hκ _ _ ?_
    have hpn : plNext (plStep d w s lg p (iat ps i)) = ⟨(styR d.nodes d.rules (iat ps i) w s lg p.st p.room p.wide).1, iat ps i, p.room, p.box, p.wide, p.own && decide ((nat d.nodes k).kind = 1), 0⟩ := by
     unfold plNext plStep
     simp only [hkd]
     rw [if_neg (by rcases c2 with c | c <;> simp [c]), he0]
    have hrow : rpl (plStep d w s lg p (iat ps i)) = (styR d.nodes d.rules (iat ps i) w s lg p.st p.room p.wide).1.map iD ++ [.bool (p.own && decide ((nat d.nodes k).kind = 1)), .int .i64 0, .int .i64 p.box, .int .i64 p.wide] := by
     unfold rpl plStep
     simp only [hkd, he0]
     rcases c2 with c | c <;> simp [c]
    refine ⟨(i + 1, ⟨(styR d.nodes d.rules (iat ps i) w s lg p.st p.room p.wide).1, iat ps i, p.room, p.box, p.wide, p.own && decide ((nat d.nodes k).kind = 1), 0⟩, pre ++ [(plStep d w s lg p (iat ps i))], some (b94, c94)), ⟨⟨by simp only; omega, by simp only; rw [← hpn]; exact hL2, by simp [hpre], hall2, hql, hpr, (show apOK _ (some _) from fun h => by cases h), hfo2⟩, by simp only; omega⟩, EnvLe.of_eq ?_, ?_⟩
    ·rw [w64 (n := (i : Int) + 1) (by omega)]
     simp only [List.map_append, List.map_cons, List.map_nil, hrow]
     rfl
    ·exact .refl _
 ·simp only [go_sem] at c0
  refine ex ?_
  refine sr_ [6, 7] [] [] fun κ ξ hκ hξ => ?_
  simp +decide only [go_sem, hb9, c0]
  refine hκ _ _ ?_
  refine rt ?_
  refine retL ?_
  simp +decide only [go_sem, resD, resV, hb9, hpl, hfo, c0]
  have hLe : L = pre := by
   rw [hLp, show i = ps.length by omega, List.drop_length, plSeq, List.append_nil]
  rw [hLe, hall]
  exact DLe.tup ⟨apD_le 37 ho, DLe.refl _, trivial⟩
end
section
section
variable {d : Do} {w s lg : Int}
def plat (L : List Pl) (i : Nat) : Pl := L.getD i pl0
theorem rowAt_p {L : List Pl} {i : Nat} (h : (i : Int) < (L.length : Int)) : rowAt (L.map rpl) i = rpl (plat L i) := rowAt_map rpl _ h
theorem plat_mem {L : List Pl} {i : Nat} (h : i < L.length) : plat L i ∈ L := by
 unfold plat
 rw [List.getD_eq_getElem?_getD, List.getElem?_eq_getElem h]
 exact List.getElem_mem h
theorem lastP_at {L : List Pl} {m : Nat} (h : L.length = m + 1) : lastP L = plat L m := by
 have hne : L ≠ [] := fun e => by rw [e] at h; simp at h
 have := lastP_get hne
 rw [h, Nat.add_sub_cancel] at this
 unfold plat
 rw [List.getD_eq_getElem?_getD, this]
 rfl
def hidL (L : List Pl) : Bool := L.dropLast.any fun p => decide (iat p.st 24 = 1)
theorem hid_yes {L : List Pl} {i : Nat} (h : i + 1 < L.length) (h2 : iat (plat L i).st 24 = 1) : hidL L = true := by
 unfold hidL
 rw [List.any_eq_true]
 refine ⟨plat L i, ?_, decide_eq_true h2⟩
 have hd : i < L.dropLast.length := by rw [List.length_dropLast]; omega
 have : L.dropLast[i]'hd = plat L i := by
  rw [List.getElem_dropLast, plat, List.getD_eq_getElem?_getD, List.getElem?_eq_getElem (by omega)]; rfl
 rw [← this]
 exact List.getElem_mem hd
theorem hid_no {L : List Pl} (h : ∀ j, j + 1 < L.length → ¬ iat (plat L j).st 24 = 1) : hidL L = false := by
 unfold hidL
 rw [List.any_eq_false]
 intro p hp
 obtain ⟨j, hj, e⟩ := List.mem_iff_getElem.1 hp
 rw [List.length_dropLast] at hj
 have := h j (by omega)
 rw [plat, List.getD_eq_getElem?_getD, List.getElem?_eq_getElem (by omega)] at this
 rw [List.getElem_dropLast] at e
 rw [← e, decide_eq_true_eq]
 exact this
theorem oks_last : ∀ (xs : List Int) (p : Pl), xs ≠ [] → okS (plSeq d w s lg p xs) = decide ((lastP (plSeq d w s lg p xs)).e = 0) ∧ ((lastP (plSeq d w s lg p xs)).e = 0 → (plSeq d w s lg p xs).length = xs.length)
 | [], _, h => absurd rfl h
 | [a], p, _ => by
  have e1 : plSeq d w s lg p [a] = [plStep d w s lg p a] := by
   rw [plSeq, plSeq]; split <;> rfl
  rw [e1]
  exact ⟨by show (decide _ && true) = _; rw [Bool.and_true]; rfl, fun _ => rfl⟩
 | a :: b :: xs, p, _ => by
  rw [plSeq]
  by_cases h : (plStep d w s lg p a).e = 0
  ·rw [if_pos h, lastP_cons plSeq_ne]
   obtain ⟨h1, h2⟩ := oks_last (b :: xs) (plNext (plStep d w s lg p a)) (by simp)
   refine ⟨?_, fun he => by rw [List.length_cons, h2 he]; rfl⟩
   rw [← h1]
   unfold okS
   rw [List.all_cons, decide_eq_true h, Bool.true_and]
  ·rw [if_neg h]
   exact ⟨by simp [okS, lastP, h], fun he => absurd he (by simpa [lastP] using h)⟩
def LN (d : Do) (w s lg : Int) (i : Nat) : List Pl := plSeq d w s lg (plF w) (pathL d.nodes i)
theorem LN_ne (i : Nat) : LN d w s lg i ≠ [] := by
 unfold LN
 cases e : pathL d.nodes i with
 | nil => exact absurd e (pathL_ne _ _)
 | cons a l => exact plSeq_ne
theorem LN_ok (i : Nat) : okS (LN d w s lg i) = decide ((lastP (LN d w s lg i)).e = 0) ∧ ((lastP (LN d w s lg i)).e = 0 → (LN d w s lg i).length = (pathL d.nodes i).length) := oks_last _ _ (pathL_ne _ _)
theorem LN_st (i : Nat) : ∀ q ∈ LN d w s lg i, q.st.length = 33 := plSeq_len _ _ firstS_len
theorem LN_fnd {i : Nat} (hd : docB d = true) (hr : rdB w s lg = true) (hi : i < d.nodes.length) : fndR d (nat d.nodes i).id w s lg = if (LN d w s lg i).length = (pathL d.nodes i).length then (lastP (LN d w s lg i), 0) else (pl0, 3) := fnd_eq hd hr hi
theorem LN_good {i : Nat} (hd : docB d = true) (hr : rdB w s lg = true) (hi : i < d.nodes.length) (h : okS (LN d w s lg i) = true) : fndR d (nat d.nodes i).id w s lg = (lastP (LN d w s lg i), 0) ∧ (lastP (LN d w s lg i)).e = 0 := by
 have he := of_decide_eq_true ((LN_ok i).1.symm.trans h)
 exact ⟨by rw [LN_fnd hd hr hi, if_pos ((LN_ok i).2 he)], he⟩
theorem LN_bad {i : Nat} (hd : docB d = true) (hr : rdB w s lg = true) (hi : i < d.nodes.length) (h : okS (LN d w s lg i) = false) : fndR d (nat d.nodes i).id w s lg = (pl0, 3) ∨ ((fndR d (nat d.nodes i).id w s lg).2 = 0 ∧ (fndR d (nat d.nodes i).id w s lg).1.st = zS ∧ (fndR d (nat d.nodes i).id w s lg).1.e = 3) := by
 have he := of_decide_eq_false ((LN_ok i).1.symm.trans h)
 have hf := LN_fnd (w := w) (s := s) (lg := lg) hd hr hi
 rcases fnd_all hd hr i hi with ⟨h2, hg⟩ | hb
 ·right
  have h1 : (fndR d (nat d.nodes i).id w s lg).1.e ≠ 0 := by
   rw [hf] at h2 ⊢
   split at h2
   ·rename_i hl; rw [if_pos hl]; exact he
   ·simp at h2
  exact ⟨h2, hg.out h1, by have := hg.e; omega⟩
 ·exact .inl hb
theorem ref_sty_ok {i m : Nat} (hd : docB d = true) (hr : rdB w s lg = true) (hi : i < d.nodes.length) (h : okS (LN d w s lg i) = true) (hm : (LN d w s lg i).length = m + 1) : styC d (nat d.nodes i).id w s lg = ((plat (LN d w s lg i) m).st, 0) := by
 obtain ⟨h1, h2⟩ := LN_good hd hr hi h
 rw [styC_of hd hr hi (by rw [h1]), h1, ← lastP_at hm]
 exact Prod.ext rfl h2
theorem ref_sty_bad {i : Nat} (hd : docB d = true) (hr : rdB w s lg = true) (hi : i < d.nodes.length) (h : okS (LN d w s lg i) = false) : styC d (nat d.nodes i).id w s lg = (zS, 3) := by
 rcases LN_bad hd hr hi h with hb | ⟨h2, h3, h4⟩
 ·exact styC_bad hb
 ·rw [styC_of hd hr hi h2, h3, h4]
theorem ref_inn_ok {i m : Nat} (hd : docB d = true) (hr : rdB w s lg = true) (hi : i < d.nodes.length) (hb : blkB d (nat d.nodes i).id = true) (h : okS (LN d w s lg i) = true) (hm : (LN d w s lg i).length = m + 1) : innC d (nat d.nodes i).id w s lg = ((if (plat (LN d w s lg i) m).own = true ∧ (plat (LN d w s lg i) m).e = 0 then innV (plat (LN d w s lg i) m).st (plat (LN d w s lg i) m).room else 0), 0) := by
 obtain ⟨h1, h2⟩ := LN_good hd hr hi h
 have h3 : (fndR d (nat d.nodes i).id w s lg).2 = 0 := by rw [h1]
 rcases fnd_all hd hr i hi with ⟨_, hg⟩ | hx
 ·have ho := hg.own
  rw [h1, hb] at ho
  rw [innC_of hd hr hi hb h3 (by rw [h1]; exact h2), h1, ← lastP_at hm, if_pos ⟨ho, h2⟩]
 ·rw [hx] at h3; simp at h3
theorem ref_inn_bad {i : Nat} (hd : docB d = true) (hr : rdB w s lg = true) (hi : i < d.nodes.length) (hb : blkB d (nat d.nodes i).id = true) (h : okS (LN d w s lg i) = false) : innC d (nat d.nodes i).id w s lg = (0, 3) := by
 unfold innC
 rw [if_neg (fun k => k (opE_node hd hr hi)), if_neg (by rw [hb]; simp)]
 rcases LN_bad hd hr hi h with hx | ⟨h2, h3, h4⟩
 ·rw [hx, if_pos (by simp)]
 ·rw [if_neg (fun k => k h2), if_pos (by rw [h4]; simp), h4]
theorem ref_box_bad {i : Nat} (hd : docB d = true) (hr : rdB w s lg = true) (hi : i < d.nodes.length) (h : (LN d w s lg i).length < (pathL d.nodes i).length) : boxC d (nat d.nodes i).id w s lg = (0, 0, false, 3) := by
 unfold boxC
 rw [LN_fnd hd hr hi, if_neg (Nat.ne_of_lt h), if_pos (.inl (by simp))]
theorem ref_box_ok {i m : Nat} (hd : docB d = true) (hr : rdB w s lg = true) (hi : i < d.nodes.length) (h : ¬ (LN d w s lg i).length < (pathL d.nodes i).length) (hm : (LN d w s lg i).length = m + 1) : boxC d (nat d.nodes i).id w s lg = if (plat (LN d w s lg i) m).box = 0 then (0, 0, false, 0) else ((plat (LN d w s lg i) m).box, (plat (LN d w s lg i) m).wide, true, 0) := by
 have hle : (LN d w s lg i).length ≤ (pathL d.nodes i).length := plSeq_le _ _
 have hf : fndR d (nat d.nodes i).id w s lg = (plat (LN d w s lg i) m, 0) := by rw [LN_fnd hd hr hi, if_pos (by omega), lastP_at hm]
 unfold boxC
 rw [hf]
 by_cases h0 : (plat (LN d w s lg i) m).box = 0
 ·rw [if_pos h0, if_pos (.inr h0)]
 ·rw [if_neg h0, if_neg (by rintro (k | k) <;> first | exact k rfl | exact h0 k)]
theorem hid_eq (hd : docB d = true) (hr : rdB w s lg = true) : ∀ i, i < d.nodes.length → hidL (LN d w s lg i) = parH d w s lg i := by
 intro i
 induction i using Nat.strongRecOn with
 | ind i ih =>
  intro hi
  unfold parH
  by_cases h : 0 ≤ pix d.nodes i
  ·have hj := pix_lt' h
   have ih := ih _ hj (by omega)
   rw [if_pos h, hidB_eq, ← ih]
   have hle : (LN d w s lg (pix d.nodes i).toNat).length ≤ (pathL d.nodes (pix d.nodes i).toNat).length := plSeq_le _ _
   have hf := LN_fnd (w := w) (s := s) (lg := lg) (i := (pix d.nodes i).toNat) hd hr (by omega)
   have hne := LN_ne (d := d) (w := w) (s := s) (lg := lg) (pix d.nodes i).toNat
   have hdr : (LN d w s lg (pix d.nodes i).toNat) = (LN d w s lg (pix d.nodes i).toNat).dropLast ++ [lastP (LN d w s lg (pix d.nodes i).toNat)] := by
    unfold lastP
    rw [List.getLast?_eq_some_getLast hne, Option.getD_some, List.dropLast_concat_getLast]
   have hs : LN d w s lg i = if (lastP (LN d w s lg (pix d.nodes i).toNat)).e = 0 ∧ (LN d w s lg (pix d.nodes i).toNat).length = (pathL d.nodes (pix d.nodes i).toNat).length then LN d w s lg (pix d.nodes i).toNat ++ [plStep d w s lg (plNext (lastP (LN d w s lg (pix d.nodes i).toNat))) (nat d.nodes i).id] else LN d w s lg (pix d.nodes i).toNat := by
    unfold LN
    rw [pathL_up h]
    exact plSeq_snoc _ _ _ (pathL_ne _ _)
   have hz : iat zS 24 = 0 := rfl
   rw [hs]
   by_cases hc : (lastP (LN d w s lg (pix d.nodes i).toNat)).e = 0 ∧ (LN d w s lg (pix d.nodes i).toNat).length = (pathL d.nodes (pix d.nodes i).toNat).length
   ·rw [if_pos hc]
    unfold hideB
    rw [hf, if_pos hc.2]
    have e : hidL (LN d w s lg (pix d.nodes i).toNat ++ [plStep d w s lg (plNext (lastP (LN d w s lg (pix d.nodes i).toNat))) (nat d.nodes i).id]) = (LN d w s lg (pix d.nodes i).toNat).any fun p => decide (iat p.st 24 = 1) := by
     unfold hidL
     rw [List.dropLast_concat]
    rw [e, hdr, List.any_append, List.any_cons, List.any_nil, Bool.or_false, ← hdr]
    show (hidL _ || _) = _
    cases hidL (LN d w s lg (pix d.nodes i).toNat) <;> simp
   ·rw [if_neg hc]
    have e : hideB d w s lg (pix d.nodes i).toNat = false := by
     unfold hideB
     rw [decide_eq_false_iff_not]
     have hst : (fndR d (nat d.nodes (pix d.nodes i).toNat).id w s lg).1.st = zS := by
      rcases fnd_all hd hr (pix d.nodes i).toNat (by omega) with ⟨h2, hg⟩ | hb
      ·refine hg.out ?_
       rw [hf] at h2 ⊢
       split at h2
       ·rename_i hl; rw [if_pos hl]; exact fun k => hc ⟨k, hl⟩
       ·simp at h2
      ·rw [hb]; rfl
     rw [hst, hz]
     omega
    rw [e]
    cases hidL (LN d w s lg (pix d.nodes i).toNat) <;> rfl
  ·rw [if_neg h]
   have e1 : LN d w s lg i = [plStep d w s lg (plF w) (nat d.nodes i).id] := by
    unfold LN
    rw [pathL_root h, plSeq, plSeq]; split <;> rfl
   rw [e1]
   rfl
theorem flag24 {st : List Int} (h : parB st = true) : iat st 24 = 0 ∨ iat st 24 = 1 := by
 have := parB_iff.1 h 24 (by omega)
 rw [← this, cut_fl rfl]
 split <;> simp
theorem ref_ck {i m : Nat} (hd : docB d = true) (hr : rdB w s lg = true) (hi : i < d.nodes.length) (hm : (LN d w s lg i).length = m + 1) : ckN d w s lg i = if hidL (LN d w s lg i) = true then 0 else if okS (LN d w s lg i) = false then 3 else if (iat (plat (LN d w s lg i) m).st 24 = 0 ∧ iat (plat (LN d w s lg i) m).st 21 = 1) ∧ ((plat (LN d w s lg i) m).own && decide ((plat (LN d w s lg i) m).e = 0)) = false then 21 else 0 := by
 unfold ckN
 rw [hid_eq hd hr i hi]
 by_cases hp : parH d w s lg i = true
 ·rw [if_pos hp, if_pos hp]
 ·rw [if_neg hp, if_neg hp]
  by_cases ho : okS (LN d w s lg i) = false
  ·rw [if_pos ho]
   rcases LN_bad hd hr hi ho with hx | ⟨h2, h3, h4⟩
   ·rw [hx, if_pos (by simp)]
   ·rw [if_neg (fun k => k h2), if_pos (by rw [h4]; simp), h4]
  ·rw [if_neg ho]
   obtain ⟨h1, h2⟩ := LN_good hd hr hi (by simpa using ho)
   have h0 : (fndR d (nat d.nodes i).id w s lg).2 = 0 := by rw [h1]
   obtain ⟨_, _, _, hpb, _⟩ := fnd_ok h0
   have hpb := flag24 (hpb (by rw [h1]; exact h2))
   rw [if_neg (fun k => k h0), if_neg (fun k => k (by rw [h1]; exact h2))]
   unfold hideB
   rw [h1, lastP_at hm] at *
   simp only at hpb ⊢
   rw [h2, decide_eq_true rfl, Bool.and_true]
   have e : (decide (iat (plat (LN d w s lg i) m).st 24 = 1) = false) ↔ iat (plat (LN d w s lg i) m).st 24 = 0 := by
    rw [decide_eq_false_iff_not]; omega
   simp only [e, and_assoc]
end
end
section
attribute [local go_sem] List.length_map rowAt_n nrow rowAt_t trow rowAt_i irow
attribute [local go_sem] rowAt_e rowAt_tm rowAt_dc rowAt_ru tmrow dcrow rurow
attribute [local go_sem] rowAt_br rowAt_s rowAt_fo rowAt_ve rowAt_g rowAt_k grow krow srow brrow forow dorow verow
attribute [local go_sem] iD_all iD_len rw2_0 rw2_1 rw1_0 Int.toNat_one
attribute [local go_sem] pl_d33 pl_d34 pl_d35 pl_d36 pl_d37 pl_d38 pl_d39 pl_t33 pl_t34 pl_t35 pl_t36 pl_t37 pl_t38 pl_t39 pl_dlt pl_ge pl_len pl_all iD_len iD_all plR plT List.append_assoc firstS_len Nat.zero_add Int.reduceToNat
attribute [local go_sem] rowAt_p rpl
theorem rhid_w (L : List Pl) (t : Tok) (hLs : ∀ q ∈ L, q.st.length = 33) (hLm : L.length ≤ 1000) : PCall Tryz.prog (.func 51) [.sl 37 (L.map rpl) t] (.bool (hidL L)) := by
 refine PCall.le ?_
 refine fn_ Tryz.func51 (by rfl) (by rfl) (rs := [.tmp 2]) (by rfl) (by simp [Tryz.f51]) ?_
 refine sr_ [0] [] [] fun κ ξ hκ hξ => ?_
 simp +decide only [go_sem]
 refine hκ _ _ ?_
 refine sq ?_
 refine sr_ [0, 3] [] [] fun κ ξ hκ hξ => ?_
 simp +decide only [go_sem]
 refine hκ _ _ ?_
 refine bl ?_
 refine lp (α := Nat) (fun i => mk [(0, .sl 37 (L.map rpl) t), (3, .int .i64 i)]) (fun _ => []) (fun i => i ≤ L.length ∧ ∀ j, j < i → j + 1 < L.length → ¬ iat (plat L j).st 24 = 1) (fun i => L.length - i) 0 ⟨⟨by omega, by intro j hj; omega⟩, EnvLe.of_eq rfl, .refl _⟩ ?_
 rintro i ⟨hi, hj⟩
 have hwi : IntKind.wrap .i64 ((i : Int) + 1) = (i : Int) + 1 := w64 (by omega)
 refine sq ?_
 refine sr_ [0, 3, 8] [] [] fun κ ξ hκ hξ => ?_
 simp +decide only [go_sem, hwi]
 refine hκ _ _ ?_
 refine cd_ (fun c0 => ?_) (fun c0 => ?_)
 ·simp only [go_sem] at c0
  have hi2 : (i : Int) < (L.length : Int) := by omega
  have hi0 : (0 : Int) ≤ (i : Int) := by omega
  have hls : (plat L i).st.length = 33 := hLs _ (plat_mem (by omega))
  have hq24 : (List.map iD (List.drop 24 (plat L i).st)).headD .top = .int .i64 (iat (plat L i).st 24) := hd_i (by omega)
  have hz24 : 1 ≤ (List.drop 24 (plat L i).st).length := by rw [List.length_drop]; omega
  refine sk ?_
  refine sq ?_
  refine bl ?_
  refine sr_ [0, 3, 17] [] [] fun κ ξ hκ hξ => ?_
  simp +decide only [go_sem, c0, hi2, hi0, hls]
  refine hκ _ _ ?_
  refine cd_ (fun c1 => ?_) (fun c1 => ?_)
  ·try simp only [go_sem] at c1
   refine sr_ [2] [] [] fun κ ξ hκ hξ => ?_
   simp +decide only [go_sem, c1]
   refine hκ _ _ ?_
   refine rt ?_
   refine retE ?_
   simp +decide only [go_sem, resD, resV, hwi, c0, hi2, hi0, hls, hq24, hz24, c1]
   rw [hid_yes (i := i) (by omega) c1]
  ·try simp only [go_sem] at c1
   refine sk ?_
   refine rr_ [0, 3] [] [] fun κ ξ hκ hξ => ?_
   simp +decide only [go_sem, hwi, c1]
   refine hκ _ _ ?_
   refine ⟨i + 1, ⟨⟨by omega, ?_⟩, by omega⟩, EnvLe.of_eq rfl, .refl _⟩
   intro j h h2
   rcases Nat.lt_succ_iff_lt_or_eq.1 h with h | rfl
   ·exact hj j h h2
   ·exact c1
 ·simp only [go_sem] at c0
  refine ex ?_
  refine sr_ [2] [] [] fun κ ξ hκ hξ => ?_
  simp +decide only [go_sem, c0]
  refine hκ _ _ ?_
  refine rt ?_
  refine retE ?_
  simp +decide only [go_sem, resD, resV, hwi, c0]
  rw [hid_no fun j h => hj j (by omega) h]
theorem rsty16_w (d : Do) (x w s lg : Int) : PCall Tryz.prog (.func 12) [.ag (dorow d), .int .i64 x, .ag [.int .i64 w, .int .i64 s, .int .i64 lg]] (.tup [.ag ((styC d x w s lg).1.map iD), .int .i64 (styC d x w s lg).2]) := by
 refine PCall.le ?_
 refine fn_ Tryz.func12 (by rfl) (by rfl) (rs := [.cell 6 33, .tmp 7]) (by rfl) (by simp [Tryz.f12]) ?_
 refine sr_ [1, 3, 5, 6] [3, 5] [] fun κ ξ hκ hξ => ?_
 simp +decide only [go_sem]
 intro b6 hb6
 refine hκ _ _ ?_
 refine weak _ (EnvLe.refl _) (σ' := [(b6, .cells (zS.map iD))]) (.refl _) ?_
 refine sr_ [3, 5, 6, 8, 9] [] [] fun κ ξ hκ hξ => ?_
 simp +decide only [go_sem, hb6]
 refine callF (ropn_w _ _ _ _ _) ?_
 simp +decide only [go_sem, hb6]
 refine hκ _ _ ?_
 refine sq ?_
 refine sr_ [3, 5, 6, 8, 9, 20] [] [] fun κ ξ hκ hξ => ?_
 simp +decide only [go_sem, hb6]
 refine hκ _ _ ?_
 refine cd_ (fun c0 => ?_) (fun c0 => ?_)
 ·simp only [go_sem] at c0
  refine sr_ [6, 7] [] [] fun κ ξ hκ hξ => ?_
  simp +decide only [go_sem, zS_end, hb6, c0]
  refine hκ _ _ ?_
  refine rt ?_
  refine retE ?_
  simp +decide only [go_sem, resD, resV, zS_end, hb6, c0]
  have hf : fndR d x w s lg = (pl0, opE d x w s lg) := by unfold fndR; exact if_pos c0
  have e : styC d x w s lg = (zS, opE d x w s lg) := by unfold styC; rw [hf, if_pos c0]
  rw [e]
  try rfl
 ·simp only [go_sem] at c0
  obtain ⟨hdb, hrd, hid, htb, hix⟩ := opE_zero c0
  have hT := treB_true.1 htb
  obtain ⟨hlt, hnx⟩ := idx_in hix
  obtain ⟨i, hi, rfl⟩ : ∃ i, i < d.nodes.length ∧ (nat d.nodes i).id = x := ⟨_, hlt, hnx⟩
  have hpx := idx_pth hT hi
  have hw6 : 0 ≤ w ∧ w ≤ 1000000 := by have := rdB_w hrd; omega
  have hp30 := path_len hT hi
  have hpm : (pathL d.nodes i).length ≤ 1000 := by omega
  have hps : ∀ j, j < (pathL d.nodes i).length → 0 ≤ idx d.nodes (iat (pathL d.nodes i) j) := fun j hj => (path_ok hT hi (mem_iat hj)).2
  have hbk : ((pathL d.nodes i).all fun y => decide (kdAt d.nodes y = 1)) = blkB d (nat d.nodes i).id := by unfold blkB; rw [hpx]
  have hne := LN_ne (d := d) (w := w) (s := s) (lg := lg) i
  have hLN : plSeq d w s lg (plF w) (pathL d.nodes i) = LN d w s lg i := rfl
  have hLst := LN_st (d := d) (w := w) (s := s) (lg := lg) i
  have hle : (LN d w s lg i).length ≤ (pathL d.nodes i).length := plSeq_le _ _
  have hlm : (LN d w s lg i).length ≤ 1000 := by omega
  obtain ⟨m, hm⟩ : ∃ m, (LN d w s lg i).length = m + 1 := ⟨(LN d w s lg i).length - 1, by have := List.length_pos_iff.2 hne; omega⟩
  have hml : (m : Int) < ((LN d w s lg i).length : Int) := by omega
  have hm0 : (0 : Int) ≤ (m : Int) := by omega
  have hwl : IntKind.wrap .i64 (((LN d w s lg i).length : Int) - 1) = (m : Int) := by rw [w64 (by omega)]; omega
  have hls : (plat (LN d w s lg i) m).st.length = 33 := hLst _ (plat_mem (by omega))
  have hls33 : List.take 33 (plat (LN d w s lg i) m).st = (plat (LN d w s lg i) m).st := List.take_of_length_le (by omega)
  refine sk ?_
  refine sr_ [6, 10, 11] [] [] fun κ ξ hκ hξ => ?_
  simp +decide only [go_sem, hb6, c0, hpx]
  refine callF (rdwn_w _ _ _ _ _ _ (by assumption) (by assumption)) ?_
  simp +decide only [go_sem, hb6, hLN]
  refine hκ _ _ ?_
  refine sq ?_
  refine sr_ [6, 10, 31] [] [] fun κ ξ hκ hξ => ?_
  simp +decide only [go_sem, hb6]
  refine hκ _ _ ?_
  refine cd_ (fun c1 => ?_) (fun c1 => ?_)
  ·try simp only [go_sem] at c1
   refine sr_ [6, 7] [] [] fun κ ξ hκ hξ => ?_
   simp +decide only [go_sem, zS_end, hb6, c1]
   refine hκ _ _ ?_
   refine rt ?_
   refine retE ?_
   simp +decide only [go_sem, resD, resV, zS_end, hb6, c0, hpx, hLN, hml, hm0, hwl, hls, hls33, hbk, c1]
   rw [ref_sty_bad hdb hrd hi (by simpa using c1)]
   try rfl
  ·try simp only [go_sem] at c1
   refine sk ?_
   refine sr_ [6, 7] [] [] fun κ ξ hκ hξ => ?_
   simp +decide only [go_sem, zS_end, hb6, hml, hm0, hwl, hls, c1]
   refine hκ _ _ ?_
   refine rt ?_
   refine retE ?_
   simp +decide only [go_sem, resD, resV, zS_end, hb6, c0, hpx, hLN, hml, hm0, hwl, hls, hls33, hbk, c1]
   rw [ref_sty_ok hdb hrd hi (by simpa using c1) hm]
   try rfl
theorem rinn_w (d : Do) (x w s lg : Int) : PCall Tryz.prog (.func 16) [.ag (dorow d), .int .i64 x, .ag [.int .i64 w, .int .i64 s, .int .i64 lg]] (.tup [.int .i64 (innC d x w s lg).1, .int .i64 (innC d x w s lg).2]) := by
 refine PCall.le ?_
 refine fn_ Tryz.func16 (by rfl) (by rfl) (rs := [.tmp 6, .tmp 7]) (by rfl) (by simp [Tryz.f16]) ?_
 refine sr_ [1, 3, 5] [3, 5] [] fun κ ξ hκ hξ => ?_
 simp +decide only [go_sem]
 refine hκ _ _ ?_
 refine sr_ [3, 5, 8, 9] [] [] fun κ ξ hκ hξ => ?_
 simp +decide only [go_sem]
 refine callF (ropn_w _ _ _ _ _) ?_
 simp +decide only [go_sem]
 refine hκ _ _ ?_
 refine sq ?_
 refine sr_ [3, 5, 8, 9, 20] [] [] fun κ ξ hκ hξ => ?_
 simp +decide only [go_sem]
 refine hκ _ _ ?_
 refine cd_ (fun c0 => ?_) (fun c0 => ?_)
 ·simp only [go_sem] at c0
  refine sr_ [6, 7] [] [] fun κ ξ hκ hξ => ?_
  simp +decide only [go_sem, c0]
  refine hκ _ _ ?_
  refine rt ?_
  refine retE ?_
  simp +decide only [go_sem, resD, resV, c0]
  have e : innC d x w s lg = (0, opE d x w s lg) := by unfold innC; exact if_pos c0
  rw [e]
  try rfl
 ·simp only [go_sem] at c0
  obtain ⟨hdb, hrd, hid, htb, hix⟩ := opE_zero c0
  have hT := treB_true.1 htb
  obtain ⟨hlt, hnx⟩ := idx_in hix
  obtain ⟨i, hi, rfl⟩ : ∃ i, i < d.nodes.length ∧ (nat d.nodes i).id = x := ⟨_, hlt, hnx⟩
  have hpx := idx_pth hT hi
  have hw6 : 0 ≤ w ∧ w ≤ 1000000 := by have := rdB_w hrd; omega
  have hp30 := path_len hT hi
  have hpm : (pathL d.nodes i).length ≤ 1000 := by omega
  have hps : ∀ j, j < (pathL d.nodes i).length → 0 ≤ idx d.nodes (iat (pathL d.nodes i) j) := fun j hj => (path_ok hT hi (mem_iat hj)).2
  have hbk : ((pathL d.nodes i).all fun y => decide (kdAt d.nodes y = 1)) = blkB d (nat d.nodes i).id := by unfold blkB; rw [hpx]
  have hne := LN_ne (d := d) (w := w) (s := s) (lg := lg) i
  have hLN : plSeq d w s lg (plF w) (pathL d.nodes i) = LN d w s lg i := rfl
  have hLst := LN_st (d := d) (w := w) (s := s) (lg := lg) i
  have hle : (LN d w s lg i).length ≤ (pathL d.nodes i).length := plSeq_le _ _
  have hlm : (LN d w s lg i).length ≤ 1000 := by omega
  obtain ⟨m, hm⟩ : ∃ m, (LN d w s lg i).length = m + 1 := ⟨(LN d w s lg i).length - 1, by have := List.length_pos_iff.2 hne; omega⟩
  have hml : (m : Int) < ((LN d w s lg i).length : Int) := by omega
  have hm0 : (0 : Int) ≤ (m : Int) := by omega
  have hwl : IntKind.wrap .i64 (((LN d w s lg i).length : Int) - 1) = (m : Int) := by rw [w64 (by omega)]; omega
  have hls : (plat (LN d w s lg i) m).st.length = 33 := hLst _ (plat_mem (by omega))
  have hls33 : List.take 33 (plat (LN d w s lg i) m).st = (plat (LN d w s lg i) m).st := List.take_of_length_le (by omega)
  refine sk ?_
  refine sq ?_
  refine sr_ [3, 5, 8, 25] [] [] fun κ ξ hκ hξ => ?_
  simp +decide only [go_sem, c0, hpx]
  refine callF (rown_w _ _ _ (by assumption) (by assumption)) ?_
  simp +decide only [go_sem, hbk]
  refine hκ _ _ ?_
  refine cd_ (fun c1 => ?_) (fun c1 => ?_)
  ·try simp only [go_sem] at c1
   refine sr_ [6, 7] [] [] fun κ ξ hκ hξ => ?_
   simp +decide only [go_sem, c1]
   refine hκ _ _ ?_
   refine rt ?_
   refine retE ?_
   simp +decide only [go_sem, resD, resV, c0, hpx, hLN, hml, hm0, hwl, hls, hls33, hbk, c1]
   have e : innC d (nat d.nodes i).id w s lg = (0, 25) := by unfold innC; rw [if_neg (fun h => h c0), if_pos (by simpa using c1)]
   rw [e]
   try rfl
  ·try simp only [go_sem] at c1
   refine sk ?_
   refine sr_ [10, 11] [] [] fun κ ξ hκ hξ => ?_
   simp +decide only [go_sem, c1]
   refine callF (rdwn_w _ _ _ _ _ _ (by assumption) (by assumption)) ?_
   simp +decide only [go_sem, hLN]
   refine hκ _ _ ?_
   refine sq ?_
   refine sr_ [10, 34] [] [] fun κ ξ hκ hξ => ?_
   simp +decide only [go_sem]
   refine hκ _ _ ?_
   refine cd_ (fun c2 => ?_) (fun c2 => ?_)
   ·try simp only [go_sem] at c2
    refine sr_ [6, 7] [] [] fun κ ξ hκ hξ => ?_
    simp +decide only [go_sem, c2]
    refine hκ _ _ ?_
    refine rt ?_
    refine retE ?_
    simp +decide only [go_sem, resD, resV, c0, hpx, hLN, hml, hm0, hwl, hls, hls33, hbk, c1, c2]
    rw [ref_inn_bad hdb hrd hi (by simpa using c1) (by simpa using c2)]
    try rfl
   ·try simp only [go_sem] at c2
    refine sk ?_
    refine sr_ [6, 7] [] [] fun κ ξ hκ hξ => ?_
    simp +decide only [go_sem, hml, hm0, hwl, hls, c2]
    refine hκ _ _ ?_
    refine rt ?_
    refine retE ?_
    simp +decide only [go_sem, resD, resV, c0, hpx, hLN, hml, hm0, hwl, hls, hls33, hbk, c1, c2]
    rw [ref_inn_ok hdb hrd hi (by simpa using c1) (by simpa using c2) hm]
    try rfl
theorem rbox_w (d : Do) (x w s lg : Int) : PCall Tryz.prog (.func 18) [.ag (dorow d), .int .i64 x, .ag [.int .i64 w, .int .i64 s, .int .i64 lg]] (.tup [.int .i64 (boxC d x w s lg).1, .int .i64 (boxC d x w s lg).2.1, .bool (boxC d x w s lg).2.2.1, .int .i64 (boxC d x w s lg).2.2.2]) := by
 refine PCall.le ?_
 refine fn_ Tryz.func18 (by rfl) (by rfl) (rs := [.tmp 6, .tmp 7, .tmp 8, .tmp 9]) (by rfl) (by simp [Tryz.f18]) ?_
 refine sr_ [1, 3, 5] [3, 5] [] fun κ ξ hκ hξ => ?_
 simp +decide only [go_sem]
 refine hκ _ _ ?_
 refine sr_ [3, 5, 10, 11] [] [] fun κ ξ hκ hξ => ?_
 simp +decide only [go_sem]
 refine callF (ropn_w _ _ _ _ _) ?_
 simp +decide only [go_sem]
 refine hκ _ _ ?_
 refine sq ?_
 refine sr_ [3, 5, 10, 11, 23] [] [] fun κ ξ hκ hξ => ?_
 simp +decide only [go_sem]
 refine hκ _ _ ?_
 refine cd_ (fun c0 => ?_) (fun c0 => ?_)
 ·simp only [go_sem] at c0
  refine sr_ [6, 7, 8, 9] [] [] fun κ ξ hκ hξ => ?_
  simp +decide only [go_sem, c0]
  refine hκ _ _ ?_
  refine rt ?_
  refine retE ?_
  simp +decide only [go_sem, resD, resV, c0]
  have hf : fndR d x w s lg = (pl0, opE d x w s lg) := by unfold fndR; exact if_pos c0
  have e : boxC d x w s lg = (0, 0, false, opE d x w s lg) := by unfold boxC; rw [hf, if_pos (.inl c0)]
  rw [e]
  try rfl
 ·simp only [go_sem] at c0
  obtain ⟨hdb, hrd, hid, htb, hix⟩ := opE_zero c0
  have hT := treB_true.1 htb
  obtain ⟨hlt, hnx⟩ := idx_in hix
  obtain ⟨i, hi, rfl⟩ : ∃ i, i < d.nodes.length ∧ (nat d.nodes i).id = x := ⟨_, hlt, hnx⟩
  have hpx := idx_pth hT hi
  have hw6 : 0 ≤ w ∧ w ≤ 1000000 := by have := rdB_w hrd; omega
  have hp30 := path_len hT hi
  have hpm : (pathL d.nodes i).length ≤ 1000 := by omega
  have hps : ∀ j, j < (pathL d.nodes i).length → 0 ≤ idx d.nodes (iat (pathL d.nodes i) j) := fun j hj => (path_ok hT hi (mem_iat hj)).2
  have hbk : ((pathL d.nodes i).all fun y => decide (kdAt d.nodes y = 1)) = blkB d (nat d.nodes i).id := by unfold blkB; rw [hpx]
  have hne := LN_ne (d := d) (w := w) (s := s) (lg := lg) i
  have hLN : plSeq d w s lg (plF w) (pathL d.nodes i) = LN d w s lg i := rfl
  have hLst := LN_st (d := d) (w := w) (s := s) (lg := lg) i
  have hle : (LN d w s lg i).length ≤ (pathL d.nodes i).length := plSeq_le _ _
  have hlm : (LN d w s lg i).length ≤ 1000 := by omega
  obtain ⟨m, hm⟩ : ∃ m, (LN d w s lg i).length = m + 1 := ⟨(LN d w s lg i).length - 1, by have := List.length_pos_iff.2 hne; omega⟩
  have hml : (m : Int) < ((LN d w s lg i).length : Int) := by omega
  have hm0 : (0 : Int) ≤ (m : Int) := by omega
  have hwl : IntKind.wrap .i64 (((LN d w s lg i).length : Int) - 1) = (m : Int) := by rw [w64 (by omega)]; omega
  have hls : (plat (LN d w s lg i) m).st.length = 33 := hLst _ (plat_mem (by omega))
  have hls33 : List.take 33 (plat (LN d w s lg i) m).st = (plat (LN d w s lg i) m).st := List.take_of_length_le (by omega)
  refine sk ?_
  refine sr_ [10, 12] [] [] fun κ ξ hκ hξ => ?_
  simp +decide only [go_sem, c0, hpx]
  refine callF (rdwn_w _ _ _ _ _ _ (by assumption) (by assumption)) ?_
  simp +decide only [go_sem, hLN]
  refine hκ _ _ ?_
  refine sq ?_
  refine sr_ [12, 36] [] [] fun κ ξ hκ hξ => ?_
  simp +decide only [go_sem]
  refine hκ _ _ ?_
  refine cd_ (fun c1 => ?_) (fun c1 => ?_)
  ·try simp only [go_sem] at c1
   refine sr_ [6, 7, 8, 9] [] [] fun κ ξ hκ hξ => ?_
   simp +decide only [go_sem, c1]
   refine hκ _ _ ?_
   refine rt ?_
   refine retE ?_
   simp +decide only [go_sem, resD, resV, c0, hpx, hLN, hml, hm0, hwl, hls, hls33, hbk, c1]
   rw [ref_box_bad hdb hrd hi (by omega)]
   try rfl
  ·try simp only [go_sem] at c1
   refine sk ?_
   refine srz_ [(14, [])] [14] [] [] fun κ ξ hκ hξ => ?_
   simp +decide only [go_sem, hml, hm0, hwl, hls, c1]
   intro b14 hb14
   refine hκ _ _ ?_
   refine sq ?_
   refine sr_ [14, 45] [] [] fun κ ξ hκ hξ => ?_
   simp +decide only [go_sem, hls, hb14]
   refine hκ _ _ ?_
   refine cd_ (fun c2 => ?_) (fun c2 => ?_)
   ·try simp only [go_sem] at c2
    refine sr_ [6, 7, 8, 9] [] [] fun κ ξ hκ hξ => ?_
    simp +decide only [go_sem, hb14, c2]
    refine hκ _ _ ?_
    refine rt ?_
    refine retE ?_
    simp +decide only [go_sem, resD, resV, c0, hpx, hLN, hml, hm0, hwl, hls, hls33, hbk, c1, hb14, c2]
    rw [ref_box_ok hdb hrd hi (by omega) hm, if_pos c2]
    try rfl
   ·try simp only [go_sem] at c2
    refine sk ?_
    refine srd_ [6, 7, 8, 9] [] [] [] fun κ ξ hκ hξ => ?_
    simp +decide only [go_sem, hls, hb14, c2]
    refine hκ _ _ ?_
    refine rt ?_
    refine retE ?_
    simp +decide only [go_sem, resD, resV, c0, hpx, hLN, hml, hm0, hwl, hls, hls33, hbk, c1, hb14, c2]
    rw [ref_box_ok hdb hrd hi (by omega) hm, if_neg c2]
    try rfl
end
section
attribute [local go_sem] List.length_map rowAt_n nrow rowAt_t trow rowAt_i irow
attribute [local go_sem] rowAt_e rowAt_tm rowAt_dc rowAt_ru tmrow dcrow rurow
attribute [local go_sem] rowAt_br rowAt_s rowAt_fo rowAt_ve rowAt_g rowAt_k grow krow srow brrow forow dorow verow
attribute [local go_sem] iD_all iD_len rw2_0 rw2_1 rw1_0 Int.toNat_one
attribute [local go_sem] pl_d33 pl_d34 pl_d35 pl_d36 pl_d37 pl_d38 pl_d39 pl_t33 pl_t34 pl_t35 pl_t36 pl_t37 pl_t38 pl_t39 pl_dlt pl_ge pl_len pl_all iD_len iD_all plR plT List.append_assoc firstS_len Nat.zero_add Int.reduceToNat
attribute [local go_sem] rowAt_p rpl
theorem rck_w (d : Do) (w s lg : Int) : PCall Tryz.prog (.func 20) [.ag (dorow d), .ag [.int .i64 w, .int .i64 s, .int .i64 lg]] (.int .i64 (chkC d w s lg)) := by
 refine PCall.le ?_
 refine fn_ Tryz.func20 (by rfl) (by rfl) (rs := [.tmp 4]) (by rfl) (by simp [Tryz.f20]) ?_
 refine sr_ [2, 3] [2, 3] [] fun κ ξ hκ hξ => ?_
 simp +decide only [go_sem]
 refine hκ _ _ ?_
 refine sr_ [2, 3, 5] [] [] fun κ ξ hκ hξ => ?_
 simp +decide only [go_sem]
 refine callF (rcov_w _) ?_
 simp +decide only [go_sem]
 refine hκ _ _ ?_
 refine sr_ [2, 3, 5, 6] [] [] fun κ ξ hκ hξ => ?_
 simp +decide only [go_sem]
 refine callF (rrd_w _ _ _) ?_
 simp +decide only [go_sem]
 refine hκ _ _ ?_
 refine sq ?_
 refine sr_ [2, 3, 20] [] [(2, 17)] fun κ ξ hκ hξ => ?_
 simp +decide only [go_sem]
 refine hκ _ _ ?_
 refine cd_ (fun c0 => ?_) (fun c0 => ?_)
 ·simp only [go_sem] at c0
  refine sr_ [4] [] [] fun κ ξ hκ hξ => ?_
  simp +decide only [go_sem]
  refine hκ _ _ ?_
  refine rt ?_
  refine retE ?_
  simp +decide only [go_sem, resD, resV, c0]
  rw [show chkC d w s lg = 1 by unfold chkC; exact if_neg fun h => by rcases c0 with c | c <;> first | (rw [h.1] at c; cases c) | (rw [h.2] at c; cases c)]
 ·simp only [go_sem] at c0
  have hdb := c0.1
  have hrd := c0.2
  have htb := (docB_tre hdb).1
  have hT := treB_true.1 htb
  have hNl := hT.len
  refine sk ?_
  refine sq ?_
  refine sr_ [2, 3, 7] [] [] fun κ ξ hκ hξ => ?_
  simp +decide only [go_sem, c0]
  refine hκ _ _ ?_
  refine bl ?_
  refine lp (α := Nat) (fun i => mk [(2, .el (dorow d)), (3, .el [.int .i64 w, .int .i64 s, .int .i64 lg]), (7, .int .i64 i)]) (fun _ => []) (fun i => i ≤ d.nodes.length ∧ ∀ j, j < i → ckN d w s lg j = 0) (fun i => d.nodes.length - i) 0 ⟨⟨by omega, by intro j hj; omega⟩, EnvLe.of_eq rfl, .refl _⟩ ?_
  rintro i ⟨hi', hj⟩
  refine sq ?_
  refine sr_ [2, 3, 7, 25] [] [] fun κ ξ hκ hξ => ?_
  simp +decide only [go_sem]
  refine hκ _ _ ?_
  refine cd_ (fun c1 => ?_) (fun c1 => ?_)
  ·simp only [go_sem] at c1
   have hi : i < d.nodes.length := by omega
   have hw6 : 0 ≤ w ∧ w ≤ 1000000 := by have := rdB_w hrd; omega
   have hp30 := path_len hT hi
   have hpm : (pathL d.nodes i).length ≤ 1000 := by omega
   have hne := LN_ne (d := d) (w := w) (s := s) (lg := lg) i
   have hLN : plSeq d w s lg (plF w) (pathL d.nodes i) = LN d w s lg i := rfl
   have hLst := LN_st (d := d) (w := w) (s := s) (lg := lg) i
   have hle : (LN d w s lg i).length ≤ (pathL d.nodes i).length := plSeq_le _ _
   have hlm : (LN d w s lg i).length ≤ 1000 := by omega
   obtain ⟨m, hm⟩ : ∃ m, (LN d w s lg i).length = m + 1 := ⟨(LN d w s lg i).length - 1, by have := List.length_pos_iff.2 hne; omega⟩
   have hml : (m : Int) < ((LN d w s lg i).length : Int) := by omega
   have hm0 : (0 : Int) ≤ (m : Int) := by omega
   have hwl : IntKind.wrap .i64 (((LN d w s lg i).length : Int) - 1) = (m : Int) := by rw [w64 (by omega)]; omega
   have hls : (plat (LN d w s lg i) m).st.length = 33 := hLst _ (plat_mem (by omega))
   have hls33 : List.take 33 (plat (LN d w s lg i) m).st = (plat (LN d w s lg i) m).st := List.take_of_length_le (by omega)
   have hq21 : (List.map iD (List.drop 21 (plat (LN d w s lg i) m).st)).headD .top = .int .i64 (iat (plat (LN d w s lg i) m).st 21) := hd_i (by omega)
   have hz21 : 1 ≤ (List.drop 21 (plat (LN d w s lg i) m).st).length := by rw [List.length_drop]; omega
   have hq24 : (List.map iD (List.drop 24 (plat (LN d w s lg i) m).st)).headD .top = .int .i64 (iat (plat (LN d w s lg i) m).st 24) := hd_i (by omega)
   have hz24 : 1 ≤ (List.drop 24 (plat (LN d w s lg i) m).st).length := by rw [List.length_drop]; omega
   refine sk ?_
   refine sq ?_
   refine bl ?_
   refine srd_ [2, 3, 7, 8, 9] [] [38, 40] [] fun κ ξ hκ hξ => ?_
   simp +decide only [go_sem, c1]
   repeat with_reducible refine an_ ?_
   refine scallF (way_w _ _ _ hT hi) ?_
   simp +decide only [go_sem]
   refine scallF (rdwn_w _ _ _ _ _ _ (by assumption) (by assumption)) ?_
   simp +decide only [go_sem, hLN]
   refine hκ _ _ ?_
   refine sq ?_
   refine sr_ [2, 3, 7, 8, 9, 44] [] [] fun κ ξ hκ hξ => ?_
   simp +decide only [go_sem]
   refine callF (rhid_w _ _ (by assumption) (by assumption)) ?_
   simp +decide only [go_sem]
   refine hκ _ _ ?_
   refine cd_ (fun c2 => ?_) (fun c2 => ?_)
   ·try simp only [go_sem] at c2
    refine ex ?_
    refine rr_ [2, 3, 7] [] [] fun κ ξ hκ hξ => ?_
    simp +decide only [go_sem, c2]
    refine hκ _ _ ?_
    refine ⟨i + 1, ⟨⟨by omega, ?_⟩, by omega⟩, EnvLe.of_eq (by rw [w64 (by omega)]; rfl), .refl _⟩
    intro j h
    rcases Nat.lt_succ_iff_lt_or_eq.1 h with h | rfl
    ·exact hj j h
    ·rw [ref_ck hdb hrd hi hm]
     exact if_pos c2
   ·try simp only [go_sem] at c2
    refine sk ?_
    refine sq ?_
    refine sr_ [2, 3, 7, 8, 46] [] [] fun κ ξ hκ hξ => ?_
    simp +decide only [go_sem, c2]
    refine hκ _ _ ?_
    refine cd_ (fun c3 => ?_) (fun c3 => ?_)
    ·try simp only [go_sem] at c3
     refine sr_ [4] [] [] fun κ ξ hκ hξ => ?_
     simp +decide only [go_sem, c3]
     refine hκ _ _ ?_
     refine rt ?_
     refine retE ?_
     simp +decide only [go_sem, resD, resV, c0, c1, hi, hLN, hml, hm0, hwl, hls, hls33, hq21, hq24, hz21, hz24, c2, c3]
     have e : ckN d w s lg i = 3 := by
      rw [ref_ck hdb hrd hi hm, if_neg (by simpa using c2), if_pos (by simpa using c3)]
     rw [chk_some hi hdb hrd hj (by rw [e]; decide), e]
    ·try simp only [go_sem] at c3
     refine sk ?_
     refine srz_ [(10, [])] [2, 3, 7, 10] [] [] fun κ ξ hκ hξ => ?_
     simp +decide only [go_sem, hml, hm0, hwl, hls, c3]
     intro b10 hb10
     refine hκ _ _ ?_
     refine sr_ [2, 3, 7, 67] [] [(4, 57), (10, 63)] fun κ ξ hκ hξ => ?_
     simp +decide only [go_sem, hls, hb10]
     refine hκ _ _ ?_
     refine cd_ (fun c4 => ?_) (fun c4 => ?_)
     ·try simp only [go_sem] at c4
      refine sr_ [4] [] [] fun κ ξ hκ hξ => ?_
      simp +decide only [go_sem, hb10, c4]
      refine hκ _ _ ?_
      refine rt ?_
      refine retE ?_
      simp +decide only [go_sem, resD, resV, c0, c1, hi, hLN, hml, hm0, hwl, hls, hls33, hq21, hq24, hz21, hz24, c2, c3, hb10, c4]
      have e : ckN d w s lg i = 21 := by
       rw [ref_ck hdb hrd hi hm, if_neg (by simpa using c2), if_neg (by simpa using c3)]
       exact if_pos ⟨c4.1, by rcases c4.2 with c | c <;> simp [c]⟩
      rw [chk_some hi hdb hrd hj (by rw [e]; decide), e]
     ·try simp only [go_sem] at c4
      refine sk ?_
      refine rr_ [2, 3, 7] [] [] fun κ ξ hκ hξ => ?_
      simp +decide only [go_sem, hb10]
      refine hκ _ _ ?_
      refine ⟨i + 1, ⟨⟨by omega, ?_⟩, by omega⟩, EnvLe.of_eq (by rw [w64 (by omega)]; rfl), .refl _⟩
      intro j h
      rcases Nat.lt_succ_iff_lt_or_eq.1 h with h | rfl
      ·exact hj j h
      ·rw [ref_ck hdb hrd hi hm]
       rw [if_neg (by simpa using c2), if_neg (by simpa using c3)]
       exact if_neg fun h => by
        rcases c4 with (c | c) | c
        ·exact c h.1.1
        ·exact c h.1.2
        ·have := h.2
         simp [c.1, c.2] at this
  ·simp only [go_sem] at c1
   refine ex ?_
   refine sr_ [4] [] [] fun κ ξ hκ hξ => ?_
   simp +decide only [go_sem, c1]
   refine hκ _ _ ?_
   refine rt ?_
   refine retE ?_
   simp +decide only [go_sem, resD, resV, c0, c1]
   rw [chk_none hdb hrd fun j h => hj j (by omega)]
end
section
attribute [local go_sem] List.length_map rowAt_n nrow rowAt_t trow rowAt_i irow
attribute [local go_sem] rowAt_e rowAt_tm rowAt_dc rowAt_ru tmrow dcrow rurow
attribute [local go_sem] rowAt_br rowAt_s rowAt_fo rowAt_ve rowAt_g rowAt_k grow krow srow brrow forow dorow verow
attribute [local go_sem] iD_all iD_len rw2_0 rw2_1 rw1_0 Int.toNat_one
attribute [local go_sem] pl_d33 pl_d34 pl_d35 pl_d36 pl_d37 pl_d38 pl_d39 pl_t33 pl_t34 pl_t35 pl_t36 pl_t37 pl_t38 pl_t39 pl_dlt pl_ge pl_len pl_all iD_len iD_all plR plT List.append_assoc firstS_len Nat.zero_add Int.reduceToNat
theorem law3_w (d : Do) (x w s lg : Int) : PCall Tryz.prog (.func 3) [.ag (dorow d), .int .i64 x, .ag [.int .i64 w, .int .i64 s, .int .i64 lg]] (.bool true) := by
 have hscl := styC_len d x w s lg
 have hs33 : List.take 33 (styC d x w s lg).1 = (styC d x w s lg).1 := List.take_of_length_le (by first | omega | (rw [styC_len]; omega) | (rw [styR_len (by assumption)]; omega))
 have hdq := deq33 hscl hscl
 refine PCall.le ?_
 refine fn_ Tryz.func3 (by rfl) (by rfl) (rs := [.tmp 6]) (by rfl) (by simp [Tryz.f3]) ?_
 refine sr_ [1, 3, 5] [3, 5] [] fun κ ξ hκ hξ => ?_
 simp +decide only [go_sem, beq_self_eq_true]
 refine hκ _ _ ?_
 refine sr_ [1, 3, 5, 7] [] [] fun κ ξ hκ hξ => ?_
 simp +decide only [go_sem]
 refine callF (head_w) ?_
 simp +decide only [go_sem]
 refine hκ _ _ ?_
 refine sq ?_
 refine sr_ [1, 3, 5, 7, 21] [] [] fun κ ξ hκ hξ => ?_
 simp +decide only [go_sem]
 refine callF (fewd_w _) ?_
 simp +decide only [go_sem]
 refine hκ _ _ ?_
 refine cd_ (fun c0 => ?_) (fun c0 => ?_)
 ·try simp only [go_sem] at c0
  refine sr_ [6] [] [] fun κ ξ hκ hξ => ?_
  simp +decide only [go_sem, c0]
  refine hκ _ _ ?_
  refine rt ?_
  refine retE ?_
  simp +decide only [go_sem, resD, resV, hscl, hs33, hdq, beq_self_eq_true, c0]
  all_goals first | rfl | (simp [*]; done)
 ·try simp only [go_sem] at c0
  refine sk ?_
  refine srz_ [(8, [])] [1, 3, 5, 7, 8, 9] [] [] fun κ ξ hκ hξ => ?_
  simp +decide only [go_sem, c0]
  refine callF (cst_w _ _ _ _ _) ?_
  simp +decide only [go_sem, hscl]
  intro b8 hb8
  refine hκ _ _ ?_
  refine srz_ [(10, [])] [1, 3, 5, 7, 8, 9, 10, 11] [] [] fun κ ξ hκ hξ => ?_
  simp +decide only [go_sem, hb8]
  refine callF (rsty16_w _ _ _ _ _) ?_
  simp +decide only [go_sem, hscl, hb8]
  intro b10 hb10
  refine hκ _ _ ?_
  refine srd_ [1, 3, 5, 7] [] [40, 42] [(1, 38), (8, 45), (13, 50)] fun κ ξ hκ hξ => ?_
  simp +decide only [go_sem, hb8, hb10]
  refine vd_gc (by rfl) ?_
  simp +decide only [go_sem, hb8, hb10]
  refine gcF (cov_w d) ?_
  simp +decide only [go_sem, hb8, hb10]
  refine vd_gc (by rfl) ?_
  simp +decide only [go_sem, hb8, hb10]
  refine gcF (rcov_w d) ?_
  simp +decide only [go_sem, hscl, hs33, hdq, beq_self_eq_true, hb8, hb10]
  refine hκ _ _ ?_
  refine sr_ [1, 3, 5, 7, 9, 12] [] [] fun κ ξ hκ hξ => ?_
  simp +decide only [go_sem, hb8, hb10]
  refine callF (inr_w _ _ _ _ _) ?_
  simp +decide only [go_sem, hb8, hb10]
  refine hκ _ _ ?_
  refine sr_ [1, 3, 5, 7, 9, 11, 12, 13] [] [] fun κ ξ hκ hξ => ?_
  simp +decide only [go_sem, hb8, hb10]
  refine callF (rinn_w _ _ _ _ _) ?_
  simp +decide only [go_sem, hb8, hb10]
  refine hκ _ _ ?_
  refine sr_ [1, 3, 5, 7] [] [(1, 70), (6, 75)] fun κ ξ hκ hξ => ?_
  simp +decide only [go_sem, hb8, hb10]
  refine hκ _ _ ?_
  refine sr_ [1, 3, 5, 7, 9, 12, 14, 15] [] [] fun κ ξ hκ hξ => ?_
  simp +decide only [go_sem, hb8, hb10]
  refine callF (box_w _ _ _ _ _) ?_
  simp +decide only [go_sem, hb8, hb10]
  refine hκ _ _ ?_
  refine sr_ [3, 5, 7, 9, 11, 12, 13, 14, 15, 16, 17] [] [] fun κ ξ hκ hξ => ?_
  simp +decide only [go_sem, hb8, hb10]
  refine callF (rbox_w _ _ _ _ _) ?_
  simp +decide only [go_sem, hb8, hb10]
  refine hκ _ _ ?_
  refine srd_ [6] [] [122, 125] [(1, 99), (6, 104), (11, 109), (16, 114), (21, 119)] fun κ ξ hκ hξ => ?_
  simp +decide only [go_sem, beq_self_eq_true, hb8, hb10]
  refine vd_gc (by rfl) ?_
  simp +decide only [go_sem, hb8, hb10]
  refine gcF (cck_w d w s lg) ?_
  simp +decide only [go_sem, hb8, hb10]
  refine vd_gc (by rfl) ?_
  simp +decide only [go_sem, hb8, hb10]
  refine gcF (rck_w d w s lg) ?_
  simp +decide only [go_sem, hb8, hb10]
  refine hκ _ _ ?_
  refine rt ?_
  refine retE ?_
  simp +decide only [go_sem, resD, resV, hscl, hs33, hdq, beq_self_eq_true, c0, hb8, hb10]
  all_goals first | rfl | (simp [*]; done)
end
end Go.Proofs.YtinhjbnljbmbcaaGreat
