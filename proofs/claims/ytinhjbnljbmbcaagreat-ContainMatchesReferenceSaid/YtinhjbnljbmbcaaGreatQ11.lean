/- Joined. -/
import Derived.Test.YtinhjbnljbmbcaaGreatQ10
import Derived.Test.YtinhjbnljbmbcaaGreatQ06
import Derived.Test.YtinhjbnljbmbcaaGreatQ08
import Derived.Test.YtinhjbnljbmbcaaGreatQ07
namespace Go.Proofs.YtinhjbnljbmbcaaGreat
open Go Go.RowKit
set_option linter.unusedSimpArgs false
set_option linter.unusedVariables false
set_option maxRecDepth 100000
set_option maxHeartbeats 4000000
section
structure Pl where
 st : List Int
 id : Int
 room : Int
 box : Int
 wide : Int
 own : Bool
 e : Int
def plT (p : Pl) : List D := [.int .i64 p.id, .int .i64 p.room, .int .i64 p.box, .int .i64 p.wide, .bool p.own, .int .i64 p.e]
def plR (p : Pl) : List D := p.st.map iD ++ plT p
def pl0 : Pl := ⟨zS, 0, 0, 0, 0, false, 0⟩
def outV (st : List Int) (room : Int) : Int := mxI (if 0 < iat st 6 then mnI (if iat st 4 = 0 then room else iat st 4) (iat st 6) else if iat st 4 = 0 then room else iat st 4) (iat st 5)
def innV (st : List Int) (room : Int) : Int := mxI 0 (outV st room - 2 * iat st 3)
def kdAt (l : List Nd) (x : Int) : Int := (nat l (idx l x).toNat).kind
def plStep (d : Do) (w s lg : Int) (p : Pl) (x : Int) : Pl := ⟨(styR d.nodes d.rules x w s lg p.st p.room p.wide).1, x, p.room, p.box, p.wide, p.own && decide (kdAt d.nodes x = 1), (styR d.nodes d.rules x w s lg p.st p.room p.wide).2⟩
def plNext (p : Pl) : Pl := if p.own = true then (if iat p.st 21 = 1 then ⟨p.st, p.id, innV p.st p.room, p.id, innV p.st p.room, p.own, p.e⟩ else ⟨p.st, p.id, innV p.st p.room, p.box, p.wide, p.own, p.e⟩) else p
def plSeq (d : Do) (w s lg : Int) : Pl → List Int → List Pl
 | _, [] => []
 | p, x :: xs => plStep d w s lg p x :: if (plStep d w s lg p x).e = 0 then plSeq d w s lg (plNext (plStep d w s lg p x)) xs else []
def plF (w : Int) : Pl := ⟨firstS, 0, w, 0, -1, true, 0⟩
noncomputable def opE (d : Do) (x w s lg : Int) : Int := if docB d = true ∧ rdB w s lg = true ∧ idB x = true then gerr d.nodes x else 1
def pthX (l : List Nd) (x : Int) : List Int := pathL l (idx l x).toNat
def plsX (d : Do) (x w s lg : Int) : List Pl := plSeq d w s lg (plF w) (pthX d.nodes x)
def lastP (l : List Pl) : Pl := l.getLast?.getD pl0
noncomputable def fndR (d : Do) (x w s lg : Int) : Pl × Int := if opE d x w s lg ≠ 0 then (pl0, opE d x w s lg) else if (lastP (plsX d x w s lg)).id ≠ x then (pl0, 3) else (lastP (plsX d x w s lg), 0)
noncomputable def styC (d : Do) (x w s lg : Int) : List Int × Int := if (fndR d x w s lg).2 ≠ 0 then (zS, (fndR d x w s lg).2) else if (fndR d x w s lg).1.e ≠ 0 then (zS, (fndR d x w s lg).1.e) else ((fndR d x w s lg).1.st, 0)
def blkB (d : Do) (x : Int) : Bool := (pthX d.nodes x).all fun y => decide (kdAt d.nodes y = 1)
noncomputable def innC (d : Do) (x w s lg : Int) : Int × Int := if opE d x w s lg ≠ 0 then (0, opE d x w s lg) else if blkB d x = false then (0, 25) else if (fndR d x w s lg).2 ≠ 0 then (0, (fndR d x w s lg).2) else if (fndR d x w s lg).1.e ≠ 0 then (0, (fndR d x w s lg).1.e) else (innV (fndR d x w s lg).1.st (fndR d x w s lg).1.room, 0)
noncomputable def boxC (d : Do) (x w s lg : Int) : Int × Int × Bool × Int := if (fndR d x w s lg).2 ≠ 0 ∨ (fndR d x w s lg).1.box = 0 then (0, 0, false, (fndR d x w s lg).2) else ((fndR d x w s lg).1.box, (fndR d x w s lg).1.wide, true, 0)
section
variable {s : List Int} {l : List D}
theorem pl_d33 (h : s.length = 33) : List.drop 33 (s.map iD ++ l) = l := List.drop_left' (by rw [List.length_map, h])
theorem pl_dk (h : s.length = 33) (k : Nat) : List.drop (33 + k) (s.map iD ++ l) = l.drop k := by
 rw [← List.drop_drop, pl_d33 h]
theorem pl_d34 (h : s.length = 33) : List.drop 34 (s.map iD ++ l) = l.drop 1 := pl_dk h 1
theorem pl_d35 (h : s.length = 33) : List.drop 35 (s.map iD ++ l) = l.drop 2 := pl_dk h 2
theorem pl_d36 (h : s.length = 33) : List.drop 36 (s.map iD ++ l) = l.drop 3 := pl_dk h 3
theorem pl_d37 (h : s.length = 33) : List.drop 37 (s.map iD ++ l) = l.drop 4 := pl_dk h 4
theorem pl_d38 (h : s.length = 33) : List.drop 38 (s.map iD ++ l) = l.drop 5 := pl_dk h 5
theorem pl_d39 (h : s.length = 33) : List.drop 39 (s.map iD ++ l) = l.drop 6 := pl_dk h 6
theorem pl_tk (h : s.length = 33) (k : Nat) : List.take (33 + k) (s.map iD ++ l) = s.map iD ++ l.take k := by
 rw [← h, ← List.length_map (f := iD), List.take_length_add_append]
theorem pl_t33 (h : s.length = 33) : List.take 33 (s.map iD ++ l) = s.map iD := by rw [pl_tk h 0, List.take_zero, List.append_nil]
theorem pl_t34 (h : s.length = 33) : List.take 34 (s.map iD ++ l) = s.map iD ++ l.take 1 := pl_tk h 1
theorem pl_t35 (h : s.length = 33) : List.take 35 (s.map iD ++ l) = s.map iD ++ l.take 2 := pl_tk h 2
theorem pl_t36 (h : s.length = 33) : List.take 36 (s.map iD ++ l) = s.map iD ++ l.take 3 := pl_tk h 3
theorem pl_t37 (h : s.length = 33) : List.take 37 (s.map iD ++ l) = s.map iD ++ l.take 4 := pl_tk h 4
theorem pl_t38 (h : s.length = 33) : List.take 38 (s.map iD ++ l) = s.map iD ++ l.take 5 := pl_tk h 5
theorem pl_t39 (h : s.length = 33) : List.take 39 (s.map iD ++ l) = s.map iD ++ l.take 6 := pl_tk h 6
theorem pl_dlt {k : Nat} (h : s.length = 33) (hk : k < 33) : (List.drop k (s.map iD ++ l)).headD .top = .int .i64 (iat s k) := by
 rw [List.drop_append_of_le_length (by rw [List.length_map]; omega), ← List.map_drop]
 have := hd_i (l := s) (k := k) (by omega)
 rw [List.drop_eq_getElem_cons (by omega)] at this ⊢
 exact this
end
section
variable {s : List Int} {l : List D}
theorem pl_ge {k : Nat} (h : s.length = 33) (hk : k < 33) : (1 ≤ (List.drop k (s.map iD ++ l)).length) = True := by
 rw [List.length_drop, List.length_append, List.length_map, h, eq_iff_iff, iff_true]; omega
theorem pl_len (h : s.length = 33) : (s.map iD ++ l).length = 33 + l.length := by rw [List.length_append, List.length_map, h]
theorem pl_all : (s.map iD ++ l).all D.isCell = l.all D.isCell := by rw [List.all_append, iD_all, Bool.true_and]
end
theorem callYf {P : Program} {y : Fn} {xs : List D} {K X : D → Store → Prop} {σ : Store} {bx : Nat × Box} {Jt Jf : Store → Prop} (h : ACall P y xs σ fun r τ' => (r = .ret (.bool true) ∧ Jt τ') ∨ (r = .ret (.bool false) ∧ Jf τ'))
  (hk : ∀ bb τ', (bb = true → Jt τ') → (bb = false → Jf τ') → K (.bool bb) (bx :: τ')) : CallK P (.fn y [] []) xs K X (bx :: σ) := by
 unfold CallK
 refine ⟨fun _ => rfl, .inr ?_⟩
 rw [List.nil_append, List.append_nil]
 refine (h.frameL [bx]).mono ?_
 rintro r σ' ⟨σ1, rfl, ⟨rfl, hj⟩ | ⟨rfl, hj⟩⟩
 ·exact hk true σ1 (fun _ => hj) (fun e => by cases e)
 ·exact hk false σ1 (fun e => by cases e) (fun _ => hj)
theorem cutV_lim (p : Nat) (n : Int) : -1000000 ≤ cutV p n ∧ cutV p n ≤ 1000000 := by
 have key : ∀ a b : Int, -1000000 ≤ a → a ≤ b → b ≤ 1000000 → -1000000 ≤ mnI (mxI n a) b ∧ mnI (mxI n a) b ≤ 1000000 := fun a b h1 h2 h3 => by
  unfold mnI mxI
  repeat' split
  all_goals omega
 unfold cutV
 have hall : ∀ o ∈ (none :: cutK), (match o with | some (a, b) => decide (-1000000 ≤ a ∧ a ≤ b ∧ b ≤ 1000000) | none => true) = true := by decide
 have hm : cutK.getD p none ∈ (none :: cutK) := by
  rw [List.getD_eq_getElem?_getD]
  cases e : cutK[p]? with
  | none => simp
  | some x => exact List.mem_cons_of_mem _ (List.mem_of_getElem? e)
 have h := hall _ hm
 generalize cutK.getD p none = o at h
 cases o with
 | none => show -1000000 ≤ (if n = 0 then (0 : Int) else 1) ∧ (if n = 0 then (0 : Int) else 1) ≤ 1000000; split <;> omega
 | some ab =>
  have h' := of_decide_eq_true h
  exact key _ _ h'.1 h'.2.1 h'.2.2
theorem parB_iff {st : List Int} : parB st = true ↔ ∀ p, p < 33 → cutV p (iat st p) = iat st p := by
 unfold parB
 rw [List.all_eq_true]
 exact ⟨fun h p hp => of_decide_eq_true (h p (List.mem_range.2 hp)), fun h p hp => decide_eq_true (h p (List.mem_range.1 hp))⟩
theorem parB_lim {st : List Int} (h : parB st = true) (hl : st.length = 33) (p : Nat) : -1000000 ≤ iat st p ∧ iat st p ≤ 1000000 := by
 by_cases hp : p < 33
 ·rw [← parB_iff.1 h p hp]; exact cutV_lim _ _
 ·rw [iat, List.getD_eq_getElem?_getD, List.getElem?_eq_none (by omega)]; simp
theorem iatset {l : List Int} {p q : Nat} {v : Int} : iat (l.set p v) q = if p = q ∧ q < l.length then v else iat l q := by
 unfold iat
 rw [List.getD_eq_getElem?_getD, List.getD_eq_getElem?_getD, List.getElem?_set]
 by_cases h : p = q
 ·subst h
  by_cases h2 : p < l.length
  ·simp [h2]
  ·simp [h2, List.getElem?_eq_none (Nat.le_of_not_lt h2)]
 ·simp [h]
theorem parB_set {st : List Int} (h : parB st = true) (p : Nat) (v : Int) : parB (st.set p (cutV p v)) = true := by
 rw [parB_iff] at h ⊢
 intro q hq
 rw [iatset]
 split
 ·rename_i e; rw [e.1]; exact cutV_idem _ _
 ·exact h q hq
theorem stF_ok {rs : List Ru} {cs : List Cl} {w s : Int} {vs : List Int} : ∀ (n p : Nat) (out : List Int), parB out = true → (stF rs cs w s vs n p out).2 = 0 → parB (stF rs cs w s vs n p out).1 = true
 | 0, _, _, h, _ => h
 | n + 1, p, out, h, he => by
  unfold stF at he ⊢
  split at he
  ·rename_i h1
   rw [if_pos h1]
   split at he
   ·rename_i h2
    rw [if_pos h2]
    exact stF_ok n _ _ (parB_set h _ _) he
   ·rename_i h2; exact absurd he h2
  ·rename_i h1
   rw [if_neg h1]
   exact stF_ok n _ _ h he
theorem firstS_par : parB firstS = true := by decide
theorem st0_iat {par : List Int} (h : par.length = 33) (p : Nat) (hp : p < 33) : iat (st0 par) p = if 25 ≤ p ∨ p = 8 ∨ p = 9 ∨ p = 10 ∨ p = 11 then iat par p else iat firstS p := by
 unfold st0
 have hS : ((((firstS.set 8 (iat par 8)).set 9 (iat par 9)).set 10 (iat par 10)).set 11 (iat par 11)).length = 33 := by simp only [List.length_set, firstS_len]
 have hT : (List.take 25 ((((firstS.set 8 (iat par 8)).set 9 (iat par 9)).set 10 (iat par 10)).set 11 (iat par 11))).length = 25 := by rw [List.length_take, hS]; decide
 by_cases h25 : 25 ≤ p
 ·rw [if_pos (.inl h25), iat, List.getD_eq_getElem?_getD, List.getElem?_append_right (by omega), hT, List.getElem?_drop, show 25 + (p - 25) = p by omega]
  rfl
 ·have e : ∀ S : List Int, S.length = 33 → iat (List.take 25 S ++ par.drop 25) p = iat S p := fun S hS => by
   unfold iat
   rw [List.getD_eq_getElem?_getD, List.getD_eq_getElem?_getD, List.getElem?_append_left (by rw [List.length_take]; omega), List.getElem?_take_of_lt (by omega)]
  rw [e _ hS, iatset, iatset, iatset, iatset]
  simp only [List.length_set, firstS_len]
  by_cases h8 : p = 8
  ·subst h8; simp
  by_cases h9 : p = 9
  ·subst h9; simp
  by_cases h10 : p = 10
  ·subst h10; simp
  by_cases h11 : p = 11
  ·subst h11; simp
  rw [if_neg (by omega), if_neg (by omega), if_neg (by omega), if_neg (by omega), if_neg (by omega)]
theorem st0_par {par : List Int} (h : par.length = 33) (hp : parB par = true) : parB (st0 par) = true := by
 rw [parB_iff]
 intro p hp33
 rw [st0_iat h p hp33]
 split
 ·exact parB_iff.1 hp p hp33
 ·exact parB_iff.1 firstS_par p hp33
theorem styI_ok {rs : List Ru} {cs : List Cl} {w s : Int} {par : List Int} (h : par.length = 33) (hp : parB par = true) (he : (styI rs cs w s par).2 = 0) : parB (styI rs cs w s par).1 = true := by
 unfold styI at he ⊢
 split at he
 ·rename_i h1
  rw [if_pos h1]
  exact stF_ok _ _ _ (stF_ok _ _ _ (st0_par h hp) h1) he
 ·rename_i h1; exact absurd he h1
theorem styR_ok {l : List Nd} {rs : List Ru} {x w s lg : Int} {par : List Int} {wd bx : Int} (h : par.length = 33) (he : (styR l rs x w s lg par wd bx).2 = 0) : parB (styR l rs x w s lg par wd bx).1 = true := by
 unfold styR at he ⊢
 split at he
 ·rename_i h1
  rw [if_pos h1]
  split at he
  ·rename_i h2
   rw [if_pos h2]
   exact styI_ok h h1.1 he
  ·rename_i h2; exact absurd he h2
 ·simp at he
theorem outV_lim {st : List Int} (h : parB st = true) (hl : st.length = 33) {room : Int} (hr : 0 ≤ room ∧ room ≤ 1000000) : -1000000 ≤ outV st room ∧ outV st room ≤ 1000000 := by
 have h4 := parB_lim h hl 4
 have h5 := parB_lim h hl 5
 have h6 := parB_lim h hl 6
 unfold outV mxI mnI
 repeat' split
 all_goals omega
theorem iat_pos {st : List Int} (h : parB st = true) {p : Nat} (hp : p = 3 ∨ p = 4 ∨ p = 5 ∨ p = 6) : 0 ≤ iat st p ∧ iat st p ≤ 100000 := by
 have h1 := parB_iff.1 h p (by omega)
 have key : ∀ n : Int, 0 ≤ mnI (mxI n 0) 100000 ∧ mnI (mxI n 0) 100000 ≤ 100000 := fun n => by
  unfold mnI mxI
  repeat' split
  all_goals omega
 have e : cutV p (iat st p) = mnI (mxI (iat st p) 0) 100000 := by rcases hp with rfl | rfl | rfl | rfl <;> rfl
 rw [← h1, e]
 exact key _
theorem innV_lim {st : List Int} (h : parB st = true) (hl : st.length = 33) {room : Int} (hr : 0 ≤ room ∧ room ≤ 1000000) : 0 ≤ innV st room ∧ innV st room ≤ 1000000 := by
 have h1 := outV_lim h hl hr
 have h3 := iat_pos h (p := 3) (by omega)
 unfold innV mxI
 repeat' split
 all_goals omega
end
section
theorem gget_range {gs : List Gl} (hG : ∀ i, i < gs.length → gok gs i) (b : Int) : 0 ≤ (gget gs b).2 ∧ (gget gs b).2 ≤ 1000 := by
 unfold gget
 rcases gidx_cases gs b with ⟨i, hi, e, hg⟩ | ⟨hn, hg⟩
 ·rw [hg, if_pos (by omega), Int.toNat_natCast]
  have := hG i hi
  unfold gok at this
  omega
 ·rw [hg, if_neg (by omega)]; decide
theorem kby_iff {a b : Int} (ha : 0 ≤ a ∧ a ≤ 1000) : (b < -1000 ∨ 1000 < b ∨ IntKind.wrap .i64 (a + b) < 0) ↔ ¬ (b ≤ 1000 ∧ -a ≤ b) := by
 by_cases h1 : b < -1000
 ·exact ⟨fun _ => by omega, fun _ => .inl h1⟩
 ·by_cases h2 : 1000 < b
  ·exact ⟨fun _ => by omega, fun _ => .inr (.inl h2)⟩
  ·rw [w64 (by omega)]; omega
attribute [local go_sem] List.length_map rowAt_n nrow rowAt_t trow rowAt_i irow
attribute [local go_sem] rowAt_g rowAt_k grow krow prow
theorem few_w (gs : List Gl) (ks : List Kn) (tg tk : Tok) : PCall Tryz.prog (.func 29) [.ag [.sl 2 (gs.map grow) tg, .sl 3 (ks.map krow) tk]] (.bool (decide (gs.length ≤ 100 ∧ ks.length ≤ 210))) := by
 refine PCall.le ?_
 refine fn_ Tryz.func29 (by rfl) (by rfl) (rs := [.tmp 2]) (by rfl) (by simp [Tryz.f29]) ?_
 refine sr_ [1] [1] [] fun κ ξ hκ hξ => ?_
 simp +decide only [go_sem]
 refine hκ _ _ ?_
 refine sr_ [2] [] [(4, 7)] fun κ ξ hκ hξ => ?_
 simp +decide only [go_sem]
 refine hκ _ _ ?_
 refine rt ?_
 refine retE ?_
 simp +decide only [go_sem, resD, resV]
 all_goals congr 1
 all_goals rw [Bool.eq_iff_iff]
 all_goals simp
 all_goals omega
theorem fok_w (gs : List Gl) (ks : List Kn) (tg tk : Tok) : PCall Tryz.prog (.func 36) [.ag [.sl 2 (gs.map grow) tg, .sl 3 (ks.map krow) tk]] (.bool (fok gs ks)) := by
 refine PCall.ok fun hok => ?_
 simp only [okAll, D.ok, okRows, and_true, true_and, lim_eq, inR_i64', inR_i32', inR_u8', inR_u16', inR_u64'] at hok
 obtain ⟨⟨hg, hgr⟩, hk, hkr⟩ := hok; rw [List.length_map] at hg hk
 refine PCall.le ?_
 refine fn_ Tryz.func36 (by rfl) (by rfl) (rs := [.tmp 2]) (by rfl) (by simp [Tryz.f36]) ?_
 refine sr_ [1] [1] [] fun κ ξ hκ hξ => ?_
 simp +decide only [go_sem]
 refine hκ _ _ ?_
 refine sq ?_
 refine sr_ [1, 20] [] [(4, 15)] fun κ ξ hκ hξ => ?_
 simp +decide only [go_sem]
 refine hκ _ _ ?_
 refine cd_ (fun c0 => ?_) (fun c0 => ?_)
 ·try simp only [go_sem] at c0
  refine sr_ [2] [] [] fun κ ξ hκ hξ => ?_
  simp +decide only [go_sem]
  refine hκ _ _ ?_
  refine rt ?_
  refine retE ?_
  simp +decide only [go_sem, resD, resV, c0]
  all_goals rw [fok_false.2 ?_]
  rintro ⟨_, _⟩
  omega
 ·try simp only [go_sem] at c0
  refine sk ?_
  refine sq ?_
  refine sr_ [1, 22, 23, 24] [] [] fun κ ξ hκ hξ => ?_
  simp +decide only [go_sem, c0]
  refine hκ _ _ ?_
  refine bl ?_
  refine lp (α := Nat) (fun i => mk [(1, .el [.sl 2 (gs.map grow) tg, .sl 3 (ks.map krow) tk]), (22, .sl 2 (gs.map grow) tg), (23, .int .i64 gs.length), (24, .int .i64 i)]) (fun _ => []) (fun i => i ≤ gs.length ∧ ∀ j, j < i → gok gs j) (fun i => gs.length - i) 0 ⟨⟨by omega, by intro j hj; omega⟩, EnvLe.of_eq rfl, .refl _⟩ ?_
  rintro i ⟨hi, hj⟩
  refine sr_ [1, 22, 23, 24, 25] [] [] fun κ ξ hκ hξ => ?_
  simp +decide only [go_sem]
  refine hκ _ _ ?_
  refine sq ?_
  refine cd_ (fun c1 => ?_) (fun c1 => ?_)
  ·try simp only [go_sem] at c1
   refine sk ?_
   refine sq ?_
   refine bl ?_
   refine srz_ [(4, [])] [1, 3, 4, 22, 23, 24] [] [] fun κ ξ hκ hξ => ?_
   simp +decide only [go_sem, c1]
   repeat with_reducible refine an_ ?_
   intro b4 hb4
   refine hκ _ _ ?_
   rcases i with _ | k
   ·have hi0 : ((0 : Nat) : Int) = 0 := rfl
    refine srd_ [1, 22, 23, 24, 62] [] [] [(3, 32), (8, 37), (13, 42), (18, 47), (21, 50)] fun κ ξ hκ hξ => ?_
    simp +decide only [go_sem, hb4, hi0]
    refine hκ _ _ ?_
    refine cd_ (fun c2 => ?_) (fun c2 => ?_)
    ·try simp only [go_sem] at c2
     refine sr_ [2] [] [] fun κ ξ hκ hξ => ?_
     simp +decide only [go_sem, hb4]
     refine hκ _ _ ?_
     refine rt ?_
     refine retE ?_
     simp +decide only [go_sem, resD, resV, c0, c1, hb4, hi0, c2]
     all_goals rw [fok_false.2 ?_]
     rintro ⟨_, hh, _⟩
     have := hh 0 (by omega)
     simp only [gok, Nat.add_sub_cancel] at this
     omega
    ·try simp only [go_sem] at c2
     refine sk ?_
     refine rr_ [1, 22, 23, 24] [] [] fun κ ξ hκ hξ => ?_
     simp +decide only [go_sem, hb4, c2]
     refine hκ _ _ ?_
     refine ⟨0 + 1, ⟨⟨by omega, ?_⟩, by omega⟩, EnvLe.of_eq (by rw [w64 (by omega)]; rfl), List.nil_sublist _⟩
     intro j h
     rcases Nat.lt_succ_iff_lt_or_eq.1 h with h | rfl
     ·exact hj j h
     ·simp only [gok, Nat.add_sub_cancel]
      exact ⟨by omega, by omega, by omega, by omega, fun h0 => by omega⟩
   ·have hk1 : ((k + 1 : Nat) : Int) = (k : Int) + 1 := rfl
    have hk0 : (0 : Int) < (k : Int) + 1 := by omega
    have hkw : IntKind.wrap .i64 ((k : Int) + 1 - 1) = k := by rw [w64 (by omega)]; omega
    have hkl : (k : Int) < gs.length := by omega
    have hkl2 : (k : Int) + 1 < gs.length := by omega
    refine srd_ [1, 22, 23, 24, 62] [] [] [(3, 32), (8, 37), (13, 42), (18, 47), (21, 50)] fun κ ξ hκ hξ => ?_
    simp +decide only [go_sem, hb4, hk1, hk0, hkw, hkl]
    repeat with_reducible refine an_ ?_
    refine hκ _ _ ?_
    refine cd_ (fun c3 => ?_) (fun c3 => ?_)
    ·try simp only [go_sem] at c3
     refine sr_ [2] [] [] fun κ ξ hκ hξ => ?_
     simp +decide only [go_sem, hb4]
     refine hκ _ _ ?_
     refine rt ?_
     refine retE ?_
     simp +decide only [go_sem, resD, resV, c0, c1, hb4, hk1, hk0, hkw, hkl, hkl2, c3]
     all_goals rw [fok_false.2 ?_]
     rintro ⟨_, hh, _⟩
     have := hh (k + 1) (by omega)
     simp only [gok, Nat.add_sub_cancel] at this
     omega
    ·try simp only [go_sem] at c3
     refine sk ?_
     refine rr_ [1, 22, 23, 24] [] [] fun κ ξ hκ hξ => ?_
     simp +decide only [go_sem, hb4, c3]
     refine hκ _ _ ?_
     refine ⟨(k + 1) + 1, ⟨⟨by omega, ?_⟩, by omega⟩, EnvLe.of_eq (by rw [w64 (by omega)]; rfl), List.nil_sublist _⟩
     intro j h
     rcases Nat.lt_succ_iff_lt_or_eq.1 h with h | rfl
     ·exact hj j h
     ·simp only [gok, Nat.add_sub_cancel]
      exact ⟨by omega, by omega, by omega, by omega, fun h0 => by omega⟩
  ·try simp only [go_sem] at c1
   refine ex ?_
   refine sq ?_
   refine sr_ [1, 65, 66, 67] [] [] fun κ ξ hκ hξ => ?_
   simp +decide only [go_sem, c1]
   refine hκ _ _ ?_
   refine bl ?_
   have hG : ∀ i, i < gs.length → gok gs i := fun j h => hj j (by omega)
   have hs := fok_sorted hG
   have hn : gs.length ≤ 1000 := by omega
   refine lp (α := Nat) (fun i => mk [(1, .el [.sl 2 (gs.map grow) tg, .sl 3 (ks.map krow) tk]), (65, .sl 3 (ks.map krow) tk), (66, .int .i64 ks.length), (67, .int .i64 i)]) (fun _ => []) (fun i => i ≤ ks.length ∧ ∀ j, j < i → kok gs ks j) (fun i => ks.length - i) 0 ⟨⟨by omega, by intro j hj; omega⟩, EnvLe.of_eq rfl, .refl _⟩ ?_
   rintro i ⟨hi, hj⟩
   have hgr2 := gget_range hG (kat ks i).1
   have hneg : IntKind.wrap .i64 (0 - (gget gs (kat ks i).1).2) = -(gget gs (kat ks i).1).2 := by rw [w64 (by omega)]; omega
   refine sr_ [1, 65, 66, 67, 68] [] [] fun κ ξ hκ hξ => ?_
   simp +decide only [go_sem]
   refine hκ _ _ ?_
   refine sq ?_
   refine cd_ (fun c4 => ?_) (fun c4 => ?_)
   ·try simp only [go_sem] at c4
    refine sk ?_
    refine sq ?_
    refine bl ?_
    refine srz_ [(6, [])] [1, 5, 6, 65, 66, 67] [] [] fun κ ξ hκ hξ => ?_
    simp +decide only [go_sem, c4]
    repeat with_reducible refine an_ ?_
    intro b6 hb6
    refine hκ _ _ ?_
    refine srz_ [(7, [])] [1, 5, 6, 7, 8, 65, 66, 67] [] [] fun κ ξ hκ hξ => ?_
    simp +decide only [go_sem, hb6]
    refine callF (glyph_s hn hs) ?_
    simp +decide only [go_sem, hb6]
    intro b7 hb7
    refine hκ _ _ ?_
    refine sr_ [1, 5, 6, 7, 8, 10, 65, 66, 67] [] [] fun κ ξ hκ hξ => ?_
    simp +decide only [go_sem, hb6, hb7]
    refine callF (glyph_s hn hs) ?_
    simp +decide only [go_sem, hb6, hb7]
    intro b9 hb9
    refine hκ _ _ ?_
    refine sq ?_
    refine sr_ [1, 5, 6, 65, 66, 67, 104] [] [(2, 88), (6, 92), (11, 97)] fun κ ξ hκ hξ => ?_
    simp +decide only [go_sem, hneg, hb6, hb7, hb9]
    refine hκ _ _ ?_
    refine cd_ (fun c5 => ?_) (fun c5 => ?_)
    ·try simp only [go_sem] at c5
     refine sr_ [2] [] [] fun κ ξ hκ hξ => ?_
     simp +decide only [go_sem, hb6, hb7, hb9]
     refine hκ _ _ ?_
     refine rt ?_
     refine retE ?_
     simp +decide only [go_sem, resD, resV, c0, c1, hneg, c4, hb6, hb7, hb9, c5]
     all_goals rw [fok_false.2 ?_]
     rintro ⟨_, _, hh⟩
     have hq := hh i (by omega)
     simp only [kok, Nat.add_sub_cancel] at hq
     obtain ⟨q1, q2, q3, q4, q5⟩ := hq
     omega
    ·try simp only [go_sem] at c5
     refine sk ?_
     rcases i with _ | k
     ·have hi0 : ((0 : Nat) : Int) = 0 := rfl
      refine srd_ [1, 65, 66, 67, 121] [] [119] [(2, 107)] fun κ ξ hκ hξ => ?_
      simp +decide only [go_sem, hb6, hb7, hb9, c5, hi0]
      refine vd_gc (by rfl) ?_; simp +decide only [go_sem, c0, c1, hneg, c4, hb6, hb7, hb9, c5, hi0]; first | refine gcallN ?_ | refine gcallF (fun hg => ⟨by first | rfl | (simp +decide only [go_sem, hg, c0, c1, hneg, c4, hb6, hb7, hb9, c5, hi0]; done), kcmp_w _ (kp (kat ks (k + 1)))⟩) ?_
      simp +decide only [go_sem, hb6, hb7, hb9]
      refine hκ _ _ ?_
      refine cdf (by rfl) ?_
      refine sk ?_
      refine rr_ [1, 65, 66, 67] [] [] fun κ ξ hκ hξ => ?_
      simp +decide only [go_sem, hb6, hb7, hb9]
      refine hκ _ _ ?_
      refine ⟨0 + 1, ⟨⟨by omega, ?_⟩, by omega⟩, EnvLe.of_eq (by rw [w64 (by omega)]; rfl), List.nil_sublist _⟩
      intro j h
      rcases Nat.lt_succ_iff_lt_or_eq.1 h with h | rfl
      ·exact hj j h
      ·simp only [kok, Nat.add_sub_cancel]
       exact ⟨by omega, by omega, by omega, by omega, fun h0 => by omega⟩
     ·have hk1 : ((k + 1 : Nat) : Int) = (k : Int) + 1 := rfl
      have hk0 : (0 : Int) < (k : Int) + 1 := by omega
      have hkw : IntKind.wrap .i64 ((k : Int) + 1 - 1) = k := by rw [w64 (by omega)]; omega
      have hkl : (k : Int) < ks.length := by omega
      have hkl2 : (k : Int) + 1 < ks.length := by omega
      refine srd_ [1, 65, 66, 67, 121] [] [119] [(2, 107)] fun κ ξ hκ hξ => ?_
      simp +decide only [go_sem, hb6, hb7, hb9, c5, hk1, hk0, hkw, hkl]
      repeat with_reducible refine an_ ?_
      refine vd_gc (by rfl) ?_; simp +decide only [go_sem, c0, c1, hneg, c4, hb6, hb7, hb9, c5, hk1, hk0, hkw, hkl, hkl2]; first | refine gcallN ?_ | refine gcallF (fun hg => ⟨by first | rfl | (simp +decide only [go_sem, hg, c0, c1, hneg, c4, hb6, hb7, hb9, c5, hk1, hk0, hkw, hkl, hkl2]; done), kcmp_w _ (kp (kat ks (k + 1)))⟩) ?_
      simp +decide only [go_sem, hb6, hb7, hb9]
      refine hκ _ _ ?_
      refine cd_ (fun c6 => ?_) (fun c6 => ?_)
      ·try simp only [go_sem] at c6
       refine sr_ [2] [] [] fun κ ξ hκ hξ => ?_
       simp +decide only [go_sem, hb6, hb7, hb9, c6]
       refine hκ _ _ ?_
       refine rt ?_
       refine retE ?_
       simp +decide only [go_sem, resD, resV, c0, c1, hneg, c4, hb6, hb7, hb9, c5, hk1, hk0, hkw, hkl, hkl2, c6]
       all_goals rw [fok_false.2 ?_]
       rintro ⟨_, _, hh⟩
       have hq := hh (k + 1) (by omega)
       simp only [kok, Nat.add_sub_cancel] at hq
       obtain ⟨q1, q2, q3, q4, q5⟩ := hq
       have q6 := kcmp_lt.2 (q5 (by omega))
       omega
      ·try simp only [go_sem] at c6
       refine sk ?_
       refine rr_ [1, 65, 66, 67] [] [] fun κ ξ hκ hξ => ?_
       simp +decide only [go_sem, hb6, hb7, hb9, c6]
       refine hκ _ _ ?_
       refine ⟨(k + 1) + 1, ⟨⟨by omega, ?_⟩, by omega⟩, EnvLe.of_eq (by rw [w64 (by omega)]; rfl), List.nil_sublist _⟩
       intro j h
       rcases Nat.lt_succ_iff_lt_or_eq.1 h with h | rfl
       ·exact hj j h
       ·simp only [kok, Nat.add_sub_cancel]
        exact ⟨by omega, by omega, by omega, by omega, fun h0 => kcmp_lt.1 (by omega)⟩
   ·try simp only [go_sem] at c4
    refine ex ?_
    refine sr_ [2] [] [] fun κ ξ hκ hξ => ?_
    simp +decide only [go_sem, c4]
    refine hκ _ _ ?_
    refine rt ?_
    refine retE ?_
    simp +decide only [go_sem, resD, resV, c0, c1, hneg, c4]
    all_goals rw [fok_true.2 ⟨by omega, hG, fun j h => hj j (by omega)⟩]
end
section
attribute [local go_sem] List.length_map rowAt_n nrow rowAt_t trow rowAt_i irow
attribute [local go_sem] rowAt_g rowAt_k grow krow prow
theorem rfok_w (gs : List Gl) (ks : List Kn) (tg tk : Tok) : PCall Tryz.prog (.func 43) [.ag [.sl 2 (gs.map grow) tg, .sl 3 (ks.map krow) tk]] (.bool (fok gs ks)) := by
 refine PCall.ok fun hok => ?_
 simp only [okAll, D.ok, okRows, and_true, true_and, lim_eq, inR_i64', inR_i32', inR_u8', inR_u16', inR_u64'] at hok
 obtain ⟨⟨hg, hgr⟩, hk, hkr⟩ := hok; rw [List.length_map] at hg hk
 refine PCall.le ?_
 refine fn_ Tryz.func43 (by rfl) (by rfl) (rs := [.tmp 2]) (by rfl) (by simp [Tryz.f43]) ?_
 refine sr_ [1] [1] [] fun κ ξ hκ hξ => ?_
 simp +decide only [go_sem]
 refine hκ _ _ ?_
 refine sq ?_
 refine sr_ [1, 18] [] [(4, 13)] fun κ ξ hκ hξ => ?_
 simp +decide only [go_sem]
 refine hκ _ _ ?_
 refine cd_ (fun c0 => ?_) (fun c0 => ?_)
 ·try simp only [go_sem] at c0
  refine sr_ [2] [] [] fun κ ξ hκ hξ => ?_
  simp +decide only [go_sem]
  refine hκ _ _ ?_
  refine rt ?_
  refine retE ?_
  simp +decide only [go_sem, resD, resV, c0]
  all_goals rw [fok_false.2 ?_]
  rintro ⟨_, _⟩
  omega
 ·try simp only [go_sem] at c0
  refine sk ?_
  refine sq ?_
  refine sr_ [1, 3] [] [] fun κ ξ hκ hξ => ?_
  simp +decide only [go_sem, c0]
  refine hκ _ _ ?_
  refine bl ?_
  refine lp (α := Nat) (fun i => mk [(1, .el [.sl 2 (gs.map grow) tg, .sl 3 (ks.map krow) tk]), (3, .int .i64 i)]) (fun _ => []) (fun i => i ≤ gs.length ∧ ∀ j, j < i → gok gs j) (fun i => gs.length - i) 0 ⟨⟨by omega, by intro j hj; omega⟩, EnvLe.of_eq rfl, .refl _⟩ ?_
  rintro i ⟨hi, hj⟩
  refine sq ?_
  refine sr_ [1, 3, 23] [] [] fun κ ξ hκ hξ => ?_
  simp +decide only [go_sem]
  refine hκ _ _ ?_
  refine cd_ (fun c1 => ?_) (fun c1 => ?_)
  ·try simp only [go_sem] at c1
   refine sk ?_
   refine sq ?_
   refine bl ?_
   refine srz_ [(4, [])] [1, 3, 4] [] [] fun κ ξ hκ hξ => ?_
   simp +decide only [go_sem, c1]
   repeat with_reducible refine an_ ?_
   intro b4 hb4
   refine hκ _ _ ?_
   rcases i with _ | k
   ·have hi0 : ((0 : Nat) : Int) = 0 := rfl
    refine srd_ [1, 3, 64] [] [] [(3, 34), (8, 39), (13, 44), (18, 49), (21, 52)] fun κ ξ hκ hξ => ?_
    simp +decide only [go_sem, hb4, hi0]
    refine hκ _ _ ?_
    refine cd_ (fun c2 => ?_) (fun c2 => ?_)
    ·try simp only [go_sem] at c2
     refine sr_ [2] [] [] fun κ ξ hκ hξ => ?_
     simp +decide only [go_sem, hb4]
     refine hκ _ _ ?_
     refine rt ?_
     refine retE ?_
     simp +decide only [go_sem, resD, resV, c0, c1, hb4, hi0, c2]
     all_goals rw [fok_false.2 ?_]
     rintro ⟨_, hh, _⟩
     have := hh 0 (by omega)
     simp only [gok, Nat.add_sub_cancel] at this
     omega
    ·try simp only [go_sem] at c2
     refine sk ?_
     refine rr_ [1, 3] [] [] fun κ ξ hκ hξ => ?_
     simp +decide only [go_sem, hb4, c2]
     refine hκ _ _ ?_
     refine ⟨0 + 1, ⟨⟨by omega, ?_⟩, by omega⟩, EnvLe.of_eq (by rw [w64 (by omega)]; rfl), List.nil_sublist _⟩
     intro j h
     rcases Nat.lt_succ_iff_lt_or_eq.1 h with h | rfl
     ·exact hj j h
     ·simp only [gok, Nat.add_sub_cancel]
      exact ⟨by omega, by omega, by omega, by omega, fun h0 => by omega⟩
   ·have hk1 : ((k + 1 : Nat) : Int) = (k : Int) + 1 := rfl
    have hk0 : (0 : Int) < (k : Int) + 1 := by omega
    have hkw : IntKind.wrap .i64 ((k : Int) + 1 - 1) = k := by rw [w64 (by omega)]; omega
    have hkl : (k : Int) < gs.length := by omega
    have hkl2 : (k : Int) + 1 < gs.length := by omega
    refine srd_ [1, 3, 64] [] [] [(3, 34), (8, 39), (13, 44), (18, 49), (21, 52)] fun κ ξ hκ hξ => ?_
    simp +decide only [go_sem, hb4, hk1, hk0, hkw, hkl]
    repeat with_reducible refine an_ ?_
    refine hκ _ _ ?_
    refine cd_ (fun c3 => ?_) (fun c3 => ?_)
    ·try simp only [go_sem] at c3
     refine sr_ [2] [] [] fun κ ξ hκ hξ => ?_
     simp +decide only [go_sem, hb4]
     refine hκ _ _ ?_
     refine rt ?_
     refine retE ?_
     simp +decide only [go_sem, resD, resV, c0, c1, hb4, hk1, hk0, hkw, hkl, hkl2, c3]
     all_goals rw [fok_false.2 ?_]
     rintro ⟨_, hh, _⟩
     have := hh (k + 1) (by omega)
     simp only [gok, Nat.add_sub_cancel] at this
     omega
    ·try simp only [go_sem] at c3
     refine sk ?_
     refine rr_ [1, 3] [] [] fun κ ξ hκ hξ => ?_
     simp +decide only [go_sem, hb4, c3]
     refine hκ _ _ ?_
     refine ⟨(k + 1) + 1, ⟨⟨by omega, ?_⟩, by omega⟩, EnvLe.of_eq (by rw [w64 (by omega)]; rfl), List.nil_sublist _⟩
     intro j h
     rcases Nat.lt_succ_iff_lt_or_eq.1 h with h | rfl
     ·exact hj j h
     ·simp only [gok, Nat.add_sub_cancel]
      exact ⟨by omega, by omega, by omega, by omega, fun h0 => by omega⟩
  ·try simp only [go_sem] at c1
   refine ex ?_
   refine sq ?_
   refine sr_ [1, 5] [] [] fun κ ξ hκ hξ => ?_
   simp +decide only [go_sem, c1]
   refine hκ _ _ ?_
   refine bl ?_
   have hG : ∀ i, i < gs.length → gok gs i := fun j h => hj j (by omega)
   have hs := fok_sorted hG
   refine lp (α := Nat) (fun i => mk [(1, .el [.sl 2 (gs.map grow) tg, .sl 3 (ks.map krow) tk]), (5, .int .i64 i)]) (fun _ => []) (fun i => i ≤ ks.length ∧ ∀ j, j < i → kok gs ks j) (fun i => ks.length - i) 0 ⟨⟨by omega, by intro j hj; omega⟩, EnvLe.of_eq rfl, .refl _⟩ ?_
   rintro i ⟨hi, hj⟩
   refine sq ?_
   refine sr_ [1, 5, 69] [] [] fun κ ξ hκ hξ => ?_
   simp +decide only [go_sem]
   refine hκ _ _ ?_
   refine cd_ (fun c4 => ?_) (fun c4 => ?_)
   ·try simp only [go_sem] at c4
    refine sk ?_
    refine sq ?_
    refine bl ?_
    refine srz_ [(6, [])] [1, 5, 6] [] [] fun κ ξ hκ hξ => ?_
    simp +decide only [go_sem, c4]
    repeat with_reducible refine an_ ?_
    intro b6 hb6
    refine hκ _ _ ?_
    refine sr_ [1, 5, 6, 7] [] [] fun κ ξ hκ hξ => ?_
    simp +decide only [go_sem, hb6]
    refine callF (rglyph_w _ _ _ _ _) ?_
    simp +decide only [go_sem, hb6]
    refine hκ _ _ ?_
    refine sr_ [1, 5, 6, 7, 8] [] [] fun κ ξ hκ hξ => ?_
    simp +decide only [go_sem, hb6]
    refine callF (rglyph_w _ _ _ _ _) ?_
    simp +decide only [go_sem, hb6]
    refine hκ _ _ ?_
    refine sq ?_
    rcases gidx_cases gs (kat ks i).1 with ⟨a, ha, hab, hga⟩ | ⟨hno, hga⟩
    ·have hal : (a : Int) < gs.length := by omega
     have han : ¬ (a : Int) < 0 := by omega
     have hgg : gget gs (kat ks i).1 = gat gs a := by unfold gget; rw [hga, if_pos (by omega), Int.toNat_natCast]
     have hadv : 0 ≤ (gat gs a).2 ∧ (gat gs a).2 ≤ 1000 := by have := gget_range hG (kat ks i).1; rwa [hgg] at this
     have hkb := kby_iff (a := (gat gs a).2) (b := (kat ks i).2.2) hadv
     refine srd_ [1, 5, 6, 112] [] [] [(2, 87), (6, 91), (11, 96), (16, 101)] fun κ ξ hκ hξ => ?_
     simp +decide only [go_sem, hb6, hga, hal, han]
     repeat with_reducible refine an_ ?_
     refine hκ _ _ ?_
     refine cd_ (fun c5 => ?_) (fun c5 => ?_)
     ·try simp only [go_sem] at c5
      refine sr_ [2] [] [] fun κ ξ hκ hξ => ?_
      simp +decide only [go_sem, hb6]
      refine hκ _ _ ?_
      refine rt ?_
      refine retE ?_
      simp +decide only [go_sem, resD, resV, c0, c1, c4, hb6, hga, hal, han, c5]
      all_goals rw [fok_false.2 ?_]
      rintro ⟨_, _, hh⟩
      have hq := hh i (by omega)
      simp only [kok, hgg, hga] at hq
      obtain ⟨q1, q2, q3, q4, q5⟩ := hq
      omega
     ·try simp only [go_sem] at c5
      refine sk ?_
      rcases i with _ | k
      ·have hi0 : ((0 : Nat) : Int) = 0 := rfl
       refine srd_ [1, 5, 150] [] [] [(2, 115), (13, 126), (24, 137)] fun κ ξ hκ hξ => ?_
       simp +decide only [go_sem, hb6, c5, hi0]
       refine hκ _ _ ?_
       refine cdf (by rfl) ?_
       refine sk ?_
       refine rr_ [1, 5] [] [] fun κ ξ hκ hξ => ?_
       simp +decide only [go_sem, hb6]
       refine hκ _ _ ?_
       refine ⟨0 + 1, ⟨⟨by omega, ?_⟩, by omega⟩, EnvLe.of_eq (by rw [w64 (by omega)]; rfl), List.nil_sublist _⟩
       intro j h
       rcases Nat.lt_succ_iff_lt_or_eq.1 h with h | rfl
       ·exact hj j h
       ·simp only [kok, Nat.add_sub_cancel, hgg, hga]
        exact ⟨by omega, by omega, by omega, by omega, fun h0 => by omega⟩
      ·have hk1 : ((k + 1 : Nat) : Int) = (k : Int) + 1 := rfl
       have hk0 : (0 : Int) < (k : Int) + 1 := by omega
       have hkw : IntKind.wrap .i64 ((k : Int) + 1 - 1) = k := by rw [w64 (by omega)]; omega
       have hkl : (k : Int) < ks.length := by omega
       have hkl2 : (k : Int) + 1 < ks.length := by omega
       refine srd_ [1, 5, 150] [] [] [(2, 115), (13, 126), (24, 137)] fun κ ξ hκ hξ => ?_
       simp +decide only [go_sem, hb6, c5, hk1, hk0, hkw, hkl]
       repeat with_reducible refine an_ ?_
       refine hκ _ _ ?_
       refine cd_ (fun c6 => ?_) (fun c6 => ?_)
       ·try simp only [go_sem] at c6
        refine sr_ [2] [] [] fun κ ξ hκ hξ => ?_
        simp +decide only [go_sem, hb6]
        refine hκ _ _ ?_
        refine rt ?_
        refine retE ?_
        simp +decide only [go_sem, resD, resV, c0, c1, c4, hb6, hga, hal, han, c5, hk1, hk0, hkw, hkl, hkl2, c6]
        all_goals rw [fok_false.2 ?_]
        rintro ⟨_, _, hh⟩
        have hq := hh (k + 1) (by omega)
        simp only [kok, Nat.add_sub_cancel, kp, klt] at hq
        obtain ⟨q1, q2, q3, q4, q5⟩ := hq
        have q6 := q5 (by omega)
        omega
       ·try simp only [go_sem] at c6
        refine sk ?_
        refine rr_ [1, 5] [] [] fun κ ξ hκ hξ => ?_
        simp +decide only [go_sem, hb6, c6]
        refine hκ _ _ ?_
        refine ⟨(k + 1) + 1, ⟨⟨by omega, ?_⟩, by omega⟩, EnvLe.of_eq (by rw [w64 (by omega)]; rfl), List.nil_sublist _⟩
        intro j h
        rcases Nat.lt_succ_iff_lt_or_eq.1 h with h | rfl
        ·exact hj j h
        ·simp only [kok, Nat.add_sub_cancel, hgg, hga, kp, klt]
         exact ⟨by omega, by omega, by omega, by omega, fun h0 => by omega⟩
    ·have hgn : (-1 : Int) < 0 := by omega
     refine srd_ [1, 5, 6, 112] [] [] [(2, 87), (6, 91), (11, 96), (16, 101)] fun κ ξ hκ hξ => ?_
     simp +decide only [go_sem, hb6, hga]
     refine hκ _ _ ?_
     refine cdt (by rfl) ?_
     refine sr_ [2] [] [] fun κ ξ hκ hξ => ?_
     simp +decide only [go_sem, hb6]
     refine hκ _ _ ?_
     refine rt ?_
     refine retE ?_
     simp +decide only [go_sem, resD, resV, c0, c1, c4, hb6, hga, hgn]
     all_goals rw [fok_false.2 ?_]
     rintro ⟨_, _, hh⟩
     have hq := hh i (by omega)
     simp only [kok, hga] at hq
     obtain ⟨q1, q2, q3, q4, q5⟩ := hq
     omega
   ·try simp only [go_sem] at c4
    refine ex ?_
    refine sr_ [2] [] [] fun κ ξ hκ hξ => ?_
    simp +decide only [go_sem, c4]
    refine hκ _ _ ?_
    refine rt ?_
    refine retE ?_
    simp +decide only [go_sem, resD, resV, c0, c1, c4]
    all_goals rw [fok_true.2 ⟨by omega, hG, fun j h => hj j (by omega)⟩]
end
end Go.Proofs.YtinhjbnljbmbcaaGreat
/- Joined. -/
namespace Go.Proofs.YtinhjbnljbmbcaaGreat
open Go Go.RowKit
set_option linter.unusedSimpArgs false
set_option linter.unusedVariables false
set_option maxHeartbeats 4000000
set_option maxRecDepth 100000
attribute [local go_sem] List.length_map rowAt_n nrow rowAt_t trow rowAt_i irow
attribute [local go_sem] rowAt_e rowAt_tm rowAt_dc rowAt_ru tmrow dcrow rurow
attribute [local go_sem] rowAt_br rowAt_s rowAt_fo rowAt_ve rowAt_g rowAt_k grow krow srow brrow forow dorow verow
attribute [local go_sem] kpE_get kpE_look
theorem bwi_w (n : Int) : PCall Tryz.prog (.func 72) [.int .i64 n] (.bool (bwB n)) := by
 refine PCall.le ?_
 refine fn_ Tryz.func72 (by rfl) (by rfl) (rs := [.tmp 2]) (by rfl) (by simp [Tryz.f72]) ?_
 refine sr_ [0] [] [] fun κ ξ hκ hξ => ?_
 simp +decide only [go_sem]
 refine hκ _ _ ?_
 refine sr_ [2] [] [(2, 5)] fun κ ξ hκ hξ => ?_
 simp +decide only [go_sem]
 refine hκ _ _ ?_
 refine rt ?_
 refine retE ?_
 simp +decide only [go_sem, resD, resV]
 all_goals congr 1
 all_goals rw [Bool.eq_iff_iff]
 all_goals simp [bwB]
 all_goals omega
theorem bsm_w (n : Int) : PCall Tryz.prog (.func 73) [.int .u8 n] (.bool (decide (97 ≤ n ∧ n ≤ 122))) := by
 refine PCall.le ?_
 refine fn_ Tryz.func73 (by rfl) (by rfl) (rs := [.tmp 2]) (by rfl) (by simp [Tryz.f73]) ?_
 refine sr_ [0] [] [] fun κ ξ hκ hξ => ?_
 simp +decide only [go_sem]
 refine hκ _ _ ?_
 refine sr_ [2] [] [(2, 5)] fun κ ξ hκ hξ => ?_
 simp +decide only [go_sem]
 refine hκ _ _ ?_
 refine rt ?_
 refine retE ?_
 simp +decide only [go_sem, resD, resV]
 all_goals congr 1
 all_goals rw [Bool.eq_iff_iff]
 all_goals simp []
 all_goals omega
theorem brv_w (b : Br) : PCall Tryz.prog (.func 38) [.ag (brrow b)] (.bool (brB b)) := by
 refine PCall.ok fun hok => ?_
 simp only [okAll, D.ok, okRows, and_true, true_and, lim_eq, inR_i64', inR_i32', inR_u8', inR_u16', inR_u64'] at hok
 simp only [brrow, okAll, D.ok, okRows, and_true, true_and, lim_eq, inR_i64'] at hok
 obtain ⟨h1, h2, hk, hkr⟩ := hok; rw [List.length_map] at hk
 refine PCall.le ?_
 refine fn_ Tryz.func38 (by rfl) (by rfl) (rs := [.tmp 2]) (by rfl) (by simp [Tryz.f38]) ?_
 refine sr_ [1] [1] [] fun κ ξ hκ hξ => ?_
 simp +decide only [go_sem]
 refine hκ _ _ ?_
 refine sq ?_
 refine sr_ [1, 21] [] [(4, 10), (10, 16)] fun κ ξ hκ hξ => ?_
 simp +decide only [go_sem]
 refine callF (bwi_w _) ?_
 simp +decide only [go_sem]
 refine vo_gc ?_
 simp +decide only [go_sem]
 refine gcF (bwi_w _) ?_
 simp +decide only [go_sem]
 refine hκ _ _ ?_
 refine cd_ (fun c0 => ?_) (fun c0 => ?_)
 ·try simp only [go_sem] at c0
  refine sr_ [2] [] [] fun κ ξ hκ hξ => ?_
  simp +decide only [go_sem]
  refine hκ _ _ ?_
  refine rt ?_
  refine retE ?_
  simp +decide only [go_sem, resD, resV, Int.toNat_one, c0]
  congr 1
  symm
  rw [← Bool.not_eq_true, br_true]
  rintro ⟨⟨a, b, c⟩, _⟩
  unfold bwB at c0
  simp at c0
  omega
 ·try simp only [go_sem] at c0
  refine sk ?_
  refine sr_ [1, 3] [] [] fun κ ξ hκ hξ => ?_
  simp +decide only [go_sem, c0]
  intro b22 hb22
  refine hκ _ _ ?_
  refine sq ?_
  refine sr_ [3, 24, 25, 26] [] [] fun κ ξ hκ hξ => ?_
  simp +decide only [go_sem, hb22]
  refine hκ _ _ ?_
  refine bl ?_
  refine lp (α := Nat) (fun i => mk [(3, .mp b22), (24, .sl 1 (b.keep.map srow) .no), (25, .int .i64 b.keep.length), (26, .int .i64 i)]) (fun i => [(b22, .map (kpE b.keep i))]) (fun i => i ≤ b.keep.length ∧ ∀ j, j < i → kpB b.keep j = true) (fun i => b.keep.length - i) 0 ⟨⟨by omega, by intro j hj; omega⟩, EnvLe.of_eq rfl, .refl _⟩ ?_
  rintro i ⟨hi, hj⟩
  refine sr_ [3, 24, 25, 26, 27] [] [] fun κ ξ hκ hξ => ?_
  simp +decide only [go_sem, hb22]
  refine hκ _ _ ?_
  refine sq ?_
  refine cd_ (fun c1 => ?_) (fun c1 => ?_)
  ·try simp only [go_sem] at c1
   refine sk ?_
   refine sq ?_
   refine bl ?_
   refine sr_ [3, 5, 24, 25, 26] [] [] fun κ ξ hκ hξ => ?_
   simp +decide only [go_sem, hb22, c1]
   repeat with_reducible refine an_ ?_
   refine hκ _ _ ?_
   refine sq ?_
   refine sr_ [3, 5, 24, 25, 26, 49] [] [(3, 33), (9, 39), (15, 45)] fun κ ξ hκ hξ => ?_
   simp +decide only [go_sem, hb22]
   repeat with_reducible refine an_ ?_
   refine vo_gc ?_
   simp +decide only [go_sem, hb22]
   refine gcF (bsm_w _) ?_
   simp +decide only [go_sem, Int.toNat_one, hb22]
   repeat with_reducible refine an_ ?_
   refine vo_gc ?_
   simp +decide only [go_sem, hb22]
   refine gcF (bsm_w _) ?_
   simp +decide only [go_sem, hb22]
   refine hκ _ _ ?_
   refine cd_ (fun c2 => ?_) (fun c2 => ?_)
   ·simp only [go_sem] at c2
    refine sr_ [2] [] [] fun κ ξ hκ hξ => ?_
    simp +decide only [go_sem, hb22]
    refine hκ _ _ ?_
    refine rt ?_
    refine retE ?_
    simp +decide only [go_sem, resD, resV, Int.toNat_one, c0, hb22, c1, c2]
    congr 1
    symm
    refine br_no (i := i) (by omega) ?_
    rw [← Bool.not_eq_true, kp_true]
    rintro ⟨⟨a, b, c⟩, d⟩
    rcases c2 with c2 | c2
    ·omega
    ·exact d c2
   ·simp only [go_sem] at c2
    have hkp : kpB b.keep i = true := by
     rw [kp_true]
     exact ⟨by omega, by simpa using c2.2⟩
    have hput := kpE_put (l := b.keep) (i := i) (by omega) (kp_true.1 hkp).2
    refine sk ?_
    refine rr_ [3, 24, 25, 26] [] [] fun κ ξ hκ hξ => ?_
    simp +decide only [go_sem, hb22, c2, hput]
    refine hκ _ _ ?_
    refine rr_ [3, 24, 25, 26] [] [] fun κ ξ hκ hξ => ?_
    simp +decide only [go_sem, hb22]
    refine hκ _ _ ?_
    refine ⟨i + 1, ⟨⟨by omega, ?_⟩, by omega⟩, EnvLe.of_eq (by rw [w64 (by omega)]; rfl), .refl _⟩
    intro j h
    rcases Nat.lt_succ_iff_lt_or_eq.1 h with h | rfl
    ·exact hj j h
    ·assumption
  ·try simp only [go_sem] at c1
   refine ex ?_
   refine sr_ [2] [] [] fun κ ξ hκ hξ => ?_
   simp +decide only [go_sem, hb22, c1]
   refine hκ _ _ ?_
   refine rt ?_
   refine retE ?_
   simp +decide only [go_sem, resD, resV, Int.toNat_one, c0, hb22, c1]
   congr 1
   symm
   rw [br_true]
   unfold bwB at c0
   simp at c0
   exact ⟨by omega, fun j h => hj j (by omega)⟩
theorem rbrv_w (b : Br) : PCall Tryz.prog (.func 44) [.ag (brrow b)] (.bool (brB b)) := by
 refine PCall.ok fun hok => ?_
 simp only [okAll, D.ok, okRows, and_true, true_and, lim_eq, inR_i64', inR_i32', inR_u8', inR_u16', inR_u64'] at hok
 simp only [brrow, okAll, D.ok, okRows, and_true, true_and, lim_eq, inR_i64'] at hok
 obtain ⟨h1, h2, hk, hkr⟩ := hok; rw [List.length_map] at hk
 refine PCall.le ?_
 refine fn_ Tryz.func44 (by rfl) (by rfl) (rs := [.tmp 2]) (by rfl) (by simp [Tryz.f44]) ?_
 refine sr_ [1] [1] [] fun κ ξ hκ hξ => ?_
 simp +decide only [go_sem]
 refine hκ _ _ ?_
 refine sq ?_
 refine sr_ [1, 29] [] [(3, 9), (8, 14), (13, 19), (18, 24)] fun κ ξ hκ hξ => ?_
 simp +decide only [go_sem]
 refine hκ _ _ ?_
 refine cd_ (fun c0 => ?_) (fun c0 => ?_)
 ·try simp only [go_sem] at c0
  refine sr_ [2] [] [] fun κ ξ hκ hξ => ?_
  simp +decide only [go_sem]
  refine hκ _ _ ?_
  refine rt ?_
  refine retE ?_
  simp +decide only [go_sem, resD, resV, Int.toNat_one, c0]
  congr 1
  symm
  rw [← Bool.not_eq_true, br_true]
  rintro ⟨⟨a, b, c⟩, _⟩
  omega
 ·try simp only [go_sem] at c0
  refine sk ?_
  refine sq ?_
  refine sr_ [1, 3] [] [] fun κ ξ hκ hξ => ?_
  simp +decide only [go_sem, c0]
  refine hκ _ _ ?_
  refine bl ?_
  refine lp (α := Nat) (fun i => mk [(1, .el [.int .i64 b.bef, .int .i64 b.beh, .sl 1 (b.keep.map srow) .no]), (3, .int .i64 i)]) (fun i => []) (fun i => i ≤ b.keep.length ∧ ∀ j, j < i → kpB b.keep j = true) (fun i => b.keep.length - i) 0 ⟨⟨by omega, by intro j hj; omega⟩, EnvLe.of_eq rfl, .refl _⟩ ?_
  rintro i ⟨hi, hj⟩
  refine sq ?_
  refine sr_ [1, 3, 34] [] [] fun κ ξ hκ hξ => ?_
  simp +decide only [go_sem]
  refine hκ _ _ ?_
  refine cd_ (fun c1 => ?_) (fun c1 => ?_)
  ·try simp only [go_sem] at c1
   refine sk ?_
   refine sq ?_
   refine bl ?_
   refine sr_ [1, 3, 4] [] [] fun κ ξ hκ hξ => ?_
   simp +decide only [go_sem, c1]
   repeat with_reducible refine an_ ?_
   refine hκ _ _ ?_
   refine sq ?_
   refine sr_ [1, 3, 4, 64] [] [(3, 45), (8, 50), (13, 55), (18, 60)] fun κ ξ hκ hξ => ?_
   simp +decide only [go_sem, Int.toNat_one]
   repeat with_reducible refine an_ ?_
   refine hκ _ _ ?_
   refine cd_ (fun c2 => ?_) (fun c2 => ?_)
   ·try simp only [go_sem] at c2
    refine sr_ [2] [] [] fun κ ξ hκ hξ => ?_
    simp +decide only [go_sem]
    refine hκ _ _ ?_
    refine rt ?_
    refine retE ?_
    simp +decide only [go_sem, resD, resV, Int.toNat_one, c0, c1, c2]
    congr 1
    symm
    refine br_no (i := i) (by omega) ?_
    rw [← Bool.not_eq_true, kp_true]
    rintro ⟨⟨a, b, c⟩, d⟩
    omega
   ·try simp only [go_sem] at c2
    refine sk ?_
    refine sr_ [1, 3, 4, 5] [] [] fun κ ξ hκ hξ => ?_
    simp +decide only [go_sem, c2]
    refine hκ _ _ ?_
    refine bl ?_
    refine lp (α := Nat) (fun k => mk [(1, .el [.int .i64 b.bef, .int .i64 b.beh, .sl 1 (b.keep.map srow) .no]), (3, .int .i64 i), (4, .str (kpat b.keep i)), (5, .int .i64 k)]) (fun _ => []) (fun k => k ≤ i ∧ ∀ j, j < k → kpat b.keep j ≠ kpat b.keep i) (fun k => i - k) 0 ⟨⟨by omega, by intro j hj; omega⟩, EnvLe.of_eq rfl, .refl _⟩ ?_
    rintro k ⟨hk2, hjk⟩
    refine sq ?_
    refine sr_ [1, 3, 4, 5, 67] [] [] fun κ ξ hκ hξ => ?_
    simp +decide only [go_sem]
    refine hκ _ _ ?_
    refine cd_ (fun c3 => ?_) (fun c3 => ?_)
    ·simp only [go_sem] at c3
     have hkl : (k : Int) < b.keep.length := by omega
     refine sk ?_
     refine sq ?_
     refine bl ?_
     refine sr_ [1, 3, 4, 5, 76] [] [] fun κ ξ hκ hξ => ?_
     simp +decide only [go_sem, c3, hkl]
     repeat with_reducible refine an_ ?_
     refine hκ _ _ ?_
     refine cd_ (fun c4 => ?_) (fun c4 => ?_)
     ·try simp only [go_sem] at c4
      refine sr_ [2] [] [] fun κ ξ hκ hξ => ?_
      simp +decide only [go_sem, c4]
      refine hκ _ _ ?_
      refine rt ?_
      refine retE ?_
      simp +decide only [go_sem, resD, resV, Int.toNat_one, c0, c1, c2, c3, hkl, c4]
      congr 1
      symm
      refine br_no (i := i) (by omega) ?_
      rw [← Bool.not_eq_true, kp_true]
      rintro ⟨⟨a, b, c⟩, d⟩
      exact d (kp_in (j := k) (by omega) (by omega) (by assumption))
     ·try simp only [go_sem] at c4
      refine sk ?_
      refine rr_ [1, 3, 4, 5] [] [] fun κ ξ hκ hξ => ?_
      simp +decide only [go_sem, c4]
      refine hκ _ _ ?_
      refine ⟨k + 1, ⟨⟨by omega, ?_⟩, by omega⟩, EnvLe.of_eq (by rw [w64 (by omega)]; rfl), List.nil_sublist _⟩
      intro j h
      rcases Nat.lt_succ_iff_lt_or_eq.1 h with h | rfl
      ·exact hjk j h
      ·assumption
    ·simp only [go_sem] at c3
     refine ex ?_
     refine rr_ [1, 3] [] [] fun κ ξ hκ hξ => ?_
     simp +decide only [go_sem, c3]
     refine hκ _ _ ?_
     refine ⟨i + 1, ⟨⟨by omega, ?_⟩, by omega⟩, EnvLe.of_eq (by rw [w64 (by omega)]; rfl), List.nil_sublist _⟩
     intro j h
     rcases Nat.lt_succ_iff_lt_or_eq.1 h with h | rfl
     ·exact hj j h
     ·rw [kp_true]
      exact ⟨by omega, kp_notin (by omega) fun x hx => hjk x (by omega)⟩
  ·try simp only [go_sem] at c1
   refine ex ?_
   refine sr_ [2] [] [] fun κ ξ hκ hξ => ?_
   simp +decide only [go_sem, c1]
   refine hκ _ _ ?_
   refine rt ?_
   refine retE ?_
   simp +decide only [go_sem, resD, resV, Int.toNat_one, c0, c1]
   congr 1
   symm
   rw [br_true]
   exact ⟨by omega, fun j h => hj j (by omega)⟩
end Go.Proofs.YtinhjbnljbmbcaaGreat
/- The walks of documents. Printed by a tool of our own. -/
namespace Go.Proofs.YtinhjbnljbmbcaaGreat
open Go Go.RowKit
set_option linter.unusedSimpArgs false
set_option linter.unusedVariables false
set_option maxHeartbeats 4000000
set_option maxRecDepth 100000
attribute [local go_sem] List.length_map rowAt_n nrow rowAt_t trow rowAt_i irow
attribute [local go_sem] rowAt_e rowAt_tm rowAt_dc rowAt_ru tmrow dcrow rurow
attribute [local go_sem] rowAt_br rowAt_s rowAt_fo rowAt_ve rowAt_g rowAt_k grow krow srow brrow forow dorow verow
attribute [local go_sem] kpE_get kpE_look
theorem v1_w (f : Fo) : PCall Tryz.prog (.func 35) [.ag (forow f)] (.bool (!fokB f)) := by
 refine PCall.le ?_
 refine fn_ Tryz.func35 (by rfl) (by rfl) (rs := [.tmp 2]) (by rfl) (by simp [Tryz.f35]) ?_
 refine sr_ [1] [1] [] fun κ ξ hκ hξ => ?_
 simp +decide only [go_sem]
 refine hκ _ _ ?_
 refine sr_ [2] [] [] fun κ ξ hκ hξ => ?_
 simp +decide only [go_sem]
 refine callF (fok_w _ _ _ _) ?_
 simp +decide only [go_sem]
 refine hκ _ _ ?_
 refine rt ?_
 refine retE ?_
 simp +decide only [go_sem, resD, resV]
 all_goals rfl
theorem v2_w (b : Br) : PCall Tryz.prog (.func 37) [.ag (brrow b)] (.bool (!brB b)) := by
 refine PCall.le ?_
 refine fn_ Tryz.func37 (by rfl) (by rfl) (rs := [.tmp 2]) (by rfl) (by simp [Tryz.f37]) ?_
 refine sr_ [1] [1] [] fun κ ξ hκ hξ => ?_
 simp +decide only [go_sem]
 refine hκ _ _ ?_
 refine sr_ [2] [] [] fun κ ξ hκ hξ => ?_
 simp +decide only [go_sem]
 refine callF (brv_w _) ?_
 simp +decide only [go_sem]
 refine hκ _ _ ?_
 refine rt ?_
 refine retE ?_
 simp +decide only [go_sem, resD, resV]
 
theorem iffo_w (l : List Fo) (t : Tok) : PCall Tryz.prog (.func 74) [.sl 2 (l.map forow) t, .fn (.func 35) [] []] (.int .i64 (fixI (fun x => !fokB x) l)) := by
 refine PCall.ok fun hok => ?_
 simp only [okAll, D.ok, okRows, and_true, true_and, lim_eq, inR_i64', inR_i32', inR_u8', inR_u16', inR_u64'] at hok
 obtain ⟨hl, hr⟩ := hok; rw [List.length_map] at hl
 refine PCall.le ?_
 refine fn_ Tryz.func74 (by rfl) (by rfl) (rs := [.tmp 4]) (by rfl) (by simp [Tryz.f74]) ?_
 refine sr_ [0, 1] [] [] fun κ ξ hκ hξ => ?_
 simp +decide only [go_sem]
 refine hκ _ _ ?_
 refine sq ?_
 refine sr_ [0, 1, 7, 8] [] [] fun κ ξ hκ hξ => ?_
 simp +decide only [go_sem]
 refine hκ _ _ ?_
 refine bl ?_
 refine lp (α := Nat) (fun i => mk [(0, .sl 2 (l.map forow) t), (1, .fn (.func 35) [] []), (7, .int .i64 l.length), (8, .int .i64 i)]) (fun _ => []) (fun i => i ≤ l.length ∧ ∀ j, j < i → fokB (foat l j) = true) (fun i => l.length - i) 0 ⟨⟨by omega, by intro j hj; omega⟩, EnvLe.of_eq rfl, .refl _⟩ ?_
 rintro i ⟨hi, hj⟩
 refine sr_ [0, 1, 7, 8, 9] [] [] fun κ ξ hκ hξ => ?_
 simp +decide only [go_sem]
 refine hκ _ _ ?_
 refine sq ?_
 refine cd_ (fun c0 => ?_) (fun c0 => ?_)
 ·try simp only [go_sem] at c0
  refine sk ?_
  refine sq ?_
  refine bl ?_
  refine sr_ [0, 1, 5, 7, 8] [] [] fun κ ξ hκ hξ => ?_
  simp +decide only [go_sem, c0]
  refine hκ _ _ ?_
  refine sr_ [0, 1, 5, 7, 8, 16] [] [] fun κ ξ hκ hξ => ?_
  simp +decide only [go_sem, c0]
  repeat with_reducible refine an_ ?_
  refine callF (v1_w _) ?_
  simp +decide only [go_sem]
  refine hκ _ _ ?_
  refine cd_ (fun c1 => ?_) (fun c1 => ?_)
  ·try simp only [go_sem] at c1
   refine sr_ [4] [] [] fun κ ξ hκ hξ => ?_
   simp +decide only [go_sem, c1]
   refine hκ _ _ ?_
   refine rt ?_
   refine retE ?_
   simp +decide only [go_sem, resD, resV, c0, c1]
   congr 1
   rw [fixI_some (p := fun x => !fokB x) (d := fo0) (i := i) (by omega) (by simpa [foat] using c1) fun j h => by simpa [foat] using hj j h]
  ·try simp only [go_sem] at c1
   refine sk ?_
   refine rr_ [0, 1, 7, 8] [] [] fun κ ξ hκ hξ => ?_
   simp +decide only [go_sem, c1]
   refine hκ _ _ ?_
   refine ⟨i + 1, ⟨⟨by omega, ?_⟩, by omega⟩, EnvLe.of_eq (by rw [w64 (by omega)]; rfl), List.nil_sublist _⟩
   intro j h
   rcases Nat.lt_succ_iff_lt_or_eq.1 h with h | rfl
   ·exact hj j h
   ·first | assumption | simpa using c1
 ·try simp only [go_sem] at c0
  refine ex ?_
  refine sr_ [4] [] [] fun κ ξ hκ hξ => ?_
  simp +decide only [go_sem, c0]
  refine hκ _ _ ?_
  refine rt ?_
  refine retE ?_
  simp +decide only [go_sem, resD, resV, c0]
  congr 1
  rw [fixI_none (p := fun x => !fokB x) (d := fo0) fun j h => by simpa [foat] using hj j (by omega)]
theorem cffo_w (l : List Fo) (t : Tok) : PCall Tryz.prog (.func 39) [.sl 2 (l.map forow) t, .fn (.func 35) [] []] (.bool (!l.all fokB)) := by
 refine PCall.le ?_
 refine fn_ Tryz.func39 (by rfl) (by rfl) (rs := [.tmp 4]) (by rfl) (by simp [Tryz.f39]) ?_
 refine sr_ [0, 1] [] [] fun κ ξ hκ hξ => ?_
 simp +decide only [go_sem]
 refine hκ _ _ ?_
 refine sr_ [4] [] [] fun κ ξ hκ hξ => ?_
 simp +decide only [go_sem]
 refine callF (iffo_w _ _) ?_
 simp +decide only [go_sem]
 refine hκ _ _ ?_
 refine rt ?_
 refine retE ?_
 simp +decide only [go_sem, resD, resV]
 all_goals congr 1
 all_goals exact fix_all _ fo0 _
theorem ifbr_w (l : List Br) (t : Tok) : PCall Tryz.prog (.func 75) [.sl 3 (l.map brrow) t, .fn (.func 37) [] []] (.int .i64 (fixI (fun x => !brB x) l)) := by
 refine PCall.ok fun hok => ?_
 simp only [okAll, D.ok, okRows, and_true, true_and, lim_eq, inR_i64', inR_i32', inR_u8', inR_u16', inR_u64'] at hok
 obtain ⟨hl, hr⟩ := hok; rw [List.length_map] at hl
 refine PCall.le ?_
 refine fn_ Tryz.func75 (by rfl) (by rfl) (rs := [.tmp 4]) (by rfl) (by simp [Tryz.f75]) ?_
 refine sr_ [0, 1] [] [] fun κ ξ hκ hξ => ?_
 simp +decide only [go_sem]
 refine hκ _ _ ?_
 refine sq ?_
 refine sr_ [0, 1, 7, 8] [] [] fun κ ξ hκ hξ => ?_
 simp +decide only [go_sem]
 refine hκ _ _ ?_
 refine bl ?_
 refine lp (α := Nat) (fun i => mk [(0, .sl 3 (l.map brrow) t), (1, .fn (.func 37) [] []), (7, .int .i64 l.length), (8, .int .i64 i)]) (fun _ => []) (fun i => i ≤ l.length ∧ ∀ j, j < i → brB (brat l j) = true) (fun i => l.length - i) 0 ⟨⟨by omega, by intro j hj; omega⟩, EnvLe.of_eq rfl, .refl _⟩ ?_
 rintro i ⟨hi, hj⟩
 refine sr_ [0, 1, 7, 8, 9] [] [] fun κ ξ hκ hξ => ?_
 simp +decide only [go_sem]
 refine hκ _ _ ?_
 refine sq ?_
 refine cd_ (fun c0 => ?_) (fun c0 => ?_)
 ·try simp only [go_sem] at c0
  refine sk ?_
  refine sq ?_
  refine bl ?_
  refine sr_ [0, 1, 5, 7, 8] [] [] fun κ ξ hκ hξ => ?_
  simp +decide only [go_sem, c0]
  refine hκ _ _ ?_
  refine sr_ [0, 1, 5, 7, 8, 16] [] [] fun κ ξ hκ hξ => ?_
  simp +decide only [go_sem, c0]
  repeat with_reducible refine an_ ?_
  refine callF (v2_w _) ?_
  simp +decide only [go_sem]
  refine hκ _ _ ?_
  refine cd_ (fun c1 => ?_) (fun c1 => ?_)
  ·try simp only [go_sem] at c1
   refine sr_ [4] [] [] fun κ ξ hκ hξ => ?_
   simp +decide only [go_sem, c1]
   refine hκ _ _ ?_
   refine rt ?_
   refine retE ?_
   simp +decide only [go_sem, resD, resV, c0, c1]
   congr 1
   rw [fixI_some (p := fun x => !brB x) (d := br0) (i := i) (by omega) (by simpa [brat] using c1) fun j h => by simpa [brat] using hj j h]
  ·try simp only [go_sem] at c1
   refine sk ?_
   refine rr_ [0, 1, 7, 8] [] [] fun κ ξ hκ hξ => ?_
   simp +decide only [go_sem, c1]
   refine hκ _ _ ?_
   refine ⟨i + 1, ⟨⟨by omega, ?_⟩, by omega⟩, EnvLe.of_eq (by rw [w64 (by omega)]; rfl), List.nil_sublist _⟩
   intro j h
   rcases Nat.lt_succ_iff_lt_or_eq.1 h with h | rfl
   ·exact hj j h
   ·first | assumption | simpa using c1
 ·try simp only [go_sem] at c0
  refine ex ?_
  refine sr_ [4] [] [] fun κ ξ hκ hξ => ?_
  simp +decide only [go_sem, c0]
  refine hκ _ _ ?_
  refine rt ?_
  refine retE ?_
  simp +decide only [go_sem, resD, resV, c0]
  congr 1
  rw [fixI_none (p := fun x => !brB x) (d := br0) fun j h => by simpa [brat] using hj j (by omega)]
theorem cfbr_w (l : List Br) (t : Tok) : PCall Tryz.prog (.func 40) [.sl 3 (l.map brrow) t, .fn (.func 37) [] []] (.bool (!l.all brB)) := by
 refine PCall.le ?_
 refine fn_ Tryz.func40 (by rfl) (by rfl) (rs := [.tmp 4]) (by rfl) (by simp [Tryz.f40]) ?_
 refine sr_ [0, 1] [] [] fun κ ξ hκ hξ => ?_
 simp +decide only [go_sem]
 refine hκ _ _ ?_
 refine sr_ [4] [] [] fun κ ξ hκ hξ => ?_
 simp +decide only [go_sem]
 refine callF (ifbr_w _ _) ?_
 simp +decide only [go_sem]
 refine hκ _ _ ?_
 refine rt ?_
 refine retE ?_
 simp +decide only [go_sem, resD, resV]
 all_goals congr 1
 all_goals exact fix_all _ br0 _
theorem cov_w (d : Do) : PCall Tryz.prog (.func 13) [.ag (dorow d)] (.bool (docB d)) := by
 refine PCall.le ?_
 refine fn_ Tryz.func13 (by rfl) (by rfl) (rs := [.tmp 2]) (by rfl) (by simp [Tryz.f13]) ?_
 refine sr_ [1] [1] [] fun κ ξ hκ hξ => ?_
 simp +decide only [go_sem]
 refine hκ _ _ ?_
 refine sq ?_
 refine sr_ [1, 32] [] [(4, 9), (10, 15), (16, 21), (22, 27)] fun κ ξ hκ hξ => ?_
 simp +decide only [go_sem]
 refine vo_gc ?_
 simp +decide only [go_sem]
 refine gcF (tre_w _ _) ?_
 simp +decide only [go_sem]
 refine vo_gc ?_
 simp +decide only [go_sem]
 refine gcF (shv_w _ _) ?_
 simp +decide only [go_sem]
 refine hκ _ _ ?_
 refine cd_ (fun c0 => ?_) (fun c0 => ?_)
 ·try simp only [go_sem] at c0
  refine sr_ [2] [] [] fun κ ξ hκ hξ => ?_
  simp +decide only [go_sem]
  refine hκ _ _ ?_
  refine rt ?_
  refine retE ?_
  simp +decide only [go_sem, resD, resV, c0]
  congr 1
  unfold docB
  symm
  rw [← Bool.not_eq_true]
  simp only [Bool.and_eq_true, decide_eq_true_eq]
  rintro ⟨⟨⟨⟨a, b⟩, c⟩, _⟩, _⟩
  rw [b, c] at c0
  simp at c0
  omega
 ·try simp only [go_sem] at c0
  refine sk ?_
  refine sr_ [1, 3] [] [] fun κ ξ hκ hξ => ?_
  simp +decide only [go_sem, c0]
  refine hκ _ _ ?_
  refine sr_ [1, 3, 4] [] [] fun κ ξ hκ hξ => ?_
  simp +decide only [go_sem]
  refine hκ _ _ ?_
  refine sr_ [2] [] [(5, 38)] fun κ ξ hκ hξ => ?_
  simp +decide only [go_sem]
  refine callF (cffo_w _ _) ?_
  simp +decide only [go_sem]
  refine vo_gc ?_
  simp +decide only [go_sem]
  refine gcF (cfbr_w _ _) ?_
  simp +decide only [go_sem]
  refine hκ _ _ ?_
  refine rt ?_
  refine retE ?_
  simp +decide only [go_sem, resD, resV, c0]
  congr 1
  unfold docB
  rw [decide_eq_true (show (1 ≤ d.fonts.length ∧ d.fonts.length ≤ 8) ∧ d.breaks.length = 4 by omega), c0.1.2, c0.2]
  simp
theorem rcov_w (d : Do) : PCall Tryz.prog (.func 14) [.ag (dorow d)] (.bool (docB d)) := by
 refine PCall.ok fun hok => ?_
 simp only [okAll, D.ok, okRows, and_true, true_and, lim_eq, inR_i64', inR_i32', inR_u8', inR_u16', inR_u64'] at hok
 simp only [dorow, okAll, D.ok, okRows, and_true, true_and, lim_eq, inR_i64'] at hok
 obtain ⟨⟨hn, hnr⟩, ⟨hl, hlr⟩, ⟨hf, hfr⟩, hb, hbr⟩ := hok; rw [List.length_map] at hn hl hf hb
 refine PCall.le ?_
 refine fn_ Tryz.func14 (by rfl) (by rfl) (rs := [.tmp 2]) (by rfl) (by simp [Tryz.f14]) ?_
 refine sr_ [1] [1] [] fun κ ξ hκ hξ => ?_
 simp +decide only [go_sem]
 refine hκ _ _ ?_
 refine sr_ [1, 3] [] [] fun κ ξ hκ hξ => ?_
 simp +decide only [go_sem]
 refine callF (rtre_w _ _) ?_
 simp +decide only [go_sem]
 refine hκ _ _ ?_
 refine sr_ [1, 3, 4] [] [] fun κ ξ hκ hξ => ?_
 simp +decide only [go_sem]
 refine callF (rshv_w _ _) ?_
 simp +decide only [go_sem]
 refine hκ _ _ ?_
 refine sq ?_
 refine sr_ [1, 38] [] [(2, 17), (6, 21), (12, 27), (18, 33)] fun κ ξ hκ hξ => ?_
 simp +decide only [go_sem]
 refine hκ _ _ ?_
 refine cd_ (fun c0 => ?_) (fun c0 => ?_)
 ·try simp only [go_sem] at c0
  refine sr_ [2] [] [] fun κ ξ hκ hξ => ?_
  simp +decide only [go_sem]
  refine hκ _ _ ?_
  refine rt ?_
  refine retE ?_
  simp +decide only [go_sem, resD, resV, c0]
  congr 1
  unfold docB
  symm
  rw [← Bool.not_eq_true]
  simp only [Bool.and_eq_true, decide_eq_true_eq]
  rintro ⟨⟨⟨⟨a, b⟩, c⟩, _⟩, _⟩
  rw [b, c] at c0
  simp at c0
  omega
 ·try simp only [go_sem] at c0
  refine sk ?_
  refine sq ?_
  refine sr_ [1, 5] [] [] fun κ ξ hκ hξ => ?_
  simp +decide only [go_sem, c0]
  refine hκ _ _ ?_
  refine bl ?_
  refine lp (α := Nat) (fun i => mk [(1, .el [.sl 5 (d.nodes.map nrow) .no, .sl 4 (d.rules.map rurow) .no, .sl 2 (d.fonts.map forow) .no, .sl 3 (d.breaks.map brrow) .no]), (5, .int .i64 i)]) (fun i => []) (fun i => i ≤ d.fonts.length ∧ ∀ j, j < i → fokB (foat d.fonts j) = true) (fun i => d.fonts.length - i) 0 ⟨⟨by omega, by intro j hj; omega⟩, EnvLe.of_eq rfl, .refl _⟩ ?_
  rintro i ⟨hi, hj⟩
  refine sq ?_
  refine sr_ [1, 5, 43] [] [] fun κ ξ hκ hξ => ?_
  simp +decide only [go_sem]
  refine hκ _ _ ?_
  refine cd_ (fun c1 => ?_) (fun c1 => ?_)
  ·try simp only [go_sem] at c1
   refine sk ?_
   refine sq ?_
   refine bl ?_
   refine sr_ [1, 5, 6] [] [] fun κ ξ hκ hξ => ?_
   simp +decide only [go_sem, c1]
   repeat with_reducible refine an_ ?_
   refine callF (rfok_w _ _ _ _) ?_
   simp +decide only [go_sem]
   refine hκ _ _ ?_
   refine sr_ [1, 5, 53] [] [] fun κ ξ hκ hξ => ?_
   simp +decide only [go_sem]
   refine hκ _ _ ?_
   refine cd_ (fun c2 => ?_) (fun c2 => ?_)
   ·try simp only [go_sem] at c2
    refine sr_ [2] [] [] fun κ ξ hκ hξ => ?_
    simp +decide only [go_sem, c2]
    refine hκ _ _ ?_
    refine rt ?_
    refine retE ?_
    simp +decide only [go_sem, resD, resV, c0, c1, c2]
    congr 1
    unfold docB
    rw [all_no fo0 (l := d.fonts) (p := fokB) (j := i) (by omega) (by assumption)]
    simp
   ·try simp only [go_sem] at c2
    refine sk ?_
    refine rr_ [1, 5] [] [] fun κ ξ hκ hξ => ?_
    simp +decide only [go_sem, c2]
    refine hκ _ _ ?_
    refine ⟨i + 1, ⟨⟨by omega, ?_⟩, by omega⟩, EnvLe.of_eq (by rw [w64 (by omega)]; rfl), List.nil_sublist _⟩
    intro j h
    rcases Nat.lt_succ_iff_lt_or_eq.1 h with h | rfl
    ·exact hj j h
    ·assumption
  ·try simp only [go_sem] at c1
   refine ex ?_
   refine sq ?_
   refine sr_ [1, 7] [] [] fun κ ξ hκ hξ => ?_
   simp +decide only [go_sem, c1]
   refine hκ _ _ ?_
   refine bl ?_
   have hfa : ∀ j, j < d.fonts.length → fokB (foat d.fonts j) = true := fun j h => hj j (by omega)
   refine lp (α := Nat) (fun i => mk [(1, .el [.sl 5 (d.nodes.map nrow) .no, .sl 4 (d.rules.map rurow) .no, .sl 2 (d.fonts.map forow) .no, .sl 3 (d.breaks.map brrow) .no]), (7, .int .i64 i)]) (fun i => []) (fun i => i ≤ d.breaks.length ∧ ∀ j, j < i → brB (brat d.breaks j) = true) (fun i => d.breaks.length - i) 0 ⟨⟨by omega, by intro j hj; omega⟩, EnvLe.of_eq rfl, .refl _⟩ ?_
   rintro k ⟨hk, hjk⟩
   refine sq ?_
   refine sr_ [1, 7, 58] [] [] fun κ ξ hκ hξ => ?_
   simp +decide only [go_sem, c0]
   refine hκ _ _ ?_
   refine cd_ (fun c3 => ?_) (fun c3 => ?_)
   ·try simp only [go_sem] at c3
    refine sk ?_
    refine sq ?_
    refine bl ?_
    refine sr_ [1, 7, 8] [] [] fun κ ξ hκ hξ => ?_
    simp +decide only [go_sem, c0, c3]
    repeat with_reducible refine an_ ?_
    refine callF (rbrv_w _) ?_
    simp +decide only [go_sem]
    refine hκ _ _ ?_
    refine sr_ [1, 7, 68] [] [] fun κ ξ hκ hξ => ?_
    simp +decide only [go_sem]
    refine hκ _ _ ?_
    refine cd_ (fun c4 => ?_) (fun c4 => ?_)
    ·try simp only [go_sem] at c4
     refine sr_ [2] [] [] fun κ ξ hκ hξ => ?_
     simp +decide only [go_sem, c4]
     refine hκ _ _ ?_
     refine rt ?_
     refine retE ?_
     simp +decide only [go_sem, resD, resV, c0, c1, c3, c4]
     congr 1
     unfold docB
     rw [all_no br0 (l := d.breaks) (p := brB) (j := k) (by omega) (by assumption)]
     simp
    ·try simp only [go_sem] at c4
     refine sk ?_
     refine rr_ [1, 7] [] [] fun κ ξ hκ hξ => ?_
     simp +decide only [go_sem, c4]
     refine hκ _ _ ?_
     refine ⟨k + 1, ⟨⟨by omega, ?_⟩, by omega⟩, EnvLe.of_eq (by rw [w64 (by omega)]; rfl), List.nil_sublist _⟩
     intro j h
     rcases Nat.lt_succ_iff_lt_or_eq.1 h with h | rfl
     ·exact hjk j h
     ·assumption
   ·try simp only [go_sem] at c3
    refine ex ?_
    refine sr_ [2] [] [] fun κ ξ hκ hξ => ?_
    simp +decide only [go_sem, c3]
    refine hκ _ _ ?_
    refine rt ?_
    refine retE ?_
    simp +decide only [go_sem, resD, resV, c0, c1, c3]
    congr 1
    unfold docB
    rw [decide_eq_true (show (1 ≤ d.fonts.length ∧ d.fonts.length ≤ 8) ∧ d.breaks.length = 4 by omega), c0.1.1.1.1, c0.1.1.1.2, (all_at fo0).2 hfa, (all_at br0).2 fun j h => hjk j (by omega)]
    rfl
end Go.Proofs.YtinhjbnljbmbcaaGreat
/- Joined. -/
namespace Go.Proofs.YtinhjbnljbmbcaaGreat
open Go Go.RowKit
set_option linter.unusedSimpArgs false
set_option linter.unusedVariables false
set_option maxHeartbeats 4000000
set_option maxRecDepth 100000
section
attribute [local go_sem] List.length_map rowAt_n nrow rowAt_t trow rowAt_i irow
attribute [local go_sem] rowAt_e rowAt_tm rowAt_dc rowAt_ru tmrow dcrow rurow
attribute [local go_sem] rowAt_br rowAt_s rowAt_fo rowAt_ve rowAt_g rowAt_k grow krow srow brrow forow dorow verow
attribute [local go_sem] iD_all iD_len rw2_0 rw2_1 rw1_0 Int.toNat_one
attribute [local go_sem] pl_d33 pl_d34 pl_d35 pl_d36 pl_d37 pl_d38 pl_d39 pl_t33 pl_t34 pl_t35 pl_t36 pl_t37 pl_t38 pl_t39 pl_dlt pl_ge pl_len pl_all iD_len iD_all plR plT List.append_assoc firstS_len Nat.zero_add Int.reduceToNat
theorem out_w (st : List Int) (hl : st.length = 33) (room : Int) : PCall Tryz.prog (.func 82) [.ag (st.map iD), .int .i64 room] (.int .i64 (outV st room)) := by
 have hq4 : (List.map iD (List.drop 4 st)).headD .top = .int .i64 (iat st 4) := hd_i (by omega)
 have hz4 : 1 ≤ (List.drop 4 st).length := by rw [List.length_drop]; omega
 have hq5 : (List.map iD (List.drop 5 st)).headD .top = .int .i64 (iat st 5) := hd_i (by omega)
 have hz5 : 1 ≤ (List.drop 5 st).length := by rw [List.length_drop]; omega
 have hq6 : (List.map iD (List.drop 6 st)).headD .top = .int .i64 (iat st 6) := hd_i (by omega)
 have hz6 : 1 ≤ (List.drop 6 st).length := by rw [List.length_drop]; omega
 refine PCall.le ?_
 refine fn_ Tryz.func82 (by rfl) (by rfl) (rs := [.tmp 4]) (by rfl) (by simp [Tryz.f82]) ?_
 refine sr_ [1, 2] [2] [] fun κ ξ hκ hξ => ?_
 simp +decide only [go_sem]
 refine hκ _ _ ?_
 refine sr_ [1, 2, 5] [] [] fun κ ξ hκ hξ => ?_
 simp +decide only [go_sem, hq4, hz4]
 refine hκ _ _ ?_
 refine sq ?_
 refine sr_ [1, 2, 5, 11] [] [] fun κ ξ hκ hξ => ?_
 simp +decide only [go_sem]
 refine hκ _ _ ?_
 refine cd_ (fun c0 => ?_) (fun c0 => ?_)
 ·try simp only [go_sem] at c0
  refine rr_ [2, 5] [] [] fun κ ξ hκ hξ => ?_
  simp +decide only [go_sem, c0]
  refine hκ _ _ ?_
  refine sq ?_
  refine sr_ [2, 5, 6] [] [] fun κ ξ hκ hξ => ?_
  simp +decide only [go_sem, hq6, hz6]
  refine hκ _ _ ?_
  refine sr_ [2, 5, 6, 17] [] [] fun κ ξ hκ hξ => ?_
  simp +decide only [go_sem]
  refine hκ _ _ ?_
  refine cd_ (fun c1 => ?_) (fun c1 => ?_)
  ·try simp only [go_sem] at c1
   refine rr_ [2, 5] [] [] fun κ ξ hκ hξ => ?_
   simp +decide only [go_sem, c1]
   refine hκ _ _ ?_
   refine sr_ [4] [] [] fun κ ξ hκ hξ => ?_
   simp +decide only [go_sem, hq5, hz5]
   refine hκ _ _ ?_
   refine rt ?_
   refine retE ?_
   simp +decide only [go_sem, resD, resV, hl, hq4, hz4, hq5, hz5, hq6, hz6, c0, c1]
   congr 1
   unfold outV
   simp only [*, if_true, if_false]
  ·try simp only [go_sem] at c1
   refine sk ?_
   refine sr_ [4] [] [] fun κ ξ hκ hξ => ?_
   simp +decide only [go_sem, hq5, hz5, c1]
   refine hκ _ _ ?_
   refine rt ?_
   refine retE ?_
   simp +decide only [go_sem, resD, resV, hl, hq4, hz4, hq5, hz5, hq6, hz6, c0, c1]
   congr 1
   unfold outV
   simp only [*, if_true, if_false]
 ·try simp only [go_sem] at c0
  refine sk ?_
  refine sq ?_
  refine sr_ [2, 5, 6] [] [] fun κ ξ hκ hξ => ?_
  simp +decide only [go_sem, hq6, hz6, c0]
  refine hκ _ _ ?_
  refine sr_ [2, 5, 6, 17] [] [] fun κ ξ hκ hξ => ?_
  simp +decide only [go_sem]
  refine hκ _ _ ?_
  refine cd_ (fun c2 => ?_) (fun c2 => ?_)
  ·try simp only [go_sem] at c2
   refine rr_ [2, 5] [] [] fun κ ξ hκ hξ => ?_
   simp +decide only [go_sem, c2]
   refine hκ _ _ ?_
   refine sr_ [4] [] [] fun κ ξ hκ hξ => ?_
   simp +decide only [go_sem, hq5, hz5]
   refine hκ _ _ ?_
   refine rt ?_
   refine retE ?_
   simp +decide only [go_sem, resD, resV, hl, hq4, hz4, hq5, hz5, hq6, hz6, c0, c2]
   congr 1
   unfold outV
   simp only [*, if_true, if_false]
  ·try simp only [go_sem] at c2
   refine sk ?_
   refine sr_ [4] [] [] fun κ ξ hκ hξ => ?_
   simp +decide only [go_sem, hq5, hz5, c2]
   refine hκ _ _ ?_
   refine rt ?_
   refine retE ?_
   simp +decide only [go_sem, resD, resV, hl, hq4, hz4, hq5, hz5, hq6, hz6, c0, c2]
   congr 1
   unfold outV
   simp only [*, if_true, if_false]
theorem inn_w (st : List Int) (hl : st.length = 33) (hp : parB st = true) (room : Int) (hr : 0 ≤ room ∧ room ≤ 1000000) : PCall Tryz.prog (.func 47) [.ag (st.map iD), .int .i64 room] (.int .i64 (innV st room)) := by
 have hq3 : (List.map iD (List.drop 3 st)).headD .top = .int .i64 (iat st 3) := hd_i (by omega)
 have hz3 : 1 ≤ (List.drop 3 st).length := by rw [List.length_drop]; omega
 have h33 : st.take 33 = st := List.take_of_length_le (by omega)
 have ho := outV_lim hp hl hr
 have h3 := iat_pos hp (p := 3) (by omega)
 have hw1 : IntKind.wrap .i64 (2 * iat st 3) = 2 * iat st 3 := w64 (by omega)
 have hw2 : IntKind.wrap .i64 (outV st room - 2 * iat st 3) = outV st room - 2 * iat st 3 := w64 (by omega)
 refine PCall.le ?_
 refine fn_ Tryz.func47 (by rfl) (by rfl) (rs := [.tmp 4]) (by rfl) (by simp [Tryz.f47]) ?_
 refine sr_ [1, 2] [2] [] fun κ ξ hκ hξ => ?_
 simp +decide only [go_sem]
 refine hκ _ _ ?_
 refine srd_ [4] [] [7] [] fun κ ξ hκ hξ => ?_
 simp +decide only [go_sem, hl, h33]
 refine scallF (out_w _ (by assumption) _) ?_
 simp +decide only [go_sem, hw1, hw2, hq3, hz3]
 refine hκ _ _ ?_
 refine rt ?_
 refine retE ?_
 simp +decide only [go_sem, resD, resV, hl, h33, hw1, hw2, hq3, hz3]
 rfl
theorem opn_w (d : Do) (x w s lg : Int) : PCall Tryz.prog (.func 45) [.ag (dorow d), .int .i64 x, .ag [.int .i64 w, .int .i64 s, .int .i64 lg]] (.tup [if opE d x w s lg = 0 then .sl 1 ((pthX d.nodes x).map irow) .no else .sl 0 [] .nil, .int .i64 (opE d x w s lg)]) := by
 refine PCall.le ?_
 refine fn_ Tryz.func45 (by rfl) (by rfl) (rs := [.tmp 6, .tmp 7]) (by rfl) (by simp [Tryz.f45]) ?_
 refine sr_ [1, 3, 5] [3, 5] [] fun κ ξ hκ hξ => ?_
 simp +decide only [go_sem]
 refine hκ _ _ ?_
 refine sq ?_
 refine sr_ [1, 3, 23] [] [(3, 11), (8, 16), (12, 20)] fun κ ξ hκ hξ => ?_
 simp +decide only [go_sem]
 refine callF (cov_w _) ?_
 simp +decide only [go_sem]
 refine vo_gc ?_
 simp +decide only [go_sem]
 refine gcF (crd_w _ _ _) ?_
 simp +decide only [go_sem]
 refine hκ _ _ ?_
 refine cd_ (fun c0 => ?_) (fun c0 => ?_)
 ·try simp only [go_sem] at c0
  refine sr_ [6, 7] [] [] fun κ ξ hκ hξ => ?_
  simp +decide only [go_sem]
  refine hκ _ _ ?_
  refine rt ?_
  refine retE ?_
  simp +decide only [go_sem, resD, resV, c0]
  rw [show opE d x w s lg = 1 by unfold opE; exact if_neg fun h => by rcases c0 with ((c | c) | c) | c <;> first | (rw [h.1] at c; cases c) | (rw [h.2.1] at c; cases c) | (have := h.2.2; simp [idB] at this; omega)]
  rfl
 ·try simp only [go_sem] at c0
  refine sk ?_
  refine sr_ [6, 7] [] [] fun κ ξ hκ hξ => ?_
  simp +decide only [go_sem, c0]
  refine callF (tpath_w _ _ _) ?_
  simp +decide only [go_sem]
  refine hκ _ _ ?_
  refine rt ?_
  refine retE ?_
  simp +decide only [go_sem, resD, resV, c0]
  rw [show opE d x w s lg = gerr d.nodes x by unfold opE; exact if_pos ⟨c0.1.1.1, c0.1.1.2, by simp [idB]; omega⟩]
  rfl
end
section
attribute [local go_sem] List.length_map rowAt_n nrow rowAt_t trow rowAt_i irow
attribute [local go_sem] rowAt_e rowAt_tm rowAt_dc rowAt_ru tmrow dcrow rurow
attribute [local go_sem] rowAt_br rowAt_s rowAt_fo rowAt_ve rowAt_g rowAt_k grow krow srow brrow forow dorow verow
attribute [local go_sem] iD_all iD_len rw2_0 rw2_1 rw1_0 Int.toNat_one
attribute [local go_sem] pl_d33 pl_d34 pl_d35 pl_d36 pl_d37 pl_d38 pl_d39 pl_t33 pl_t34 pl_t35 pl_t36 pl_t37 pl_t38 pl_t39 pl_dlt pl_ge pl_len pl_all iD_len iD_all plR plT List.append_assoc firstS_len Nat.zero_add Int.reduceToNat
theorem dwn_w (d : Do) (ps : List Int) (w s lg : Int) : PCall Tryz.prog (.func 61) [.ag (dorow d), .sl 1 (ps.map irow) .no, .ag [.int .i64 w, .int .i64 s, .int .i64 lg]] (.fn (.func 96) [] [.el [.int .i64 w, .int .i64 s, .int .i64 lg], .el [.sl 1 (ps.map irow) .no], .el (dorow d)]) := by
 refine PCall.le ?_
 refine fn_ Tryz.func61 (by rfl) (by rfl) (rs := [.tmp 6]) (by rfl) (by simp [Tryz.f61]) ?_
 refine sr_ [3, 4, 5] [3, 4, 5] [] fun κ ξ hκ hξ => ?_
 simp +decide only [go_sem]
 refine hκ _ _ ?_
 refine sr_ [6] [] [] fun κ ξ hκ hξ => ?_
 simp +decide only [go_sem]
 refine hκ _ _ ?_
 refine rt ?_
 refine retE ?_
 simp +decide only [go_sem, resD, resV]
 
theorem dn1_w (d : Do) (ps : List Int) (w s lg : Int) (htb : treB d.nodes = true) (hps : ∀ i, i < ps.length → idB (iat ps i) = true ∧ 0 ≤ idx d.nodes (iat ps i)) (hw : 0 ≤ w ∧ w ≤ 1000000) (hpm : ps.length ≤ 1000) : SeqC Tryz.prog (.func 96) [.el [.int .i64 w, .int .i64 s, .int .i64 lg], .el [.sl 1 (ps.map irow) .no], .el (dorow d)] ((plSeq d w s lg (plF w) ps).map fun p => [.ag (plR p)]) := by
 intro y J Jx hy τ hJ
 obtain ⟨L, hL⟩ : ∃ L, L = plSeq d w s lg (plF w) ps := ⟨_, rfl⟩
 rw [← hL] at hy ⊢
 refine fn_ Tryz.func96 (by rfl) (by rfl) (rs := []) (by rfl) (by simp [Tryz.f96]) ?_
 refine srd_ [0, 1, 2, 3, 5] [] [12] [] fun κ ξ hκ hξ => ?_
 simp +decide only [go_sem]
 refine scallF (frst_w) ?_
 simp +decide only [go_sem]
 intro b5 hb5
 simp +decide only [go_sem, hb5]
 refine hκ _ _ ?_
 refine sr_ [0, 1, 3, 5, 17, 18, 19] [] [] fun κ ξ hκ hξ => ?_
 simp +decide only [go_sem, hb5]
 refine hκ _ _ ?_
 refine bl ?_
 refine lp (α := Nat × Pl × List Pl × Store) (fun z => mk [(0, .fn y [] []), (1, .el [.int .i64 w, .int .i64 s, .int .i64 lg]), (3, .el (dorow d)), (5, .ptr b5 0), (17, .sl 1 (ps.map irow) .no), (18, .int .i64 ps.length), (19, .int .i64 z.1)]) (fun z => (b5, .cells (plR z.2.1)) :: z.2.2.2) (fun z => z.1 ≤ ps.length ∧ J z.1 z.2.2.2 ∧ L = z.2.2.1 ++ plSeq d w s lg z.2.1 (ps.drop z.1) ∧ z.2.2.1.length = z.1 ∧ z.2.1.st.length = 33 ∧ (0 ≤ z.2.1.room ∧ z.2.1.room ≤ 1000000)) (fun z => ps.length - z.1) (0, plF w, [], τ) ⟨⟨by simp only; omega, hJ, hL, rfl, firstS_len, hw⟩, EnvLe.of_eq rfl, .refl _⟩ ?_
 rintro ⟨i, p, pre, τ'⟩ ⟨hi, hJ', hLp, hpre, hpl, hpr⟩
 simp only at hi hJ' hLp hpre hpl hpr
 refine sr_ [0, 1, 3, 5, 17, 18, 19, 20] [] [] fun κ ξ hκ hξ => ?_
 simp +decide only [go_sem, hb5]
 refine hκ _ _ ?_
 refine sq ?_
 refine cd_ (fun c0 => ?_) (fun c0 => ?_)
 ·simp only [go_sem] at c0
  have hp33 : List.take 33 p.st = p.st := List.take_of_length_le (by omega)
  have hq33 : List.take 33 (styR d.nodes d.rules (iat ps i) w s lg p.st p.room p.wide).1 = (styR d.nodes d.rules (iat ps i) w s lg p.st p.room p.wide).1 := List.take_of_length_le (by rw [styR_len hpl]; exact Nat.le_refl _)
  have hx := hps i (by omega)
  obtain ⟨k, hk, hkl⟩ : ∃ k : Nat, idx d.nodes (iat ps i) = (k : Int) ∧ (k : Int) < d.nodes.length := by
   rcases idx_cases d.nodes (iat ps i) with ⟨y, hy1, _, _, hy2⟩ | ⟨_, hy2⟩
   ·exact ⟨y, hy2, by omega⟩
   ·omega
  have hid := hx.1
  have hfx : fi d.nodes (iat ps i) = (k : Int) := by unfold fi; rw [if_pos hx.2, hk]
  have hk0 : (0 : Int) ≤ (k : Int) := by omega
  have hkd : kdAt d.nodes (iat ps i) = (nat d.nodes k).kind := by unfold kdAt; rw [hk, Int.toNat_natCast]
  have hdr : ps.drop i = iat ps i :: ps.drop (i + 1) := by
   rw [List.drop_eq_getElem_cons (by omega), iat, List.getD_eq_getElem?_getD, List.getElem?_eq_getElem (by omega)]; rfl
  have hql : (styR d.nodes d.rules (iat ps i) w s lg p.st p.room p.wide).1.length = 33 := styR_len hpl
  have hst : plStep d w s lg p (iat ps i) = ⟨(styR d.nodes d.rules (iat ps i) w s lg p.st p.room p.wide).1, iat ps i, p.room, p.box, p.wide, p.own && decide ((nat d.nodes k).kind = 1), (styR d.nodes d.rules (iat ps i) w s lg p.st p.room p.wide).2⟩ := by unfold plStep; rw [hkd]
  have hseq : plSeq d w s lg p (ps.drop i) = ⟨(styR d.nodes d.rules (iat ps i) w s lg p.st p.room p.wide).1, iat ps i, p.room, p.box, p.wide, p.own && decide ((nat d.nodes k).kind = 1), (styR d.nodes d.rules (iat ps i) w s lg p.st p.room p.wide).2⟩ :: if (styR d.nodes d.rules (iat ps i) w s lg p.st p.room p.wide).2 = 0 then plSeq d w s lg (plNext ⟨(styR d.nodes d.rules (iat ps i) w s lg p.st p.room p.wide).1, iat ps i, p.room, p.box, p.wide, p.own && decide ((nat d.nodes k).kind = 1), (styR d.nodes d.rules (iat ps i) w s lg p.st p.room p.wide).2⟩) (ps.drop (i + 1)) else [] := by rw [hdr, plSeq, hst]
  have hLi : L[i]? = some ⟨(styR d.nodes d.rules (iat ps i) w s lg p.st p.room p.wide).1, iat ps i, p.room, p.box, p.wide, p.own && decide ((nat d.nodes k).kind = 1), (styR d.nodes d.rules (iat ps i) w s lg p.st p.room p.wide).2⟩ := by rw [hLp, hseq, List.getElem?_append_right (by omega), hpre, Nat.sub_self]; rfl
  refine sk ?_
  refine sq ?_
  refine bl ?_
  refine sr_ [0, 1, 3, 5, 7, 17, 18, 19] [] [] fun κ ξ hκ hξ => ?_
  simp +decide only [go_sem, hb5, c0]
  repeat with_reducible refine an_ ?_
  refine hκ _ _ ?_
  refine srz_ [(8, [])] [0, 1, 3, 5, 7, 8, 17, 18, 19] [] [] fun κ ξ hκ hξ => ?_
  simp +decide only [go_sem, hb5, hpl]
  intro b8 hb8
  refine hκ _ _ ?_
  refine sr_ [0, 1, 3, 5, 7, 8, 17, 18, 19] [] [] fun κ ξ hκ hξ => ?_
  simp +decide only [go_sem, hb5, hpl, hb8]
  refine hκ _ _ ?_
  refine sr_ [0, 1, 3, 5, 7, 17, 18, 19] [] [] fun κ ξ hκ hξ => ?_
  simp +decide only [go_sem, hb5, hpl, hp33, hb8]
  refine callF (sty_w _ _ _ _ _ _ _ _ (by assumption)) ?_
  simp +decide only [go_sem, hb5, hpl, hql, hb8]
  refine hκ _ _ ?_
  refine sr_ [0, 1, 3, 5, 7, 9, 17, 18, 19] [] [] fun κ ξ hκ hξ => ?_
  simp +decide only [go_sem, hb5, hb8]
  refine callF (find_w _ _ _) ?_
  simp +decide only [go_sem, htb, hb5, hid, hfx, hb8]
  refine hκ _ _ ?_
  refine sr_ [0, 1, 3, 5, 7, 17, 18, 19] [] [(2, 53)] fun κ ξ hκ hξ => ?_
  simp +decide only [go_sem, hb5, hk0, hkl, hql, hb8]
  refine hκ _ _ ?_
  refine sq ?_
  refine sr_ [0, 1, 3, 5, 7, 17, 18, 19, 71] [] [(4, 67)] fun κ ξ hκ hξ => ?_
  simp +decide only [go_sem, hb5, hql, hb8]
  refine callYf (hy i _ (by rw [List.getElem?_map, hLi]; rfl) _ hJ') ?_
  intro bb τ2 ht hf
  simp +decide only [go_sem, hb5, hql, hb8]
  refine hκ _ _ ?_
  refine cd_ (fun c1 => ?_) (fun c1 => ?_)
  ·simp only [go_sem] at c1
   refine rt ?_
   refine ⟨trivial, τ2, .cons _ (.refl _), ⟨_, rfl⟩, ?_⟩
   cases bb with
   | false => exact .inr (hf rfl)
   | true =>
    left
    have he : ¬ (styR d.nodes d.rules (iat ps i) w s lg p.st p.room p.wide).2 = 0 := by simpa using c1
    have hLn : (List.map (fun p => [D.ag (plR p)]) L).length = i + 1 := by rw [List.length_map, hLp, hseq, if_neg he, List.length_append, hpre]; rfl
    rw [hLn]
    exact ht rfl
  ·simp only [go_sem] at c1
   have he0 := c1.2
   have hJ2 := ht c1.1
   have hqp := styR_ok hpl he0
   have hL2 : L = (pre ++ [⟨(styR d.nodes d.rules (iat ps i) w s lg p.st p.room p.wide).1, iat ps i, p.room, p.box, p.wide, p.own && decide ((nat d.nodes k).kind = 1), (styR d.nodes d.rules (iat ps i) w s lg p.st p.room p.wide).2⟩]) ++ plSeq d w s lg (plNext ⟨(styR d.nodes d.rules (iat ps i) w s lg p.st p.room p.wide).1, iat ps i, p.room, p.box, p.wide, p.own && decide ((nat d.nodes k).kind = 1), (styR d.nodes d.rules (iat ps i) w s lg p.st p.room p.wide).2⟩) (ps.drop (i + 1)) := by rw [hLp, hseq, if_pos he0, List.append_assoc]; rfl
   refine sk ?_
   refine sq ?_
   refine sr_ [0, 1, 3, 5, 7, 17, 18, 19, 74] [] [] fun κ ξ hκ hξ => ?_
   simp +decide only [go_sem, hb5, hql, hb8, c1]
   refine hκ _ _ ?_
   refine cd_ (fun c2 => ?_) (fun c2 => ?_)
   ·try simp only [go_sem] at c2
    refine ex ?_
    refine rr_ [0, 1, 3, 5, 17, 18, 19] [] [] fun κ ξ hκ hξ => ?_
    simp +decide only [go_sem, hb5, hb8]
    refine hκ _ _ ?_
    have hpn : plNext ⟨(styR d.nodes d.rules (iat ps i) w s lg p.st p.room p.wide).1, iat ps i, p.room, p.box, p.wide, p.own && decide ((nat d.nodes k).kind = 1), (styR d.nodes d.rules (iat ps i) w s lg p.st p.room p.wide).2⟩ = ⟨(styR d.nodes d.rules (iat ps i) w s lg p.st p.room p.wide).1, iat ps i, p.room, p.box, p.wide, p.own && decide ((nat d.nodes k).kind = 1), 0⟩ := by
     unfold plNext
     rw [if_neg (by rcases c2 with c | c <;> simp [c]), he0]
    refine ⟨(i + 1, ⟨(styR d.nodes d.rules (iat ps i) w s lg p.st p.room p.wide).1, iat ps i, p.room, p.box, p.wide, p.own && decide ((nat d.nodes k).kind = 1), 0⟩, pre ++ [⟨(styR d.nodes d.rules (iat ps i) w s lg p.st p.room p.wide).1, iat ps i, p.room, p.box, p.wide, p.own && decide ((nat d.nodes k).kind = 1), (styR d.nodes d.rules (iat ps i) w s lg p.st p.room p.wide).2⟩], τ2), ⟨⟨by simp only; omega, hJ2, by simp only; rw [← hpn]; exact hL2, by simp [hpre], hql, hpr⟩, by simp only; omega⟩, EnvLe.of_eq (by rw [w64 (n := (i : Int) + 1) (by omega)]; rfl), .refl _⟩
   ·try simp only [go_sem] at c2
    refine sk ?_
    refine sr_ [0, 1, 3, 5, 7, 17, 18, 19] [] [] fun κ ξ hκ hξ => ?_
    simp +decide only [go_sem, hb5, hql, hb8, c2]
    refine callF (inn_w _ (by assumption) (by assumption) _ (by assumption)) ?_
    simp +decide only [go_sem, hb5, hql, hb8]
    refine hκ _ _ ?_
    refine sr_ [0, 1, 3, 5, 7, 17, 18, 19, 85] [] [] fun κ ξ hκ hξ => ?_
    simp +decide only [go_sem, hb5, hql, hb8]
    refine hκ _ _ ?_
    refine cd_ (fun c3 => ?_) (fun c3 => ?_)
    ·try simp only [go_sem] at c3
     refine rr_ [0, 1, 3, 5, 17, 18, 19] [] [] fun κ ξ hκ hξ => ?_
     simp +decide only [go_sem, hb5, hql, hb8, c3]
     refine hκ _ _ ?_
     refine rr_ [0, 1, 3, 5, 17, 18, 19] [] [] fun κ ξ hκ hξ => ?_
     simp +decide only [go_sem, hb5, hb8]
     refine hκ _ _ ?_
     have hpn : plNext ⟨(styR d.nodes d.rules (iat ps i) w s lg p.st p.room p.wide).1, iat ps i, p.room, p.box, p.wide, p.own && decide ((nat d.nodes k).kind = 1), (styR d.nodes d.rules (iat ps i) w s lg p.st p.room p.wide).2⟩ = ⟨(styR d.nodes d.rules (iat ps i) w s lg p.st p.room p.wide).1, iat ps i, (innV (styR d.nodes d.rules (iat ps i) w s lg p.st p.room p.wide).1 p.room), iat ps i, (innV (styR d.nodes d.rules (iat ps i) w s lg p.st p.room p.wide).1 p.room), true, 0⟩ := by
      unfold plNext
      rw [if_pos (by simp [c2.1, c2.2]), if_pos c3, he0, c2.1, c2.2]; rfl
     refine ⟨(i + 1, ⟨(styR d.nodes d.rules (iat ps i) w s lg p.st p.room p.wide).1, iat ps i, (innV (styR d.nodes d.rules (iat ps i) w s lg p.st p.room p.wide).1 p.room), iat ps i, (innV (styR d.nodes d.rules (iat ps i) w s lg p.st p.room p.wide).1 p.room), true, 0⟩, pre ++ [⟨(styR d.nodes d.rules (iat ps i) w s lg p.st p.room p.wide).1, iat ps i, p.room, p.box, p.wide, p.own && decide ((nat d.nodes k).kind = 1), (styR d.nodes d.rules (iat ps i) w s lg p.st p.room p.wide).2⟩], τ2), ⟨⟨by simp only; omega, hJ2, by simp only; rw [← hpn]; exact hL2, by simp [hpre], hql, innV_lim hqp hql hpr⟩, by simp only; omega⟩, EnvLe.of_eq (by rw [w64 (n := (i : Int) + 1) (by omega)]; rfl), .refl _⟩
    ·try simp only [go_sem] at c3
     refine sk ?_
     refine rr_ [0, 1, 3, 5, 17, 18, 19] [] [] fun κ ξ hκ hξ => ?_
     simp +decide only [go_sem, hb5, hb8, c3]
     refine hκ _ _ ?_
     have hpn : plNext ⟨(styR d.nodes d.rules (iat ps i) w s lg p.st p.room p.wide).1, iat ps i, p.room, p.box, p.wide, p.own && decide ((nat d.nodes k).kind = 1), (styR d.nodes d.rules (iat ps i) w s lg p.st p.room p.wide).2⟩ = ⟨(styR d.nodes d.rules (iat ps i) w s lg p.st p.room p.wide).1, iat ps i, (innV (styR d.nodes d.rules (iat ps i) w s lg p.st p.room p.wide).1 p.room), p.box, p.wide, true, 0⟩ := by
      unfold plNext
      rw [if_pos (by simp [c2.1, c2.2]), if_neg c3, he0, c2.1, c2.2]; rfl
     refine ⟨(i + 1, ⟨(styR d.nodes d.rules (iat ps i) w s lg p.st p.room p.wide).1, iat ps i, (innV (styR d.nodes d.rules (iat ps i) w s lg p.st p.room p.wide).1 p.room), p.box, p.wide, true, 0⟩, pre ++ [⟨(styR d.nodes d.rules (iat ps i) w s lg p.st p.room p.wide).1, iat ps i, p.room, p.box, p.wide, p.own && decide ((nat d.nodes k).kind = 1), (styR d.nodes d.rules (iat ps i) w s lg p.st p.room p.wide).2⟩], τ2), ⟨⟨by simp only; omega, hJ2, by simp only; rw [← hpn]; exact hL2, by simp [hpre], hql, innV_lim hqp hql hpr⟩, by simp only; omega⟩, EnvLe.of_eq (by rw [w64 (n := (i : Int) + 1) (by omega)]; rfl), .refl _⟩
 ·simp only [go_sem] at c0
  refine ex ?_
  obtain rfl : i = ps.length := by omega
  have hLn : (List.map (fun p => [D.ag (plR p)]) L).length = ps.length := by rw [List.length_map, hLp, List.drop_length, plSeq, List.append_nil, hpre]
  refine ⟨trivial, τ', .cons _ (.refl _), ⟨_, rfl⟩, .inl ?_⟩
  rw [hLn]
  exact hJ'
end
section
theorem docB_tre {d : Do} (h : docB d = true) : treB d.nodes = true ∧ rulesB d.rules = true := by
 unfold docB at h
 simp only [Bool.and_eq_true] at h
 exact ⟨h.1.1.1.2, h.1.1.2⟩
theorem gerr_zero {l : List Nd} {x : Int} (h : gerr l x = 0) : treB l = true ∧ idB x = true ∧ 0 ≤ idx l x := by
 unfold gerr at h
 split at h
 ·rename_i h1
  rw [Bool.and_eq_true] at h1
  split at h
  ·exact ⟨h1.1, h1.2, by assumption⟩
  ·omega
 ·omega
theorem opE_zero {d : Do} {x w s lg : Int} (h : opE d x w s lg = 0) : docB d = true ∧ rdB w s lg = true ∧ idB x = true ∧ treB d.nodes = true ∧ 0 ≤ idx d.nodes x := by
 unfold opE at h
 split at h
 ·rename_i h1
  have h2 := gerr_zero h
  exact ⟨h1.1, h1.2.1, h1.2.2, h2.1, h2.2.2⟩
 ·omega
theorem rdB_w {w s lg : Int} (h : rdB w s lg = true) : (200 ≤ w ∧ w ≤ 4000) ∧ 50 ≤ s ∧ s ≤ 300 := by
 unfold rdB at h
 have := of_decide_eq_true h
 omega
theorem idx_in {l : List Nd} {x : Int} (h : 0 ≤ idx l x) : (idx l x).toNat < l.length ∧ (nat l (idx l x).toNat).id = x := by
 rcases idx_cases l x with ⟨i, h1, h2, _, h3⟩ | ⟨_, h3⟩
 ·rw [h3, Int.toNat_natCast]; exact ⟨h1, h2⟩
 ·omega
theorem chn_mem {l : List Nd} {i x : Nat} (h : x ∈ chn l i) : x < i := by
 obtain ⟨j, hj, e⟩ := List.mem_iff_getElem.1 h
 exact (chn_step l i (j := j) (by rw [List.getElem?_eq_getElem hj, e])).2
theorem path_mem {l : List Nd} {i : Nat} {y : Int} (h : y ∈ pathL l i) : ∃ x, x ≤ i ∧ (nat l x).id = y := by
 unfold pathL upL at h
 rw [List.mem_reverse, List.mem_map] at h
 obtain ⟨x, hx, rfl⟩ := h
 rcases List.mem_cons.1 hx with rfl | hx
 ·exact ⟨x, Nat.le_refl _, rfl⟩
 ·exact ⟨x, Nat.le_of_lt (chn_mem hx), rfl⟩
theorem tree_id {l : List Nd} (hT : Tree l) {i : Nat} (hi : i < l.length) : idB (nat l i).id = true := by
 have h := hT.form i hi
 unfold fmB at h
 simp only [Bool.and_eq_true] at h
 have := of_decide_eq_true h.1.1
 exact decide_eq_true ⟨this.1, this.2.1⟩
theorem path_ok {l : List Nd} (hT : Tree l) {i : Nat} (hi : i < l.length) {y : Int} (h : y ∈ pathL l i) : idB y = true ∧ 0 ≤ idx l y := by
 obtain ⟨x, hx, rfl⟩ := path_mem h
 exact ⟨tree_id hT (by omega), by rw [idx_self hT (by omega)]; omega⟩
theorem path_len {l : List Nd} (hT : Tree l) {i : Nat} (hi : i < l.length) : (pathL l i).length ≤ 30 := by
 have h1 := hT.deep i hi
 have h2 := chn_len l i
 unfold pathL
 rw [List.length_reverse, upL_len]
 omega
theorem mem_iat {l : List Int} {i : Nat} (h : i < l.length) : iat l i ∈ l := by
 rw [iat, List.getD_eq_getElem?_getD, List.getElem?_eq_getElem h]
 exact List.getElem_mem h
theorem plSeq_len {d : Do} {w s lg : Int} : ∀ (ps : List Int) (p : Pl), p.st.length = 33 → ∀ q ∈ plSeq d w s lg p ps, q.st.length = 33
 | [], _, _, _, h => by simp [plSeq] at h
 | x :: xs, p, hp, q, h => by
  have h1 : (plStep d w s lg p x).st.length = 33 := styR_len hp
  rw [plSeq] at h
  rcases List.mem_cons.1 h with rfl | h
  ·exact h1
  ·split at h
   ·refine plSeq_len xs _ ?_ q h
    unfold plNext
    split
    ·split <;> exact h1
    ·exact h1
   ·simp at h
theorem lastP_take {L : List Pl} {n : Nat} {p : Pl} (h : L[n]? = some p) : lastP (L.take (n + 1)) = p := by
 unfold lastP
 rw [List.take_add_one, h]
 simp
theorem lastP_len {L : List Pl} (h : ∀ q ∈ L, q.st.length = 33) : (lastP L).st.length = 33 := by
 unfold lastP
 cases e : L.getLast? with
 | none => rfl
 | some q => exact h q (List.mem_of_getLast? e)
theorem plStep_ok {d : Do} {w s lg : Int} {p : Pl} {x : Int} (hp : p.st.length = 33) (he : (plStep d w s lg p x).e = 0) : parB (plStep d w s lg p x).st = true := styR_ok hp he
theorem plNext_st (p : Pl) : (plNext p).st = p.st := by
 unfold plNext
 split
 ·split <;> rfl
 ·rfl
theorem plNext_room {p : Pl} (hp : parB p.st = true) (hl : p.st.length = 33) (hr : 0 ≤ p.room ∧ p.room ≤ 1000000) : 0 ≤ (plNext p).room ∧ (plNext p).room ≤ 1000000 := by
 unfold plNext
 split
 ·split <;> exact innV_lim hp hl hr
 ·exact hr
theorem plSeq_ok {d : Do} {w s lg : Int} : ∀ (ps : List Int) (p : Pl), p.st.length = 33 → (0 ≤ p.room ∧ p.room ≤ 1000000) → ∀ q ∈ plSeq d w s lg p ps, (q.e = 0 → parB q.st = true) ∧ 0 ≤ q.room ∧ q.room ≤ 1000000
 | [], _, _, _, _, h => by simp [plSeq] at h
 | x :: xs, p, hp, hr, q, h => by
  have h1 : (plStep d w s lg p x).st.length = 33 := styR_len hp
  rw [plSeq] at h
  rcases List.mem_cons.1 h with rfl | h
  ·exact ⟨plStep_ok hp, hr⟩
  ·split at h
   ·rename_i he
    exact plSeq_ok xs _ ((congrArg List.length (plNext_st _)).trans h1) (plNext_room (plStep_ok hp he) h1 hr) q h
   ·simp at h
theorem pathL_ne (l : List Nd) (i : Nat) : pathL l i ≠ [] := by
 unfold pathL upL
 simp
theorem plsX_ne (d : Do) (x w s lg : Int) : plsX d x w s lg ≠ [] := by
 unfold plsX pthX
 cases e : pathL d.nodes (idx d.nodes x).toNat with
 | nil => exact absurd e (pathL_ne _ _)
 | cons a l => rw [plSeq]; simp
theorem lastP_mem {L : List Pl} (h : L ≠ []) : lastP L ∈ L := by
 unfold lastP
 rw [List.getLast?_eq_some_getLast h]
 exact List.getLast_mem h
theorem fnd_len (d : Do) (x w s lg : Int) : (fndR d x w s lg).1.st.length = 33 := by
 unfold fndR
 split
 ·rfl
 ·split
  ·rfl
  ·exact lastP_len (plSeq_len _ _ firstS_len)
theorem fnd_ok {d : Do} {x w s lg : Int} (h : (fndR d x w s lg).2 = 0) : opE d x w s lg = 0 ∧ (fndR d x w s lg).1 = lastP (plsX d x w s lg) ∧ (fndR d x w s lg).1.id = x ∧ ((fndR d x w s lg).1.e = 0 → parB (fndR d x w s lg).1.st = true) ∧ 0 ≤ (fndR d x w s lg).1.room ∧ (fndR d x w s lg).1.room ≤ 1000000 := by
 unfold fndR at h ⊢
 split at h
 ·rename_i h1; exact absurd h h1
 ·rename_i h1
  have h1 := Classical.not_not.1 h1
  rw [if_neg (fun h => h h1)]
  split at h
  ·simp at h
  ·rename_i h2
   rw [if_neg h2]
   have hw := rdB_w (opE_zero h1).2.1
   exact ⟨h1, rfl, Classical.not_not.1 h2, plSeq_ok _ _ firstS_len (by show 0 ≤ w ∧ w ≤ 1000000; omega) _ (lastP_mem (L := plsX d x w s lg) (plsX_ne d x w s lg))⟩
theorem blk_no {d : Do} {x : Int} {i : Nat} (hi : i < (pthX d.nodes x).length) (h : ¬ kdAt d.nodes (iat (pthX d.nodes x) i) = 1) : blkB d x = false := by
 rw [← Bool.not_eq_true]
 intro hb
 rw [blkB, List.all_eq_true] at hb
 exact h (of_decide_eq_true (hb _ (mem_iat hi)))
theorem blk_yes {d : Do} {x : Int} (h : ∀ j, j < (pthX d.nodes x).length → kdAt d.nodes (iat (pthX d.nodes x) j) = 1) : blkB d x = true := by
 rw [blkB, List.all_eq_true]
 intro y hy
 obtain ⟨j, hj, e⟩ := List.mem_iff_getElem.1 hy
 have := h j hj
 rw [iat, List.getD_eq_getElem?_getD, List.getElem?_eq_getElem hj] at this
 rw [← e]
 exact decide_eq_true this
noncomputable def hideB (d : Do) (w s lg : Int) (i : Nat) : Bool := decide (iat (fndR d (nat d.nodes i).id w s lg).1.st 24 = 1)
noncomputable def hidB (d : Do) (w s lg : Int) (i : Nat) : Bool :=
 if 0 ≤ pix d.nodes i then (if hidB d w s lg (pix d.nodes i).toNat = true then true else hideB d w s lg i) else hideB d w s lg i
termination_by i
decreasing_by
 have := pix_lt d.nodes i
 omega
noncomputable def parH (d : Do) (w s lg : Int) (i : Nat) : Bool := if 0 ≤ pix d.nodes i then hidB d w s lg (pix d.nodes i).toNat else false
theorem hidB_eq (d : Do) (w s lg : Int) (i : Nat) : hidB d w s lg i = if parH d w s lg i = true then true else hideB d w s lg i := by
 rw [hidB]
 unfold parH
 by_cases h : 0 ≤ pix d.nodes i
 ·rw [if_pos h, if_pos h]
 ·rw [if_neg h, if_neg h]; rfl
noncomputable def ckN (d : Do) (w s lg : Int) (i : Nat) : Int :=
 if parH d w s lg i = true then 0 else if (fndR d (nat d.nodes i).id w s lg).2 ≠ 0 then (fndR d (nat d.nodes i).id w s lg).2 else if (fndR d (nat d.nodes i).id w s lg).1.e ≠ 0 then (fndR d (nat d.nodes i).id w s lg).1.e
 else if hideB d w s lg i = false ∧ iat (fndR d (nat d.nodes i).id w s lg).1.st 21 = 1 ∧ (fndR d (nat d.nodes i).id w s lg).1.own = false then 21 else 0
noncomputable def ckL (d : Do) (w s lg : Int) : List Nat → Int
 | [] => 0
 | i :: is => if ckN d w s lg i ≠ 0 then ckN d w s lg i else ckL d w s lg is
noncomputable def chkC (d : Do) (w s lg : Int) : Int := if docB d = true ∧ rdB w s lg = true then ckL d w s lg (List.range d.nodes.length) else 1
theorem ckL_none {d : Do} {w s lg : Int} : ∀ {is : List Nat}, (∀ j ∈ is, ckN d w s lg j = 0) → ckL d w s lg is = 0
 | [], _ => rfl
 | i :: is, h => by rw [ckL, if_neg (fun hn => hn (h i (by simp))), ckL_none fun j hj => h j (List.mem_cons_of_mem _ hj)]
theorem ckL_some {d : Do} {w s lg : Int} {i : Nat} : ∀ {us bs : List Nat}, (∀ j ∈ us, ckN d w s lg j = 0) → ckN d w s lg i ≠ 0 → ckL d w s lg (us ++ i :: bs) = ckN d w s lg i
 | [], _, _, h => by rw [List.nil_append, ckL, if_pos h]
 | a :: us, bs, ha, h => by rw [List.cons_append, ckL, if_neg (fun hn => hn (ha a (by simp))), ckL_some (fun j hj => ha j (List.mem_cons_of_mem _ hj)) h]
theorem range_split {i n : Nat} (h : i < n) : List.range n = List.range i ++ i :: (List.range' (i + 1) (n - i - 1)) := by
 have e : n = i + (1 + (n - i - 1)) := by omega
 rw [List.range_eq_range', List.range_eq_range']
 conv => lhs; rw [e]
 rw [← List.range'_append_1, Nat.add_comm 1, List.range'_succ, Nat.zero_add]
theorem chk_some {d : Do} {w s lg : Int} {i : Nat} (hi : i < d.nodes.length) (hd : docB d = true) (hr : rdB w s lg = true) (h : ∀ j, j < i → ckN d w s lg j = 0) (hn : ckN d w s lg i ≠ 0) : chkC d w s lg = ckN d w s lg i := by
 unfold chkC
 rw [if_pos ⟨hd, hr⟩, range_split hi]
 exact ckL_some (fun j hj => h j (List.mem_range.1 hj)) hn
theorem chk_none {d : Do} {w s lg : Int} (hd : docB d = true) (hr : rdB w s lg = true) (h : ∀ j, j < d.nodes.length → ckN d w s lg j = 0) : chkC d w s lg = 0 := by
 unfold chkC
 rw [if_pos ⟨hd, hr⟩]
 exact ckL_none fun j hj => h j (List.mem_range.1 hj)
noncomputable def hdM (d : Do) (w s lg : Int) (i : Nat) : List (Int × Bool) := (List.range i).map fun j => ((nat d.nodes j).id, hidB d w s lg j)
noncomputable def hdE (d : Do) (w s lg : Int) (i : Nat) : List (D × D) := (hdM d w s lg i).map fun x => (.int .i64 x.1, .bool x.2)
theorem hd_find (d : Do) (w s lg : Int) {i : Nat} (hi : i ≤ d.nodes.length) (k : Int) : ((hdM d w s lg i).find? fun x => decide (k = x.1)) = if 0 ≤ idx (d.nodes.take i) k then some (k, hidB d w s lg (idx (d.nodes.take i) k).toNat) else none := by
 have htl : (d.nodes.take i).length = i := by rw [List.length_take]; omega
 rcases idx_cases (d.nodes.take i) k with ⟨j, h1, h2, h3, h4⟩ | ⟨h1, h2⟩
 ·rw [htl] at h1
  rw [if_pos (by omega), List.find?_eq_some_iff_getElem]
  rw [nat_take h1] at h2
  rw [h4]
  refine ⟨by simp, j, by simpa [hdM] using h1, by simp [hdM, h2], fun m hm => ?_⟩
  have := h3 m hm
  rw [nat_take (by omega)] at this
  simp [hdM]
  exact fun e => this e.symm
 ·rw [htl] at h1
  rw [if_neg (by omega), List.find?_eq_none]
  intro x hx
  unfold hdM at hx
  obtain ⟨j, hj, rfl⟩ := List.mem_map.1 hx
  have hj' := List.mem_range.1 hj
  have := h1 j hj'
  rw [nat_take hj'] at this
  simpa using fun e => this e.symm
theorem hd_get (d : Do) (w s lg : Int) {i : Nat} (hi : i ≤ d.nodes.length) (k : Int) : mget (.int .i64 k) (hdE d w s lg i) = some (if 0 ≤ idx (d.nodes.take i) k then some (.bool (hidB d w s lg (idx (d.nodes.take i) k).toNat)) else none) := by
 unfold hdE
 rw [mget_map (fun k => .int .i64 k) (fun b => D.bool b) keq_int k, hd_find d w s lg hi k]
 split <;> rfl
theorem hd_look (d : Do) (w s lg : Int) (i : Nat) (k : Int) : lookD false (.bool false) (if 0 ≤ idx (d.nodes.take i) k then some (.bool (hidB d w s lg (idx (d.nodes.take i) k).toNat)) else none) = .bool (if 0 ≤ idx (d.nodes.take i) k then hidB d w s lg (idx (d.nodes.take i) k).toNat else false) := by
 by_cases h : 0 ≤ idx (d.nodes.take i) k
 ·rw [if_pos h, if_pos h, lookD_fs]
 ·rw [if_neg h, if_neg h, lookD_fn]
theorem hd_put {d : Do} {w s lg : Int} {i : Nat} {b : Bool} (hi : i < d.nodes.length) (h : idx (d.nodes.take i) (nat d.nodes i).id = -1) (hb : hidB d w s lg i = b) : mput (.int .i64 (nat d.nodes i).id) (.bool b) (hdE d w s lg i) = some (hdE d w s lg (i + 1)) := by
 unfold hdE
 have htl : (d.nodes.take i).length = i := by rw [List.length_take]; omega
 rw [mput_map (fun k => .int .i64 k) (fun b => D.bool b) keq_int]
 ·unfold hdM
  simp [List.range_succ, hb]
 ·intro x hx e
  unfold hdM at hx
  obtain ⟨j, hj, rfl⟩ := List.mem_map.1 hx
  have hj' := List.mem_range.1 hj
  rcases idx_cases (d.nodes.take i) (nat d.nodes i).id with ⟨m, h1, _, _, h4⟩ | ⟨h1, _⟩
  ·omega
  ·exact h1 j (by omega) (by rw [nat_take hj']; exact e.symm)
theorem hd_par {d : Do} {w s lg : Int} {i : Nat} : (if 0 ≤ idx (d.nodes.take i) (nat d.nodes i).par then hidB d w s lg (idx (d.nodes.take i) (nat d.nodes i).par).toNat else false) = parH d w s lg i := rfl
theorem hd_self {d : Do} {w s lg : Int} {i : Nat} (hT : Tree d.nodes) (hi : i < d.nodes.length) : (if 0 ≤ idx (d.nodes.take (i + 1)) (nat d.nodes i).id then hidB d w s lg (idx (d.nodes.take (i + 1)) (nat d.nodes i).id).toNat else false) = hidB d w s lg i := by
 have e : idx (d.nodes.take (i + 1)) (nat d.nodes i).id = i := by
  have h1 := hT.once i hi
  rcases idx_cases (d.nodes.take i) (nat d.nodes i).id with ⟨m, g1, _, _, g4⟩ | ⟨g1, _⟩
  ·omega
  ·rcases idx_cases (d.nodes.take (i + 1)) (nat d.nodes i).id with ⟨m, k1, k2, k3, k4⟩ | ⟨k1, _⟩
   ·rw [List.length_take] at k1 g1
    rw [nat_take (by omega)] at k2
    by_cases hm : m = i
    ·rw [k4, hm]
    ·exact absurd (by rw [nat_take (by omega)]; exact k2) (g1 m (by omega))
   ·exact absurd (by rw [nat_take (by omega)]) (k1 i (by rw [List.length_take]; omega))
 rw [e, if_pos (by omega), Int.toNat_natCast]
end
end Go.Proofs.YtinhjbnljbmbcaaGreat
