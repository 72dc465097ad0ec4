/- Contain, plain: documents in which a path's nodes are the same. -/
import Derived.Test.YtinhjbnljbmbcaaGreatYPk
namespace Go.Proofs.YtinhjbnljbmbcaaGreat
open Go Go.RowKit
set_option linter.unusedSimpArgs false
set_option linter.unusedVariables false
set_option maxRecDepth 100000
section
variable {w s lg : Int}
theorem filter_mI {p q : Nat → Bool} {n : Nat} (h : ∀ i, p i = q i) : mI p n = mI q n := by
 unfold mI
 rw [show p = q from funext h]
theorem claims_eq {l m : List Nd} {rs : List Ru} {x bx : Int} (h : ∀ ts, mchB l ts x = mchB m ts x) : claimsR l rs x w s lg bx = claimsR m rs x w s lg bx := by
 unfold claimsR
 rw [filter_mI fun i => ?_]
 unfold ruM
 rw [h]
theorem styR_eq {l m : List Nd} {rs : List Ru} {x : Int} (hl : treB l = true) (hm : treB m = true) (hx : 0 ≤ idx l x ↔ 0 ≤ idx m x) (h : ∀ ts, mchB l ts x = mchB m ts x) (par : List Int) (wd bx : Int) : styR l rs x w s lg par wd bx = styR m rs x w s lg par wd bx := by
 have hc : ckE l rs x w s lg bx = ckE m rs x w s lg bx := by
  unfold ckE ckB
  rw [hl, hm]
  simp only [hx]
 unfold styR
 rw [hc, claims_eq h]
theorem plSeq_eq {d e : Do} : ∀ (xs : List Int) (p : Pl), (∀ y ∈ xs, ∀ p, plStep d w s lg p y = plStep e w s lg p y) → plSeq d w s lg p xs = plSeq e w s lg p xs
 | [], _, _ => rfl
 | x :: xs, p, h => by
  rw [plSeq, plSeq, h x (by simp), plSeq_eq xs _ fun y hy => h y (List.mem_cons_of_mem _ hy)]
theorem step_eq {d e : Do} {x : Int} (hr : d.rules = e.rules) (hs : ∀ par wd bx, styR d.nodes e.rules x w s lg par wd bx = styR e.nodes e.rules x w s lg par wd bx) (hk : kdAt d.nodes x = kdAt e.nodes x) (p : Pl) : plStep d w s lg p x = plStep e w s lg p x := by
 unfold plStep
 rw [hr, hs, hk]
/-- Two documents tell the same of a node. -/
theorem fnd_same {d e : Do} {x : Int} (ho : opE d x w s lg = opE e x w s lg) (hp : plsX d x w s lg = plsX e x w s lg) : fndR d x w s lg = fndR e x w s lg := by
 unfold fndR
 rw [ho, hp]
theorem all_same {d e : Do} {x : Int} (ho : opE d x w s lg = opE e x w s lg) (hp : plsX d x w s lg = plsX e x w s lg) (hb : blkB d x = blkB e x) : styC d x w s lg = styC e x w s lg ∧ innC d x w s lg = innC e x w s lg ∧ boxC d x w s lg = boxC e x w s lg := by
 have hf := fnd_same ho hp
 refine ⟨?_, ?_, ?_⟩
 ·unfold styC; rw [hf]
 ·unfold innC; rw [ho, hb, hf]
 ·unfold boxC; rw [hf]
end
/-! ### The nodes of a path alone -/
section
variable {w s lg : Int}
def lessD (d : Do) (i : Nat) : Do := ⟨ptT d.nodes i, d.rules, d.fonts, d.breaks⟩
theorem less_doc {d : Do} {i : Nat} (hd : docB d = true) (hi : i < d.nodes.length) : docB (lessD d i) = true := by
 have hT := treB_true.1 (docB_tre hd).1
 unfold docB at hd ⊢
 simp only [Bool.and_eq_true] at hd ⊢
 exact ⟨⟨⟨⟨hd.1.1.1.1, treB_true.2 (ptT_tree hT hi)⟩, hd.1.1.2⟩, hd.1.2⟩, hd.2⟩
theorem ptT_id {l : List Nd} (hT : Tree l) {i q : Nat} (hi : i < l.length) (hq : q ≤ (chn l i).length) : idx (ptT l i) (nat (ptT l i) q).id = q ∧ idx l (nat (ptT l i) q).id = cur l i ((chn l i).length - q) := by
 have hc := (cur_pix (l := l) (i := i) (j := (chn l i).length - q) (by omega)).2
 exact ⟨idx_self (ptT_tree hT hi) (by rw [ptT_len]; omega), by rw [ptT_at hq]; exact idx_self hT (by omega)⟩
theorem less_mch {l : List Nd} (hT : Tree l) {i q : Nat} (hi : i < l.length) (hq : q ≤ (chn l i).length) (ts : List Ts) : mchB (ptT l i) ts (nat (ptT l i) q).id = mchB l ts (nat (ptT l i) q).id := by
 obtain ⟨h1, h2⟩ := ptT_id hT hi hq
 unfold mchB
 rw [h1, h2, treB_true.2 hT, treB_true.2 (ptT_tree hT hi), Int.toNat_natCast, Int.toNat_natCast, ptT_mt hT hi _ _ hq, decide_eq_true (show (0 : Int) ≤ (q : Int) by omega), decide_eq_true (show (0 : Int) ≤ ((cur l i ((chn l i).length - q) : Nat) : Int) by omega)]
theorem less_kd {l : List Nd} (hT : Tree l) {i q : Nat} (hi : i < l.length) (hq : q ≤ (chn l i).length) : kdAt (ptT l i) (nat (ptT l i) q).id = kdAt l (nat (ptT l i) q).id := by
 obtain ⟨h1, h2⟩ := ptT_id hT hi hq
 unfold kdAt
 rw [h1, h2, Int.toNat_natCast, Int.toNat_natCast, ptT_at hq]
theorem less_path {l : List Nd} (hT : Tree l) {i : Nat} (hi : i < l.length) : pathL (ptT l i) (chn l i).length = pathL l i := by
 have hc := ptT_chn hT hi (chn l i).length (Nat.le_refl _)
 rw [Nat.sub_self, cur_zero] at hc
 unfold pathL upL
 congr 1
 rw [List.map_cons, List.map_cons]
 congr 1
 ·rw [ptT_at (Nat.le_refl _), Nat.sub_self, cur_zero]
 ·have h2 := congrArg (List.map fun x => (nat l x).id) hc
  rw [h2, List.map_map]
  refine List.map_congr_left fun x hx => ?_
  have := chn_mem hx
  rw [Function.comp_apply, ptT_at (by omega)]
theorem path_pt {l : List Nd} (hT : Tree l) {i : Nat} (hi : i < l.length) {y : Int} (h : y ∈ pathL (ptT l i) (chn l i).length) : ∃ q, q ≤ (chn l i).length ∧ (nat (ptT l i) q).id = y := path_mem h
theorem less_all {d : Do} {i : Nat} (hd : docB d = true) (hr : rdB w s lg = true) (hi : i < d.nodes.length) : styC (lessD d i) (nat d.nodes i).id w s lg = styC d (nat d.nodes i).id w s lg ∧ innC (lessD d i) (nat d.nodes i).id w s lg = innC d (nat d.nodes i).id w s lg ∧ boxC (lessD d i) (nat d.nodes i).id w s lg = boxC d (nat d.nodes i).id w s lg := by
 have hT := treB_true.1 (docB_tre hd).1
 have hld := less_doc hd hi
 have hlen := ptT_len d.nodes i
 have hn : nat (lessD d i).nodes (chn d.nodes i).length = nat d.nodes i := by
  show nat (ptT d.nodes i) _ = _
  rw [ptT_at (Nat.le_refl _), Nat.sub_self, cur_zero]
 have hli : (chn d.nodes i).length < (lessD d i).nodes.length := by show _ < (ptT d.nodes i).length; omega
 have ho : opE (lessD d i) (nat d.nodes i).id w s lg = opE d (nat d.nodes i).id w s lg := by
  rw [opE_node hd hr hi, ← hn, opE_node hld hr hli]
 have hpa : pthX (lessD d i).nodes (nat d.nodes i).id = pathL (ptT d.nodes i) (chn d.nodes i).length := by
  rw [← hn, idx_pth (treB_true.1 (docB_tre hld).1) hli]; rfl
 have hst : ∀ y ∈ pathL (ptT d.nodes i) (chn d.nodes i).length, ∀ p, plStep (lessD d i) w s lg p y = plStep d w s lg p y := by
  intro y hy p
  obtain ⟨q, hq, rfl⟩ := path_pt hT hi hy
  obtain ⟨h1, h2⟩ := ptT_id hT hi hq
  refine step_eq (d := lessD d i) (e := d) rfl (fun par wd bx => ?_) (less_kd hT hi hq) p
  exact styR_eq (docB_tre hld).1 (docB_tre hd).1 (by show 0 ≤ idx (ptT d.nodes i) _ ↔ _; rw [h1, h2]; omega) (fun ts => less_mch hT hi hq ts) par wd bx
 refine all_same ho ?_ ?_
 ·unfold plsX
  rw [hpa, plSeq_eq _ _ hst, less_path hT hi, idx_pth hT hi]
 ·unfold blkB
  rw [hpa, idx_pth hT hi, ← less_path hT hi]
  have key : ∀ L : List Int, (∀ y ∈ L, kdAt (lessD d i).nodes y = kdAt d.nodes y) → (L.all fun y => decide (kdAt (lessD d i).nodes y = 1)) = L.all fun y => decide (kdAt d.nodes y = 1) := by
   intro L
   induction L with
   | nil => intro _; rfl
   | cons a L ih => intro h; rw [List.all_cons, List.all_cons, h a (by simp), ih fun y hy => h y (List.mem_cons_of_mem _ hy)]
  refine key _ fun y hy => ?_
  obtain ⟨q, hq, rfl⟩ := path_pt hT hi hy
  exact less_kd hT hi hq
end
/-! ### A list that grows, kept in a cell of another box -/
section
variable {P : Program} {sz n b : Nat} {rows : List (List D)} {o : Option (Nat × Nat)} {x y : Box}
theorem apD_some {c : Nat} : apD sz rows (some (b, c)) = .sl sz rows (.own b c) := by simp only [apD]
def frO (o : Option (Nat × Nat)) (b : Nat) : Prop := ∀ c k, o = some (c, k) → c ≠ b
theorem get_apS (h : frO o b) : (apS sz n o ++ [(b, x)]).get b = some x := by
 cases o with
 | none => simp [apS, Store.get]
 | some p =>
  obtain ⟨c, k⟩ := p
  have : ¬ c = b := h c k rfl
  have h2 : ¬ b = c := fun e => this e.symm
  simp [apS, Store.get, this, h2]
theorem upd_apS (h : frO o b) : (apS sz n o ++ [(b, x)]).upd b y = apS sz n o ++ [(b, y)] := by
 cases o with
 | none => simp [apS, Store.upd]
 | some p =>
  obtain ⟨c, k⟩ := p
  have : ¬ c = b := h c k rfl
  have h2 : ¬ b = c := fun e => this e.symm
  simp [apS, Store.upd, this, h2]
theorem frO_ap (h : frO o b) : apFr o [(b, x)] := by
 intro c k e
 have := h c k e
 simp [Store.keys, this]
end
end Go.Proofs.YtinhjbnljbmbcaaGreat
