/- Claim: boxes that are well-formed. Printed by a tool of our own. -/
import Derived.Test.YtfjnohmdilmfhaaGreatDoorY05
import Derived.Test.YtfjnohmdilmfhaaGreatDoorY04
namespace Go.Proofs.YtfjnohmdilmfhaaGreatDoor
open Go Go.RowKit
set_option linter.unusedSimpArgs false
set_option linter.unusedVariables false
set_option maxHeartbeats 4000000
set_option maxRecDepth 100000
def nds (l : List Bx) (i : Nat) : List Int := (l.take i).map (·.node)
def sE (l : List Bx) (i : Nat) : List (D × D) := ((l.take i).map fun b => (b.node, true)).map fun x => (.int .i64 x.1, .bool x.2)
theorem sE_get (l : List Bx) (i : Nat) (x : Int) : mget (.int .i64 x) (sE l i) = some (if x ∈ nds l i then some (.bool true) else none) := by
 unfold sE nds
 rw [mget_map (fun k => .int .i64 k) (fun b => .bool b) (fun a b => by simp [keqD]) x]
 congr 1
 generalize l.take i = m
 induction m with
 | nil => rfl
 | cons b m ih =>
  simp only [List.map_cons, List.find?_cons, List.mem_cons]
  by_cases h : x = b.node
  ·simp [h]
  ·simp only [h, decide_false, false_or]; exact ih
theorem sE_look (p : Prop) [Decidable p] : lookD false (.bool false) (if p then some (.bool true) else none) = .bool (decide p) := by by_cases h : p <;> simp [h, lookD]
theorem nds_succ {l : List Bx} {i : Nat} (h : i < l.length) : nds l (i + 1) = nds l i ++ [(bxat l i).node] := by
 unfold nds bxat
 rw [List.take_succ_eq_append_getElem h, List.map_append]
 simp [h]
theorem sE_put {l : List Bx} {i : Nat} (hi : i < l.length) (h : decide ((bxat l i).node ∈ nds l i) = false) : mput (.int .i64 (bxat l i).node) (.bool true) (sE l i) = some (sE l (i + 1)) := by
 unfold sE
 rw [mput_map (fun k => .int .i64 k) (fun b => .bool b) (fun a b => by simp [keqD]) _ true _ (fun x hx e => ?_)]
 ·congr 2
  unfold bxat
  rw [List.take_succ_eq_append_getElem hi, List.map_append]
  simp [hi]
 ·obtain ⟨b, hb, rfl⟩ := List.mem_map.1 hx
  exact of_decide_eq_false h (List.mem_map.2 ⟨b, hb, e.symm⟩)
theorem nds_nodup {l : List Bx} {i : Nat} (h : (nds l i).Nodup) (hi : i < l.length) (hn : decide ((bxat l i).node ∈ nds l i) = false) : (nds l (i + 1)).Nodup := by
 rw [nds_succ hi, List.nodup_append]
 refine ⟨h, by simp, fun a ha b hb e => ?_⟩
 rw [List.mem_singleton.1 hb] at e
 exact of_decide_eq_false hn (e ▸ ha)
theorem bxs_dup {l : List Bx} {i : Nat} (hi : i < l.length) (hn : (bxat l i).node ∈ nds l i) : bxsB l = false := by
 unfold bxsB
 rw [Bool.and_eq_false_iff]
 right
 rw [decide_eq_false_iff_not]
 intro h
 have e : l.map (·.node) = nds l (i + 1) ++ (l.drop (i + 1)).map (·.node) := by unfold nds; rw [← List.map_append, List.take_append_drop]
 rw [e, nds_succ hi, List.append_assoc, List.nodup_append] at h
 exact h.2.2 _ hn _ (by simp) rfl
theorem bxs_bad {l : List Bx} {i : Nat} (hi : i < l.length) (hn : bxB (bxat l i) = false) : bxsB l = false := by
 unfold bxsB
 rw [Bool.and_eq_false_iff]
 left
 rw [← Bool.not_eq_true, List.all_eq_true]
 intro h
 rw [h _ (bxat_mem hi)] at hn
 cases hn
theorem bxs_ok {l : List Bx} (h : ∀ j, j < l.length → bxB (bxat l j) = true) (hn : (nds l l.length).Nodup) : bxsB l = true := by
 unfold bxsB
 unfold nds at hn
 rw [List.take_length] at hn
 rw [decide_eq_true hn, Bool.and_true, List.all_eq_true]
 intro b hb
 obtain ⟨j, hj, rfl⟩ := List.getElem_of_mem hb
 have := h j hj
 unfold bxat at this
 simpa [hj] using this
theorem any_not {α : Type} (p : α → Bool) (l : List α) : (l.any fun x => !p x) = !l.all p := by
 induction l with
 | nil => rfl
 | cons x l ih => simp [ih]
theorem bxB_all {b : Bx} (h : 1 ≤ b.node ∧ b.node ≤ 1000000) (h2 : plB b.x b.y b.w b.h = true) (h3 : ∀ k, k < b.lines.length → snB (snat b.lines k) = true) : bxB b = true := by
 unfold bxB
 rw [decide_eq_true h, h2, Bool.true_and, Bool.true_and, List.all_eq_true]
 intro s hs
 obtain ⟨j, hj, rfl⟩ := List.getElem_of_mem hs
 have := h3 j hj
 unfold snat at this
 simpa [hj] using this
theorem bxB_no {b : Bx} {k : Nat} (hk : k < b.lines.length) (h : snB (snat b.lines k) = false) : bxB b = false := by
 unfold bxB
 rw [Bool.and_eq_false_iff]
 right
 rw [← Bool.not_eq_true, List.all_eq_true]
 intro h2
 rw [h2 _ (snat_mem hk)] at h
 cases h
theorem mem_nds {l : List Bx} {i k : Nat} (hk : k < i) (hi : i < l.length) : (bxat l k).node ∈ nds l i := by
 unfold nds bxat
 refine List.mem_map.2 ⟨l[k], ?_, by simp [show k < l.length by omega]⟩
 rw [List.mem_take_iff_getElem]
 exact ⟨k, by omega, rfl⟩
theorem nds_mem {l : List Bx} {i : Nat} (hi : i < l.length) {x : Int} (h : x ∈ nds l i) : ∃ k, k < i ∧ (bxat l k).node = x := by
 unfold nds at h
 obtain ⟨b, hb, rfl⟩ := List.mem_map.1 h
 obtain ⟨k, hk, rfl⟩ := List.mem_take_iff_getElem.1 hb
 exact ⟨k, by omega, by unfold bxat; simp [show k < l.length by omega]⟩
def fewB (l : List Bx) : Bool := l.all (fun b => decide (b.lines.length ≤ 40)) && decide (l.length ≤ 40)
theorem few_no {l : List Bx} {i : Nat} (hi : i < l.length) (h : 40 < (bxat l i).lines.length) : fewB l = false := by
 unfold fewB
 rw [Bool.and_eq_false_iff]
 left
 rw [← Bool.not_eq_true, List.all_eq_true]
 intro h2
 have := of_decide_eq_true (h2 _ (bxat_mem hi))
 omega
theorem few_yes {l : List Bx} (h : ∀ j, j < l.length → (bxat l j).lines.length ≤ 40) : fewB l = decide (l.length ≤ 40) := by
 unfold fewB
 rw [List.all_eq_true.2 fun b hb => ?_, Bool.true_and]
 obtain ⟨j, hj, rfl⟩ := List.getElem_of_mem hb
 have := h j hj
 unfold bxat at this
 simpa [hj] using this
theorem bx_lens {l : List Bx} (h : okRows (l.map bxrow)) {i : Nat} (hi : i < l.length) : (bxat l i).lines.length ≤ 9223372036854775807 := by
 have := (okRows_map bxrow l).1 h (bxat l i) (bxat_mem hi)
 simp only [bxrow, okAll, D.ok, lim_eq, and_true, List.length_map] at this
 exact this.2.2.2.2.2.2.1
attribute [local go_sem] List.length_map rowAt_n nrow rowAt_t trow rowAt_i irow
attribute [local go_sem] rowAt_c rowAt_sn rowAt_bx snrow bxrow
theorem fix_any {α : Type} (p : α → Bool) (d : α) (l : List α) : decide (0 ≤ fixI p l) = l.any p := by
 rcases fixI_cases p l d with ⟨i, h1, h2, h3, h4⟩ | ⟨h1, h2⟩
 ·rw [h4, decide_eq_true (by omega)]
  symm
  rw [List.any_eq_true]
  exact ⟨l.getD i d, by simp [h1], h2⟩
 ·rw [h2, decide_eq_false (by omega)]
  symm
  rw [← Bool.not_eq_true, List.any_eq_true]
  rintro ⟨x, hx, hp⟩
  obtain ⟨j, hj, rfl⟩ := List.getElem_of_mem hx
  have := h1 j hj
  rw [show l.getD j d = l[j] by simp [hj]] at this
  rw [this] at hp
  cases hp
theorem ifsn_w (g : Nat) (cs : List D) (p : Sn → Bool) (l : List Sn) (t : Tok) (hp : ∀ i, i < l.length → PCall Tryz.prog (.func g) (.ag (snrow (snat l i)) :: cs) (.bool (p (snat l i)))) : PCall Tryz.prog (.func 73) [.sl 5 (l.map snrow) t, .fn (.func g) [] cs] (.int .i64 (fixI p l)) := by
 refine PCall.ok fun hok => ?_
 simp only [okAll, D.ok, okRows, and_true, true_and, lim_eq, inR_i64', inR_i32', inR_u8', inR_u16', inR_u64'] at hok
 obtain ⟨hl, hr⟩ := hok; rw [List.length_map] at hl
 refine PCall.le ?_
 refine fn_ Tryz.func73 (by rfl) (by rfl) (rs := [.tmp 4]) (by rfl) (by simp [Tryz.f73]) ?_
 refine sr_ [0, 1] [] [] fun κ ξ hκ hξ => ?_
 try simp +decide only [go_sem]
 repeat with_reducible refine an_ ?_
 refine hκ _ _ ?_; clear hκ hξ ξ κ
 refine sq ?_
 refine sr_ [0, 1, 7, 8] [] [] fun κ ξ hκ hξ => ?_
 try simp +decide only [go_sem]
 repeat with_reducible refine an_ ?_
 refine hκ _ _ ?_; clear hκ hξ ξ κ
 refine bl ?_
 refine lp (α := Nat) (fun i => mk [(0, .sl 5 (l.map snrow) t), (1, .fn (.func g) [] cs), (7, .int .i64 l.length), (8, .int .i64 i)]) (fun _ => []) (fun i => i ≤ l.length ∧ ∀ j, j < i → p (snat l j) = false) (fun i => l.length - i) 0 ⟨⟨by omega, by intro j hj; omega⟩, EnvLe.of_eq rfl, .refl _⟩ ?_
 rintro i ⟨hi, hj⟩
 refine sr_ [0, 1, 7, 8, 9] [] [] fun κ ξ hκ hξ => ?_
 try simp +decide only [go_sem]
 repeat with_reducible refine an_ ?_
 refine hκ _ _ ?_; clear hκ hξ ξ κ
 refine sq ?_
 refine cd_ (fun c0 => ?_) (fun c0 => ?_)
 ·simp only [go_sem] at c0
  have hpi := hp i (by omega)
  refine sk ?_
  refine sq ?_
  refine bl ?_
  refine sr_ [0, 1, 5, 7, 8] [] [] fun κ ξ hκ hξ => ?_
  try simp +decide only [go_sem, c0]
  repeat with_reducible refine an_ ?_
  refine hκ _ _ ?_; clear hκ hξ ξ κ
  refine sr_ [0, 1, 5, 7, 8, 16] [] [] fun κ ξ hκ hξ => ?_
  try simp +decide only [go_sem, c0]
  repeat with_reducible refine an_ ?_
  refine callFc hpi ?_
  try simp +decide only [go_sem, c0]
  repeat with_reducible refine an_ ?_
  refine hκ _ _ ?_; clear hκ hξ ξ κ
  refine cd_ (fun c1 => ?_) (fun c1 => ?_)
  ·try simp only [go_sem] at c1
   refine sr_ [4] [] [] fun κ ξ hκ hξ => ?_
   try simp +decide only [go_sem, c0, c1]
   repeat with_reducible refine an_ ?_
   refine hκ _ _ ?_; clear hκ hξ ξ κ
   refine rt ?_
   refine retE ?_
   simp +decide only [go_sem, resD, resV, c0, c1]
   congr 1
   rw [fixI_some (p := p) (d := sn0) (i := i) (by omega) (by simpa [snat] using c1) fun j h => by simpa [snat] using hj j h]
  ·try simp only [go_sem] at c1
   refine sk ?_
   refine rr_ [0, 1, 7, 8] [] [] fun κ ξ hκ hξ => ?_
   try simp +decide only [go_sem, c0, c1]
   repeat with_reducible refine an_ ?_
   refine hκ _ _ ?_; clear hκ hξ ξ κ
   refine ⟨i + 1, ⟨⟨by omega, ?_⟩, by omega⟩, EnvLe.of_eq (by rw [w64 (by omega)]; rfl), List.nil_sublist _⟩
   intro j h
   rcases Nat.lt_succ_iff_lt_or_eq.1 h with h | rfl
   ·exact hj j h
   ·first | assumption | simpa using c1
 ·simp only [go_sem] at c0
  refine ex ?_
  refine sr_ [4] [] [] fun κ ξ hκ hξ => ?_
  try simp +decide only [go_sem, c0]
  repeat with_reducible refine an_ ?_
  refine hκ _ _ ?_; clear hκ hξ ξ κ
  refine rt ?_
  refine retE ?_
  simp +decide only [go_sem, resD, resV, c0]
  congr 1
  rw [fixI_none (p := p) (d := sn0) fun j h => by simpa [snat] using hj j (by omega)]
theorem cfsn_w (g : Nat) (cs : List D) (p : Sn → Bool) (l : List Sn) (t : Tok) (hp : ∀ i, i < l.length → PCall Tryz.prog (.func g) (.ag (snrow (snat l i)) :: cs) (.bool (p (snat l i)))) : PCall Tryz.prog (.func 41) [.sl 5 (l.map snrow) t, .fn (.func g) [] cs] (.bool (l.any p)) := by
 refine PCall.le ?_
 refine fn_ Tryz.func41 (by rfl) (by rfl) (rs := [.tmp 4]) (by rfl) (by simp [Tryz.f41]) ?_
 refine sr_ [0, 1] [] [] fun κ ξ hκ hξ => ?_
 try simp +decide only [go_sem]
 repeat with_reducible refine an_ ?_
 refine hκ _ _ ?_; clear hκ hξ ξ κ
 refine sr_ [4] [] [] fun κ ξ hκ hξ => ?_
 try simp +decide only [go_sem]
 repeat with_reducible refine an_ ?_
 refine callF (ifsn_w g cs p l t hp) ?_
 try simp +decide only [go_sem]
 repeat with_reducible refine an_ ?_
 refine hκ _ _ ?_; clear hκ hξ ξ κ
 refine rt ?_
 refine retE ?_
 simp +decide only [go_sem, resD, resV]
 all_goals congr 1
 all_goals exact fix_any p sn0 l
theorem ifbx_w (g : Nat) (cs : List D) (p : Bx → Bool) (l : List Bx) (t : Tok) (hp : ∀ i, i < l.length → PCall Tryz.prog (.func g) (.ag (bxrow (bxat l i)) :: cs) (.bool (p (bxat l i)))) : PCall Tryz.prog (.func 74) [.sl 7 (l.map bxrow) t, .fn (.func g) [] cs] (.int .i64 (fixI p l)) := by
 refine PCall.ok fun hok => ?_
 simp only [okAll, D.ok, okRows, and_true, true_and, lim_eq, inR_i64', inR_i32', inR_u8', inR_u16', inR_u64'] at hok
 obtain ⟨hl, hr⟩ := hok; rw [List.length_map] at hl
 refine PCall.le ?_
 refine fn_ Tryz.func74 (by rfl) (by rfl) (rs := [.tmp 4]) (by rfl) (by simp [Tryz.f74]) ?_
 refine sr_ [0, 1] [] [] fun κ ξ hκ hξ => ?_
 try simp +decide only [go_sem]
 repeat with_reducible refine an_ ?_
 refine hκ _ _ ?_; clear hκ hξ ξ κ
 refine sq ?_
 refine sr_ [0, 1, 7, 8] [] [] fun κ ξ hκ hξ => ?_
 try simp +decide only [go_sem]
 repeat with_reducible refine an_ ?_
 refine hκ _ _ ?_; clear hκ hξ ξ κ
 refine bl ?_
 refine lp (α := Nat) (fun i => mk [(0, .sl 7 (l.map bxrow) t), (1, .fn (.func g) [] cs), (7, .int .i64 l.length), (8, .int .i64 i)]) (fun _ => []) (fun i => i ≤ l.length ∧ ∀ j, j < i → p (bxat l j) = false) (fun i => l.length - i) 0 ⟨⟨by omega, by intro j hj; omega⟩, EnvLe.of_eq rfl, .refl _⟩ ?_
 rintro i ⟨hi, hj⟩
 refine sr_ [0, 1, 7, 8, 9] [] [] fun κ ξ hκ hξ => ?_
 try simp +decide only [go_sem]
 repeat with_reducible refine an_ ?_
 refine hκ _ _ ?_; clear hκ hξ ξ κ
 refine sq ?_
 refine cd_ (fun c0 => ?_) (fun c0 => ?_)
 ·simp only [go_sem] at c0
  have hpi := hp i (by omega)
  refine sk ?_
  refine sq ?_
  refine bl ?_
  refine sr_ [0, 1, 5, 7, 8] [] [] fun κ ξ hκ hξ => ?_
  try simp +decide only [go_sem, c0]
  repeat with_reducible refine an_ ?_
  refine hκ _ _ ?_; clear hκ hξ ξ κ
  refine sr_ [0, 1, 5, 7, 8, 16] [] [] fun κ ξ hκ hξ => ?_
  try simp +decide only [go_sem, c0]
  repeat with_reducible refine an_ ?_
  refine callFc hpi ?_
  try simp +decide only [go_sem, c0]
  repeat with_reducible refine an_ ?_
  refine hκ _ _ ?_; clear hκ hξ ξ κ
  refine cd_ (fun c1 => ?_) (fun c1 => ?_)
  ·try simp only [go_sem] at c1
   refine sr_ [4] [] [] fun κ ξ hκ hξ => ?_
   try simp +decide only [go_sem, c0, c1]
   repeat with_reducible refine an_ ?_
   refine hκ _ _ ?_; clear hκ hξ ξ κ
   refine rt ?_
   refine retE ?_
   simp +decide only [go_sem, resD, resV, c0, c1]
   congr 1
   rw [fixI_some (p := p) (d := bx0) (i := i) (by omega) (by simpa [bxat] using c1) fun j h => by simpa [bxat] using hj j h]
  ·try simp only [go_sem] at c1
   refine sk ?_
   refine rr_ [0, 1, 7, 8] [] [] fun κ ξ hκ hξ => ?_
   try simp +decide only [go_sem, c0, c1]
   repeat with_reducible refine an_ ?_
   refine hκ _ _ ?_; clear hκ hξ ξ κ
   refine ⟨i + 1, ⟨⟨by omega, ?_⟩, by omega⟩, EnvLe.of_eq (by rw [w64 (by omega)]; rfl), List.nil_sublist _⟩
   intro j h
   rcases Nat.lt_succ_iff_lt_or_eq.1 h with h | rfl
   ·exact hj j h
   ·first | assumption | simpa using c1
 ·simp only [go_sem] at c0
  refine ex ?_
  refine sr_ [4] [] [] fun κ ξ hκ hξ => ?_
  try simp +decide only [go_sem, c0]
  repeat with_reducible refine an_ ?_
  refine hκ _ _ ?_; clear hκ hξ ξ κ
  refine rt ?_
  refine retE ?_
  simp +decide only [go_sem, resD, resV, c0]
  congr 1
  rw [fixI_none (p := p) (d := bx0) fun j h => by simpa [bxat] using hj j (by omega)]
theorem ifcl_w (g : Nat) (cs : List D) (p : Cl → Bool) (l : List Cl) (t : Tok) (hp : ∀ i, i < l.length → PCall Tryz.prog (.func g) (.ag (crow (cat l i)) :: cs) (.bool (p (cat l i)))) : PCall Tryz.prog (.func 80) [.sl 5 (l.map crow) t, .fn (.func g) [] cs] (.int .i64 (fixI p l)) := by
 refine PCall.ok fun hok => ?_
 simp only [okAll, D.ok, okRows, and_true, true_and, lim_eq, inR_i64', inR_i32', inR_u8', inR_u16', inR_u64'] at hok
 obtain ⟨hl, hr⟩ := hok; rw [List.length_map] at hl
 refine PCall.le ?_
 refine fn_ Tryz.func80 (by rfl) (by rfl) (rs := [.tmp 4]) (by rfl) (by simp [Tryz.f80]) ?_
 refine sr_ [0, 1] [] [] fun κ ξ hκ hξ => ?_
 try simp +decide only [go_sem]
 repeat with_reducible refine an_ ?_
 refine hκ _ _ ?_; clear hκ hξ ξ κ
 refine sq ?_
 refine sr_ [0, 1, 7, 8] [] [] fun κ ξ hκ hξ => ?_
 try simp +decide only [go_sem]
 repeat with_reducible refine an_ ?_
 refine hκ _ _ ?_; clear hκ hξ ξ κ
 refine bl ?_
 refine lp (α := Nat) (fun i => mk [(0, .sl 5 (l.map crow) t), (1, .fn (.func g) [] cs), (7, .int .i64 l.length), (8, .int .i64 i)]) (fun _ => []) (fun i => i ≤ l.length ∧ ∀ j, j < i → p (cat l j) = false) (fun i => l.length - i) 0 ⟨⟨by omega, by intro j hj; omega⟩, EnvLe.of_eq rfl, .refl _⟩ ?_
 rintro i ⟨hi, hj⟩
 refine sr_ [0, 1, 7, 8, 9] [] [] fun κ ξ hκ hξ => ?_
 try simp +decide only [go_sem]
 repeat with_reducible refine an_ ?_
 refine hκ _ _ ?_; clear hκ hξ ξ κ
 refine sq ?_
 refine cd_ (fun c0 => ?_) (fun c0 => ?_)
 ·simp only [go_sem] at c0
  have hpi := hp i (by omega)
  rw [crow_eq] at hpi
  refine sk ?_
  refine sq ?_
  refine bl ?_
  refine sr_ [0, 1, 5, 7, 8] [] [] fun κ ξ hκ hξ => ?_
  try simp +decide only [go_sem, c0]
  repeat with_reducible refine an_ ?_
  refine hκ _ _ ?_; clear hκ hξ ξ κ
  refine sr_ [0, 1, 5, 7, 8, 16] [] [] fun κ ξ hκ hξ => ?_
  try simp +decide only [go_sem, c0]
  repeat with_reducible refine an_ ?_
  refine callFc hpi ?_
  try simp +decide only [go_sem, c0]
  repeat with_reducible refine an_ ?_
  refine hκ _ _ ?_; clear hκ hξ ξ κ
  refine cd_ (fun c1 => ?_) (fun c1 => ?_)
  ·try simp only [go_sem] at c1
   refine sr_ [4] [] [] fun κ ξ hκ hξ => ?_
   try simp +decide only [go_sem, c0, c1]
   repeat with_reducible refine an_ ?_
   refine hκ _ _ ?_; clear hκ hξ ξ κ
   refine rt ?_
   refine retE ?_
   simp +decide only [go_sem, resD, resV, c0, c1]
   congr 1
   rw [fixI_some (p := p) (d := cl0) (i := i) (by omega) (by simpa [cat] using c1) fun j h => by simpa [cat] using hj j h]
  ·try simp only [go_sem] at c1
   refine sk ?_
   refine rr_ [0, 1, 7, 8] [] [] fun κ ξ hκ hξ => ?_
   try simp +decide only [go_sem, c0, c1]
   repeat with_reducible refine an_ ?_
   refine hκ _ _ ?_; clear hκ hξ ξ κ
   refine ⟨i + 1, ⟨⟨by omega, ?_⟩, by omega⟩, EnvLe.of_eq (by rw [w64 (by omega)]; rfl), List.nil_sublist _⟩
   intro j h
   rcases Nat.lt_succ_iff_lt_or_eq.1 h with h | rfl
   ·exact hj j h
   ·first | assumption | simpa using c1
 ·simp only [go_sem] at c0
  refine ex ?_
  refine sr_ [4] [] [] fun κ ξ hκ hξ => ?_
  try simp +decide only [go_sem, c0]
  repeat with_reducible refine an_ ?_
  refine hκ _ _ ?_; clear hκ hξ ξ κ
  refine rt ?_
  refine retE ?_
  simp +decide only [go_sem, resD, resV, c0]
  congr 1
  rw [fixI_none (p := p) (d := cl0) fun j h => by simpa [cat] using hj j (by omega)]
theorem cfcl_w (g : Nat) (cs : List D) (p : Cl → Bool) (l : List Cl) (t : Tok) (hp : ∀ i, i < l.length → PCall Tryz.prog (.func g) (.ag (crow (cat l i)) :: cs) (.bool (p (cat l i)))) : PCall Tryz.prog (.func 49) [.sl 5 (l.map crow) t, .fn (.func g) [] cs] (.bool (l.any p)) := by
 refine PCall.le ?_
 refine fn_ Tryz.func49 (by rfl) (by rfl) (rs := [.tmp 4]) (by rfl) (by simp [Tryz.f49]) ?_
 refine sr_ [0, 1] [] [] fun κ ξ hκ hξ => ?_
 try simp +decide only [go_sem]
 repeat with_reducible refine an_ ?_
 refine hκ _ _ ?_; clear hκ hξ ξ κ
 refine sr_ [4] [] [] fun κ ξ hκ hξ => ?_
 try simp +decide only [go_sem]
 repeat with_reducible refine an_ ?_
 refine callF (ifcl_w g cs p l t hp) ?_
 try simp +decide only [go_sem]
 repeat with_reducible refine an_ ?_
 refine hκ _ _ ?_; clear hκ hξ ξ κ
 refine rt ?_
 refine retE ?_
 simp +decide only [go_sem, resD, resV]
 all_goals congr 1
 all_goals exact fix_any p cl0 l
theorem plc_w (x y w h : Int) : PCall Tryz.prog (.func 38) [.int .i64 x, .int .i64 y, .int .i64 w, .int .i64 h] (.bool (plB x y w h)) := by
 refine PCall.le ?_
 refine fn_ Tryz.func38 (by rfl) (by rfl) (rs := [.tmp 8]) (by rfl) (by simp [Tryz.f38]) ?_
 refine sr_ [0, 1, 2, 3] [] [] fun κ ξ hκ hξ => ?_
 try simp +decide only [go_sem]
 repeat with_reducible refine an_ ?_
 refine hκ _ _ ?_; clear hκ hξ ξ κ
 refine sr_ [2, 3, 9] [] [(2, 12)] fun κ ξ hκ hξ => ?_
 try simp +decide only [go_sem]
 repeat with_reducible refine an_ ?_
 refine callF (cwi_w _ _ _) ?_
 try simp +decide only [go_sem]
 repeat with_reducible refine an_ ?_
 refine vo_gc ?_
 try simp +decide only [go_sem]
 refine gcF (cwi_w _ _ _) ?_
 try simp +decide only [go_sem]
 repeat with_reducible refine an_ ?_
 refine hκ _ _ ?_; clear hκ hξ ξ κ
 refine sr_ [8] [] [(1, 17), (5, 21)] fun κ ξ hκ hξ => ?_
 try simp +decide only [go_sem]
 repeat with_reducible refine an_ ?_
 refine vo_gc ?_
 try simp +decide only [go_sem]
 refine gcF (cwi_w _ _ _) ?_
 try simp +decide only [go_sem]
 repeat with_reducible refine an_ ?_
 refine vo_gc ?_
 try simp +decide only [go_sem]
 refine gcF (cwi_w _ _ _) ?_
 try simp +decide only [go_sem]
 repeat with_reducible refine an_ ?_
 refine hκ _ _ ?_; clear hκ hξ ξ κ
 refine rt ?_
 refine retE ?_
 simp +decide only [go_sem, resD, resV]
 all_goals congr 1
 all_goals rw [Bool.eq_iff_iff]
 all_goals simp [plB]
 all_goals omega
theorem rplc_w (x y w h : Int) : PCall Tryz.prog (.func 50) [.int .i64 x, .int .i64 y, .int .i64 w, .int .i64 h] (.bool (plB x y w h)) := by
 refine PCall.le ?_
 refine fn_ Tryz.func50 (by rfl) (by rfl) (rs := [.tmp 8]) (by rfl) (by simp [Tryz.f50]) ?_
 refine sr_ [0, 1, 2, 3] [] [] fun κ ξ hκ hξ => ?_
 try simp +decide only [go_sem]
 repeat with_reducible refine an_ ?_
 refine hκ _ _ ?_; clear hκ hξ ξ κ
 refine sr_ [8] [] [(2, 11), (6, 15), (10, 19)] fun κ ξ hκ hξ => ?_
 try simp +decide only [go_sem]
 repeat with_reducible refine an_ ?_
 refine callF (rin_w _ _ _) ?_
 try simp +decide only [go_sem]
 repeat with_reducible refine an_ ?_
 refine vo_gc ?_
 try simp +decide only [go_sem]
 refine gcF (rin_w _ _ _) ?_
 try simp +decide only [go_sem]
 repeat with_reducible refine an_ ?_
 refine vo_gc ?_
 try simp +decide only [go_sem]
 refine gcF (rin_w _ _ _) ?_
 try simp +decide only [go_sem]
 repeat with_reducible refine an_ ?_
 refine vo_gc ?_
 try simp +decide only [go_sem]
 refine gcF (rin_w _ _ _) ?_
 try simp +decide only [go_sem]
 repeat with_reducible refine an_ ?_
 refine hκ _ _ ?_; clear hκ hξ ξ κ
 refine rt ?_
 refine retE ?_
 simp +decide only [go_sem, resD, resV]
 all_goals congr 1
 all_goals rw [Bool.eq_iff_iff]
 all_goals simp [plB]
 all_goals omega
theorem bx1_w (s : Sn) : PCall Tryz.prog (.func 37) [.ag [.str s.txt, .int .i64 s.x, .int .i64 s.y, .int .i64 s.w, .int .i64 s.h]] (.bool (!snB s)) := by
 refine PCall.le ?_
 refine fn_ Tryz.func37 (by rfl) (by rfl) (rs := [.tmp 2]) (by rfl) (by simp [Tryz.f37]) ?_
 refine sr_ [1] [1] [] fun κ ξ hκ hξ => ?_
 try simp +decide only [go_sem]
 repeat with_reducible refine an_ ?_
 refine hκ _ _ ?_; clear hκ hξ ξ κ
 refine sr_ [2] [] [(10, 13)] fun κ ξ hκ hξ => ?_
 try simp +decide only [go_sem]
 repeat with_reducible refine an_ ?_
 refine callF (plc_w _ _ _ _) ?_
 try simp +decide only [go_sem]
 repeat with_reducible refine an_ ?_
 refine vo_gc ?_
 try simp +decide only [go_sem]
 refine gcF (tv_w _) ?_
 try simp +decide only [go_sem]
 repeat with_reducible refine an_ ?_
 refine hκ _ _ ?_; clear hκ hξ ξ κ
 refine rt ?_
 refine retE ?_
 simp +decide only [go_sem, resD, resV]
 all_goals congr 1
 all_goals unfold snB
 all_goals cases plB s.x s.y s.w s.h <;> simp
theorem bxs_w (l : List Bx) (t : Tok) : PCall Tryz.prog (.func 24) [.sl 7 (l.map bxrow) t] (.bool (bxsB l)) := by
 refine PCall.ok fun hok => ?_
 simp only [okAll, D.ok, okRows, and_true, true_and, lim_eq, inR_i64', inR_i32', inR_u8', inR_u16', inR_u64'] at hok
 obtain ⟨hl, hr⟩ := hok; rw [List.length_map] at hl
 refine PCall.le ?_
 refine fn_ Tryz.func24 (by rfl) (by rfl) (rs := [.tmp 2]) (by rfl) (by simp [Tryz.f24]) ?_
 refine sr_ [0] [] [] fun κ ξ hκ hξ => ?_
 try simp +decide only [go_sem, sE_get, sE_look]
 repeat with_reducible refine an_ ?_
 refine hκ _ _ ?_; clear hκ hξ ξ κ
 refine sr_ [0, 3] [] [] fun κ ξ hκ hξ => ?_
 try simp +decide only [go_sem, sE_get, sE_look]
 repeat with_reducible refine an_ ?_
 intro b7 hb7
 try simp +decide only [go_sem, sE_get, sE_look, hb7]
 repeat with_reducible refine an_ ?_
 refine hκ _ _ ?_; clear hκ hξ ξ κ
 refine sq ?_
 refine sr_ [3, 8, 9, 10] [] [] fun κ ξ hκ hξ => ?_
 try simp +decide only [go_sem, sE_get, sE_look, hb7]
 repeat with_reducible refine an_ ?_
 refine hκ _ _ ?_; clear hκ hξ ξ κ
 refine bl ?_
 refine lp (α := Nat) (fun i => mk [(3, .mp b7), (8, .sl 7 (l.map bxrow) t), (9, .int .i64 l.length), (10, .int .i64 i)]) (fun i => [(b7, .map (sE l i))]) (fun i => i ≤ l.length ∧ (∀ j, j < i → bxB (bxat l j) = true) ∧ (nds l i).Nodup) (fun i => l.length - i) 0 ⟨⟨by omega, (fun j hj => by omega), List.nodup_nil⟩, EnvLe.of_eq rfl, .refl _⟩ ?_
 rintro i ⟨hi, hj, hd⟩
 refine sr_ [3, 8, 9, 10, 11] [] [] fun κ ξ hκ hξ => ?_
 try simp +decide only [go_sem, sE_get, sE_look, hb7]
 repeat with_reducible refine an_ ?_
 refine hκ _ _ ?_; clear hκ hξ ξ κ
 refine sq ?_
 refine cd_ (fun c0 => ?_) (fun c0 => ?_)
 ·simp only [go_sem] at c0
  have hil : i < l.length := by omega
  refine sk ?_
  refine sq ?_
  refine bl ?_
  refine srz_ [(5, [])] [3, 5, 8, 9, 10] [] [] fun κ ξ hκ hξ => ?_
  try simp +decide only [go_sem, sE_get, sE_look, hb7, c0]
  repeat with_reducible refine an_ ?_
  intro b5 hb5
  try simp +decide only [go_sem, sE_get, sE_look, hb7, c0, hb5]
  repeat with_reducible refine an_ ?_
  refine hκ _ _ ?_; clear hκ hξ ξ κ
  refine sr_ [3, 5, 6, 8, 9, 10] [] [] fun κ ξ hκ hξ => ?_
  try simp +decide only [go_sem, sE_get, sE_look, hb7, c0, hb5]
  repeat with_reducible refine an_ ?_
  refine hκ _ _ ?_; clear hκ hξ ξ κ
  refine sq ?_
  refine sr_ [3, 5, 8, 9, 10, 41] [] [(4, 18), (10, 24), (22, 36)] fun κ ξ hκ hξ => ?_
  try simp +decide only [go_sem, sE_get, sE_look, hb7, c0, hb5]
  repeat with_reducible refine an_ ?_
  refine vo_gc ?_
  try simp +decide only [go_sem, sE_get, sE_look, hb7, c0, hb5]
  refine gcF (cwi_w _ _ _) ?_
  try simp +decide only [go_sem, sE_get, sE_look, hb7, c0, hb5]
  repeat with_reducible refine an_ ?_
  refine vo_gc ?_
  try simp +decide only [go_sem, sE_get, sE_look, hb7, c0, hb5]
  refine gcF (plc_w _ _ _ _) ?_
  try simp +decide only [go_sem, sE_get, sE_look, hb7, c0, hb5]
  repeat with_reducible refine an_ ?_
  refine vo_gc ?_
  try simp +decide only [go_sem, sE_get, sE_look, hb7, c0, hb5]
  refine gcF (cfsn_w 37 [] (fun s => !snB s) (bxat l i).lines .no fun k hk => bx1_w _) ?_
  try simp +decide only [go_sem, sE_get, sE_look, hb7, c0, hb5]
  repeat with_reducible refine an_ ?_
  refine hκ _ _ ?_; clear hκ hξ ξ κ
  refine cd_ (fun c1 => ?_) (fun c1 => ?_)
  ·simp only [go_sem] at c1
   rw [any_not] at c1
   refine sr_ [2] [] [] fun κ ξ hκ hξ => ?_
   try simp +decide only [go_sem, sE_get, sE_look, hb7, c0, hb5, c1]
   repeat with_reducible refine an_ ?_
   refine hκ _ _ ?_; clear hκ hξ ξ κ
   refine rt ?_
   refine retE ?_
   simp +decide only [go_sem, resD, resV, sE_get, sE_look, hb7, c0, hb5, c1]
   congr 1
   rcases c1 with ((c | c) | c) | c
   ·rw [bxs_dup hil (by simpa using c)]
   ·rw [bxs_bad hil (by unfold bxB; rw [show decide (1 ≤ (bxat l i).node ∧ (bxat l i).node ≤ 1000000) = false by simpa using c]; rfl)]
   ·rw [bxs_bad hil (by unfold bxB; rw [c, Bool.and_false, Bool.false_and])]
   ·rw [bxs_bad hil (by unfold bxB; rw [show ((bxat l i).lines.all snB) = false by simpa using c, Bool.and_false])]
  ·simp only [go_sem] at c1
   rw [any_not] at c1
   have hnn : decide ((bxat l i).node ∈ nds l i) = false := by simpa using c1.1.1.1
   have hput := sE_put hil hnn
   have hbb : bxB (bxat l i) = true := by
    unfold bxB
    rw [c1.1.2, show decide (1 ≤ (bxat l i).node ∧ (bxat l i).node ≤ 1000000) = true by simpa using c1.1.1.2, show ((bxat l i).lines.all snB) = true by simpa using c1.2]
    rfl
   refine sk ?_
   refine rr_ [3, 8, 9, 10] [] [] fun κ ξ hκ hξ => ?_
   try simp +decide only [go_sem, sE_get, sE_look, hb7, c0, hb5, c1, hput]
   repeat with_reducible refine an_ ?_
   refine hκ _ _ ?_; clear hκ hξ ξ κ
   refine rr_ [3, 8, 9, 10] [] [] fun κ ξ hκ hξ => ?_
   try simp +decide only [go_sem, sE_get, sE_look, hb7, c0, hb5, c1, hput]
   repeat with_reducible refine an_ ?_
   refine hκ _ _ ?_; clear hκ hξ ξ κ
   refine ⟨i + 1, ⟨⟨by omega, ?_, nds_nodup hd (by omega) hnn⟩, by omega⟩, EnvLe.of_eq (by rw [w64 (by omega)]; rfl), .refl _⟩
   intro j h
   rcases Nat.lt_succ_iff_lt_or_eq.1 h with h | rfl
   ·exact hj j h
   ·exact hbb
 ·simp only [go_sem] at c0
  refine ex ?_
  refine sr_ [2] [] [] fun κ ξ hκ hξ => ?_
  try simp +decide only [go_sem, sE_get, sE_look, hb7, c0]
  repeat with_reducible refine an_ ?_
  refine hκ _ _ ?_; clear hκ hξ ξ κ
  refine rt ?_
  refine retE ?_
  simp +decide only [go_sem, resD, resV, sE_get, sE_look, hb7, c0]
  obtain rfl : i = l.length := by omega
  rw [bxs_ok hj hd]
theorem rbxs_w (l : List Bx) (t : Tok) : PCall Tryz.prog (.func 26) [.sl 7 (l.map bxrow) t] (.bool (bxsB l)) := by
 refine PCall.ok fun hok => ?_
 simp only [okAll, D.ok, okRows, and_true, true_and, lim_eq, inR_i64', inR_i32', inR_u8', inR_u16', inR_u64'] at hok
 obtain ⟨hl, hr⟩ := hok; rw [List.length_map] at hl
 refine PCall.le ?_
 refine fn_ Tryz.func26 (by rfl) (by rfl) (rs := [.tmp 2]) (by rfl) (by simp [Tryz.f26]) ?_
 refine sr_ [0] [] [] fun κ ξ hκ hξ => ?_
 try simp +decide only [go_sem]
 repeat with_reducible refine an_ ?_
 refine hκ _ _ ?_; clear hκ hξ ξ κ
 refine sq ?_
 refine sr_ [0, 3] [] [] fun κ ξ hκ hξ => ?_
 try simp +decide only [go_sem]
 repeat with_reducible refine an_ ?_
 refine hκ _ _ ?_; clear hκ hξ ξ κ
 refine bl ?_
 refine lp (α := Nat) (fun i => mk [(0, .sl 7 (l.map bxrow) t), (3, .int .i64 i)]) (fun _ => []) (fun i => i ≤ l.length ∧ (∀ j, j < i → bxB (bxat l j) = true) ∧ (nds l i).Nodup) (fun i => l.length - i) 0 ⟨⟨by omega, (fun j hj => by omega), List.nodup_nil⟩, EnvLe.of_eq rfl, .refl _⟩ ?_
 rintro i ⟨hi, hj, hd⟩
 refine sq ?_
 refine sr_ [0, 3, 14] [] [] fun κ ξ hκ hξ => ?_
 try simp +decide only [go_sem]
 repeat with_reducible refine an_ ?_
 refine hκ _ _ ?_; clear hκ hξ ξ κ
 refine cd_ (fun c0 => ?_) (fun c0 => ?_)
 ·simp only [go_sem] at c0
  have hil : i < l.length := by omega
  have hll := bx_lens hr hil
  refine sk ?_
  refine sq ?_
  refine bl ?_
  refine srz_ [(4, [])] [0, 3, 4] [] [] fun κ ξ hκ hξ => ?_
  try simp +decide only [go_sem, c0]
  repeat with_reducible refine an_ ?_
  intro b4 hb4
  try simp +decide only [go_sem, c0, hb4]
  repeat with_reducible refine an_ ?_
  refine hκ _ _ ?_; clear hκ hξ ξ κ
  refine sr_ [0, 3, 4, 5] [] [] fun κ ξ hκ hξ => ?_
  try simp +decide only [go_sem, c0, hb4]
  repeat with_reducible refine an_ ?_
  refine callF (rplc_w _ _ _ _) ?_
  try simp +decide only [go_sem, c0, hb4]
  repeat with_reducible refine an_ ?_
  refine hκ _ _ ?_; clear hκ hξ ξ κ
  refine sq ?_
  refine sr_ [0, 3, 4, 41] [] [(2, 32), (7, 37)] fun κ ξ hκ hξ => ?_
  try simp +decide only [go_sem, c0, hb4]
  repeat with_reducible refine an_ ?_
  refine hκ _ _ ?_; clear hκ hξ ξ κ
  refine cd_ (fun c1 => ?_) (fun c1 => ?_)
  ·try simp only [go_sem] at c1
   refine sr_ [2] [] [] fun κ ξ hκ hξ => ?_
   try simp +decide only [go_sem, c0, hb4, c1]
   repeat with_reducible refine an_ ?_
   refine hκ _ _ ?_; clear hκ hξ ξ κ
   refine rt ?_
   refine retE ?_
   simp +decide only [go_sem, resD, resV, c0, hb4, c1]
   congr 1
   rw [bxs_bad hil (by
     unfold bxB
     rcases c1 with (c | c) | c
     · rw [c, Bool.and_false, Bool.false_and]
     · rw [decide_eq_false (by omega)]; rfl
     · rw [decide_eq_false (by omega)]; rfl)]
  ·try simp only [go_sem] at c1
   refine sk ?_
   refine sq ?_
   refine sr_ [0, 3, 4, 6] [] [] fun κ ξ hκ hξ => ?_
   try simp +decide only [go_sem, c0, hb4, c1]
   repeat with_reducible refine an_ ?_
   refine hκ _ _ ?_; clear hκ hξ ξ κ
   refine bl ?_
   refine lp (α := Nat) (fun k => mk [(0, .sl 7 (l.map bxrow) t), (3, .int .i64 i), (4, .el (bxrow (bxat l i))), (6, .int .i64 k)]) (fun _ => []) (fun k => k ≤ i ∧ ∀ j, j < k → ¬ (bxat l j).node = (bxat l i).node) (fun k => i - k) 0 ⟨⟨by omega, (fun j hj => by omega)⟩, EnvLe.of_eq rfl, .refl _⟩ ?_
   rintro k ⟨hk, hkj⟩
   refine sq ?_
   refine sr_ [0, 3, 4, 6, 44] [] [] fun κ ξ hκ hξ => ?_
   try simp +decide only [go_sem, c0, hb4, c1]
   repeat with_reducible refine an_ ?_
   refine hκ _ _ ?_; clear hκ hξ ξ κ
   refine cd_ (fun c2 => ?_) (fun c2 => ?_)
   ·simp only [go_sem] at c2
    have hkl : (k : Int) < (l.length : Int) := by omega
    refine sk ?_
    refine sq ?_
    refine bl ?_
    refine srd_ [0, 3, 4, 6, 54] [] [] [] fun κ ξ hκ hξ => ?_
    try simp +decide only [go_sem, c0, hb4, c1, c2, hkl]
    repeat with_reducible refine an_ ?_
    refine hκ _ _ ?_; clear hκ hξ ξ κ
    refine cd_ (fun c3 => ?_) (fun c3 => ?_)
    ·try simp only [go_sem] at c3
     refine sr_ [2] [] [] fun κ ξ hκ hξ => ?_
     try simp +decide only [go_sem, c0, hb4, c1, c2, hkl, c3]
     repeat with_reducible refine an_ ?_
     refine hκ _ _ ?_; clear hκ hξ ξ κ
     refine rt ?_
     refine retE ?_
     simp +decide only [go_sem, resD, resV, c0, hb4, c1, c2, hkl, c3]
     congr 1
     rw [bxs_dup hil (c3 ▸ mem_nds (by omega) hil)]
    ·try simp only [go_sem] at c3
     refine sk ?_
     refine rr_ [0, 3, 4, 6] [] [] fun κ ξ hκ hξ => ?_
     try simp +decide only [go_sem, c0, hb4, c1, c2, hkl, c3]
     repeat with_reducible refine an_ ?_
     refine hκ _ _ ?_; clear hκ hξ ξ κ
     refine ⟨k + 1, ⟨⟨by omega, ?_⟩, by omega⟩, EnvLe.of_eq (by rw [w64 (by omega)]; rfl), .refl _⟩
     intro j h
     rcases Nat.lt_succ_iff_lt_or_eq.1 h with h | rfl
     ·exact hkj j h
     ·exact c3
   ·simp only [go_sem] at c2
    refine ex ?_
    refine sr_ [0, 3, 4, 7] [] [] fun κ ξ hκ hξ => ?_
    try simp +decide only [go_sem, c0, hb4, c1, c2]
    repeat with_reducible refine an_ ?_
    refine hκ _ _ ?_; clear hκ hξ ξ κ
    refine bl ?_
    have hnn : ¬ (bxat l i).node ∈ nds l i := fun h => by
     obtain ⟨m, h1, h2⟩ := nds_mem hil h
     exact hkj m (by omega) h2
    refine lp (α := Nat) (fun m => mk [(0, .sl 7 (l.map bxrow) t), (3, .int .i64 i), (4, .el (bxrow (bxat l i))), (7, .int .i64 m)]) (fun _ => []) (fun m => m ≤ (bxat l i).lines.length ∧ ∀ j, j < m → snB (snat (bxat l i).lines j) = true) (fun m => (bxat l i).lines.length - m) 0 ⟨⟨by omega, (fun j hj => by omega)⟩, EnvLe.of_eq rfl, .refl _⟩ ?_
    rintro m ⟨hm, hmj⟩
    refine sq ?_
    refine sr_ [0, 3, 4, 7, 59] [] [] fun κ ξ hκ hξ => ?_
    try simp +decide only [go_sem, c0, hb4, c1, c2]
    repeat with_reducible refine an_ ?_
    refine hκ _ _ ?_; clear hκ hξ ξ κ
    refine cd_ (fun c4 => ?_) (fun c4 => ?_)
    ·try simp only [go_sem] at c4
     refine sk ?_
     refine sq ?_
     refine bl ?_
     refine srz_ [(8, [])] [0, 3, 4, 7, 8] [] [] fun κ ξ hκ hξ => ?_
     try simp +decide only [go_sem, c0, hb4, c1, c2, c4]
     repeat with_reducible refine an_ ?_
     intro b8 hb8
     try simp +decide only [go_sem, c0, hb4, c1, c2, c4, hb8]
     repeat with_reducible refine an_ ?_
     refine hκ _ _ ?_; clear hκ hξ ξ κ
     refine sr_ [0, 3, 4, 7, 8, 9] [] [] fun κ ξ hκ hξ => ?_
     try simp +decide only [go_sem, c0, hb4, c1, c2, c4, hb8]
     repeat with_reducible refine an_ ?_
     refine callF (rplc_w _ _ _ _) ?_
     try simp +decide only [go_sem, c0, hb4, c1, c2, c4, hb8]
     repeat with_reducible refine an_ ?_
     refine hκ _ _ ?_; clear hκ hξ ξ κ
     refine sr_ [0, 3, 4, 7, 9, 10] [] [] fun κ ξ hκ hξ => ?_
     try simp +decide only [go_sem, c0, hb4, c1, c2, c4, hb8]
     repeat with_reducible refine an_ ?_
     refine callF (rtv_w _) ?_
     try simp +decide only [go_sem, c0, hb4, c1, c2, c4, hb8]
     repeat with_reducible refine an_ ?_
     refine hκ _ _ ?_; clear hκ hξ ξ κ
     refine sr_ [0, 3, 4, 7, 84] [] [(2, 81)] fun κ ξ hκ hξ => ?_
     try simp +decide only [go_sem, c0, hb4, c1, c2, c4, hb8]
     repeat with_reducible refine an_ ?_
     refine hκ _ _ ?_; clear hκ hξ ξ κ
     refine cd_ (fun c5 => ?_) (fun c5 => ?_)
     ·try simp only [go_sem] at c5
      refine sr_ [2] [] [] fun κ ξ hκ hξ => ?_
      try simp +decide only [go_sem, c0, hb4, c1, c2, c4, hb8, c5]
      repeat with_reducible refine an_ ?_
      refine hκ _ _ ?_; clear hκ hξ ξ κ
      refine rt ?_
      refine retE ?_
      simp +decide only [go_sem, resD, resV, c0, hb4, c1, c2, c4, hb8, c5]
      congr 1
      rw [bxs_bad hil (bxB_no (k := m) (by omega) (by unfold snB; rcases c5 with c | c <;> simp [c]))]
     ·try simp only [go_sem] at c5
      refine sk ?_
      refine rr_ [0, 3, 4, 7] [] [] fun κ ξ hκ hξ => ?_
      try simp +decide only [go_sem, c0, hb4, c1, c2, c4, hb8, c5]
      repeat with_reducible refine an_ ?_
      refine hκ _ _ ?_; clear hκ hξ ξ κ
      refine ⟨m + 1, ⟨⟨by omega, ?_⟩, by omega⟩, EnvLe.of_eq (by rw [w64 (by omega)]; rfl), .refl _⟩
      intro j h
      rcases Nat.lt_succ_iff_lt_or_eq.1 h with h | rfl
      ·exact hmj j h
      ·unfold snB; rw [c5.1, c5.2]; rfl
    ·try simp only [go_sem] at c4
     refine ex ?_
     refine rr_ [0, 3] [] [] fun κ ξ hκ hξ => ?_
     try simp +decide only [go_sem, c0, hb4, c1, c2, c4]
     repeat with_reducible refine an_ ?_
     refine hκ _ _ ?_; clear hκ hξ ξ κ
     have hbb : bxB (bxat l i) = true := bxB_all (by omega) (by first | exact c1.1.1 | exact c1.1 | simpa using c1.1.1) fun j h => hmj j (by omega)
     refine ⟨i + 1, ⟨⟨by omega, ?_, nds_nodup hd hil (decide_eq_false hnn)⟩, by omega⟩, EnvLe.of_eq (by rw [w64 (by omega)]; rfl), .refl _⟩
     intro j h
     rcases Nat.lt_succ_iff_lt_or_eq.1 h with h | rfl
     ·exact hj j h
     ·exact hbb
 ·simp only [go_sem] at c0
  refine ex ?_
  refine sr_ [2] [] [] fun κ ξ hκ hξ => ?_
  try simp +decide only [go_sem, c0]
  repeat with_reducible refine an_ ?_
  refine hκ _ _ ?_; clear hκ hξ ξ κ
  refine rt ?_
  refine retE ?_
  simp +decide only [go_sem, resD, resV, c0]
  obtain rfl : i = l.length := by omega
  rw [bxs_ok hj hd]
theorem few_w (l : List Bx) (t : Tok) : PCall Tryz.prog (.func 11) [.sl 7 (l.map bxrow) t] (.bool (fewB l)) := by
 refine PCall.ok fun hok => ?_
 simp only [okAll, D.ok, okRows, and_true, true_and, lim_eq, inR_i64', inR_i32', inR_u8', inR_u16', inR_u64'] at hok
 obtain ⟨hl, hr⟩ := hok; rw [List.length_map] at hl
 refine PCall.le ?_
 refine fn_ Tryz.func11 (by rfl) (by rfl) (rs := [.tmp 2]) (by rfl) (by simp [Tryz.f11]) ?_
 refine sr_ [0] [] [] fun κ ξ hκ hξ => ?_
 try simp +decide only [go_sem]
 repeat with_reducible refine an_ ?_
 refine hκ _ _ ?_; clear hκ hξ ξ κ
 refine sq ?_
 refine sr_ [0, 3] [] [] fun κ ξ hκ hξ => ?_
 try simp +decide only [go_sem]
 repeat with_reducible refine an_ ?_
 refine hκ _ _ ?_; clear hκ hξ ξ κ
 refine bl ?_
 refine lp (α := Nat) (fun i => mk [(0, .sl 7 (l.map bxrow) t), (3, .int .i64 i)]) (fun _ => []) (fun i => i ≤ l.length ∧ (∀ j, j < i → (bxat l j).lines.length ≤ 40)) (fun i => l.length - i) 0 ⟨⟨by omega, (fun j hj => by omega)⟩, EnvLe.of_eq rfl, .refl _⟩ ?_
 rintro i ⟨hi, hj⟩
 refine sq ?_
 refine sr_ [0, 3, 11] [] [(4, 8)] fun κ ξ hκ hξ => ?_
 try simp +decide only [go_sem]
 repeat with_reducible refine an_ ?_
 refine hκ _ _ ?_; clear hκ hξ ξ κ
 refine cd_ (fun c0 => ?_) (fun c0 => ?_)
 ·simp only [go_sem] at c0
  have hil : i < l.length := by omega
  refine sk ?_
  refine sq ?_
  refine bl ?_
  refine sr_ [0, 3, 20] [] [] fun κ ξ hκ hξ => ?_
  try simp +decide only [go_sem, c0]
  repeat with_reducible refine an_ ?_
  refine hκ _ _ ?_; clear hκ hξ ξ κ
  refine cd_ (fun c1 => ?_) (fun c1 => ?_)
  ·try simp only [go_sem] at c1
   refine sr_ [2] [] [] fun κ ξ hκ hξ => ?_
   try simp +decide only [go_sem, c0, c1]
   repeat with_reducible refine an_ ?_
   refine hκ _ _ ?_; clear hκ hξ ξ κ
   refine rt ?_
   refine retE ?_
   simp +decide only [go_sem, resD, resV, c0, c1]
   congr 1
   rw [few_no hil (by omega)]
  ·try simp only [go_sem] at c1
   refine sk ?_
   refine rr_ [0, 3] [] [] fun κ ξ hκ hξ => ?_
   try simp +decide only [go_sem, c0, c1]
   repeat with_reducible refine an_ ?_
   refine hκ _ _ ?_; clear hκ hξ ξ κ
   refine ⟨i + 1, ⟨⟨by omega, ?_⟩, by omega⟩, EnvLe.of_eq (by rw [w64 (by omega)]; rfl), .refl _⟩
   intro j h
   rcases Nat.lt_succ_iff_lt_or_eq.1 h with h | rfl
   ·exact hj j h
   ·omega
 ·simp only [go_sem] at c0
  refine ex ?_
  refine sr_ [2] [] [] fun κ ξ hκ hξ => ?_
  try simp +decide only [go_sem, c0]
  repeat with_reducible refine an_ ?_
  refine hκ _ _ ?_; clear hκ hξ ξ κ
  refine rt ?_
  refine retE ?_
  simp +decide only [go_sem, resD, resV, c0]
  congr 1
  rcases Nat.lt_or_ge i l.length with h | h
  ·have : ¬ l.length ≤ 40 := by omega
   unfold fewB
   simp [this]
   omega
  ·rw [few_yes fun j h2 => hj j (by omega), decide_eq_decide]
   omega
end Go.Proofs.YtfjnohmdilmfhaaGreatDoor
/- Claim: the words of a source. Printed by a tool of our own. -/
namespace Go.Proofs.YtfjnohmdilmfhaaGreatDoor
open Go Go.RowKit
set_option linter.unusedSimpArgs false
set_option linter.unusedVariables false
set_option maxHeartbeats 4000000
set_option maxRecDepth 100000
attribute [local go_sem] List.length_map rowAt_n nrow rowAt_t trow rowAt_i irow
attribute [local go_sem] rowAt_c rowAt_sn rowAt_bx snrow bxrow
attribute [local go_sem] rowAt_s srow
theorem bl_w (w : List UInt8) : PCall Tryz.prog (.func 61) [.str w] (.bool (!nb w)) := by
 refine PCall.le ?_
 refine fn_ Tryz.func61 (by rfl) (by rfl) (rs := [.tmp 2]) (by rfl) (by simp [Tryz.f61]) ?_
 refine sr_ [0] [] [] fun κ ξ hκ hξ => ?_
 try simp +decide only [go_sem]
 repeat with_reducible refine an_ ?_
 refine hκ _ _ ?_; clear hκ hξ ξ κ
 refine sr_ [2] [] [] fun κ ξ hκ hξ => ?_
 try simp +decide only [go_sem]
 repeat with_reducible refine an_ ?_
 refine hκ _ _ ?_; clear hκ hξ ξ κ
 refine rt ?_
 refine retE ?_
 simp +decide only [go_sem, resD, resV]
 all_goals congr 1
 all_goals unfold nb
 all_goals by_cases h : w = [] <;> simp [h]
theorem ifst_w (g : Nat) (cs : List D) (p : (List UInt8) → Bool) (l : List (List UInt8)) (t : Tok) (hp : ∀ i, i < l.length → PCall Tryz.prog (.func g) (.str (wat l i) :: cs) (.bool (p (wat l i)))) : PCall Tryz.prog (.func 86) [.sl 1 (l.map srow) t, .fn (.func g) [] cs] (.int .i64 (fixI p l)) := by
 refine PCall.ok fun hok => ?_
 simp only [okAll, D.ok, okRows, and_true, true_and, lim_eq, inR_i64', inR_i32', inR_u8', inR_u16', inR_u64'] at hok
 obtain ⟨hl, hr⟩ := hok; rw [List.length_map] at hl
 refine PCall.le ?_
 refine fn_ Tryz.func86 (by rfl) (by rfl) (rs := [.tmp 4]) (by rfl) (by simp [Tryz.f86]) ?_
 refine sr_ [0, 1] [] [] fun κ ξ hκ hξ => ?_
 try simp +decide only [go_sem]
 repeat with_reducible refine an_ ?_
 refine hκ _ _ ?_; clear hκ hξ ξ κ
 refine sq ?_
 refine sr_ [0, 1, 7, 8] [] [] fun κ ξ hκ hξ => ?_
 try simp +decide only [go_sem]
 repeat with_reducible refine an_ ?_
 refine hκ _ _ ?_; clear hκ hξ ξ κ
 refine bl ?_
 refine lp (α := Nat) (fun i => mk [(0, .sl 1 (l.map srow) t), (1, .fn (.func g) [] cs), (7, .int .i64 l.length), (8, .int .i64 i)]) (fun _ => []) (fun i => i ≤ l.length ∧ ∀ j, j < i → p (wat l j) = false) (fun i => l.length - i) 0 ⟨⟨by omega, by intro j hj; omega⟩, EnvLe.of_eq rfl, .refl _⟩ ?_
 rintro i ⟨hi, hj⟩
 refine sr_ [0, 1, 7, 8, 9] [] [] fun κ ξ hκ hξ => ?_
 try simp +decide only [go_sem]
 repeat with_reducible refine an_ ?_
 refine hκ _ _ ?_; clear hκ hξ ξ κ
 refine sq ?_
 refine cd_ (fun c0 => ?_) (fun c0 => ?_)
 ·simp only [go_sem] at c0
  have hpi := hp i (by omega)
  refine sk ?_
  refine sq ?_
  refine bl ?_
  refine sr_ [0, 1, 5, 7, 8] [] [] fun κ ξ hκ hξ => ?_
  try simp +decide only [go_sem, c0]
  repeat with_reducible refine an_ ?_
  refine hκ _ _ ?_; clear hκ hξ ξ κ
  refine sr_ [0, 1, 5, 7, 8, 16] [] [] fun κ ξ hκ hξ => ?_
  try simp +decide only [go_sem, c0]
  repeat with_reducible refine an_ ?_
  refine callFc hpi ?_
  try simp +decide only [go_sem, c0]
  repeat with_reducible refine an_ ?_
  refine hκ _ _ ?_; clear hκ hξ ξ κ
  refine cd_ (fun c1 => ?_) (fun c1 => ?_)
  ·try simp only [go_sem] at c1
   refine sr_ [4] [] [] fun κ ξ hκ hξ => ?_
   try simp +decide only [go_sem, c0, c1]
   repeat with_reducible refine an_ ?_
   refine hκ _ _ ?_; clear hκ hξ ξ κ
   refine rt ?_
   refine retE ?_
   simp +decide only [go_sem, resD, resV, c0, c1]
   congr 1
   rw [fixI_some (p := p) (d := ([] : List UInt8)) (i := i) (by omega) (by simpa [wat] using c1) fun j h => by simpa [wat] using hj j h]
  ·try simp only [go_sem] at c1
   refine sk ?_
   refine rr_ [0, 1, 7, 8] [] [] fun κ ξ hκ hξ => ?_
   try simp +decide only [go_sem, c0, c1]
   repeat with_reducible refine an_ ?_
   refine hκ _ _ ?_; clear hκ hξ ξ κ
   refine ⟨i + 1, ⟨⟨by omega, ?_⟩, by omega⟩, EnvLe.of_eq (by rw [w64 (by omega)]; rfl), List.nil_sublist _⟩
   intro j h
   rcases Nat.lt_succ_iff_lt_or_eq.1 h with h | rfl
   ·exact hj j h
   ·first | assumption | simpa using c1
 ·simp only [go_sem] at c0
  refine ex ?_
  refine sr_ [4] [] [] fun κ ξ hκ hξ => ?_
  try simp +decide only [go_sem, c0]
  repeat with_reducible refine an_ ?_
  refine hκ _ _ ?_; clear hκ hξ ξ κ
  refine rt ?_
  refine retE ?_
  simp +decide only [go_sem, resD, resV, c0]
  congr 1
  rw [fixI_none (p := p) (d := ([] : List UInt8)) fun j h => by simpa [wat] using hj j (by omega)]
theorem delf_w (b : Nat) (l : List (List UInt8)) (hl : l.length ≤ 100000000) : RCall Tryz.prog (.func 62) [.arr b 1 l.length l.length, .fn (.func 61) [] []] [(b, .arr 1 (l.map srow) l.length)] (fun (_ : Unit) => (.sl 1 ((l.filter nb).map srow) .no)) (fun (_ : Unit) => []) (fun (_ : Unit) => True) := by
 have hlm : l.length ≤ 9223372036854775807 := by omega
 refine fn_ Tryz.func62 (by rfl) (by rfl) (rs := [.tmp 4]) (by rfl) (by simp [Tryz.f62]) ?_
 refine sr_ [0, 1] [] [] fun κ ξ hκ hξ => ?_
 try simp +decide only [go_sem, hlm]
 repeat with_reducible refine an_ ?_
 refine hκ _ _ ?_; clear hκ hξ ξ κ
 refine sr_ [0, 1, 5] [] [] fun κ ξ hκ hξ => ?_
 try simp +decide only [go_sem, hlm]
 repeat with_reducible refine an_ ?_
 refine callL1 (rows := l.map srow) (by show PCall _ _ [fra _ _ _ (.arr b 1 _ _), _] _; rw [fra_arr ⟨by rw [List.length_map], Nat.le_refl _, by unfold lim; omega⟩]; exact ifst_w 61 [] (fun w => !nb w) l .no fun i hi => bl_w _) rfl ?_
 try simp +decide only [go_sem, hlm]
 repeat with_reducible refine an_ ?_
 refine hκ _ _ ?_; clear hκ hξ ξ κ
 refine sq ?_
 refine sr_ [0, 1, 5, 12] [] [] fun κ ξ hκ hξ => ?_
 try simp +decide only [go_sem, hlm]
 repeat with_reducible refine an_ ?_
 refine hκ _ _ ?_; clear hκ hξ ξ κ
 refine cd_ (fun c0 => ?_) (fun c0 => ?_)
 ·simp only [go_sem] at c0
  have hall : l.filter nb = l := by
   rcases fixI_cases (fun w => !nb w) l ([] : List UInt8) with ⟨i, h1, h2, h3, h4⟩ | ⟨h1, h2⟩
   ·omega
   ·rw [List.filter_eq_self]
    intro x hx
    obtain ⟨k, hk, rfl⟩ := List.getElem_of_mem hx
    have := h1 k hk
    simpa [hk] using this
  refine sr_ [4] [] [] fun κ ξ hκ hξ => ?_
  try simp +decide only [go_sem, hlm, c0]
  repeat with_reducible refine an_ ?_
  refine hκ _ _ ?_; clear hκ hξ ξ κ
  refine fza b [4] [] (sz := 1) (rows := l.map srow) (cap := l.length) (by simp [Store.get]) ?_
  refine weak (mk [(4, .sl 1 ((l.filter nb).map srow) .no)]) (EnvLe.of_l ⟨?_, trivial⟩) (List.nil_sublist _) ?_
  ·show fra b 1 (l.map srow) (.arr b 1 l.length l.length) = _
   rw [fra_arr ⟨by rw [List.length_map], Nat.le_refl _, by unfold lim; omega⟩, hall]
  refine rt ?_
  refine retR (()) ?_ ?_ ?_
  ·first | exact .refl _ | exact List.nil_sublist _ | exact List.sublist_cons_of_sublist _ (.refl _) | exact ((List.Sublist.refl _).cons _).cons _ | (simp [*]; done) | skip
  ·first | trivial | assumption | omega | (simp; done) | (simp [*]; done) | skip
  simp +decide only [go_sem, resD, resV, hlm, c0]
  all_goals rfl
 ·simp only [go_sem] at c0
  obtain ⟨i, hil, hix, hi1, hi2⟩ : ∃ i, i < l.length ∧ fixI (fun w => !nb w) l = (i : Int) ∧ nb (wat l i) = false ∧ ∀ j, j < i → nb (wat l j) = true := by
   rcases fixI_cases (fun w => !nb w) l ([] : List UInt8) with ⟨i, h1, h2, h3, h4⟩ | ⟨h1, h2⟩
   ·exact ⟨i, h1, h4, by simpa [wat] using h2, fun j hj => by simpa [wat] using h3 j hj⟩
   ·omega
  obtain ⟨hd0, hk0⟩ := DfI.init hil hi2 hi1
  have hiw : IntKind.wrap .i64 ((i : Int) + 1) = ((i + 1 : Nat) : Int) := w64 (by omega)
  refine sk ?_
  refine sq ?_
  refine sr_ [0, 1, 5, 6] [] [] fun κ ξ hκ hξ => ?_
  try simp +decide only [go_sem, hlm, c0, hix, hiw]
  repeat with_reducible refine an_ ?_
  refine hκ _ _ ?_; clear hκ hξ ξ κ
  refine bl ?_
  refine lp (α := Nat × List (List UInt8)) (fun z => mk [(0, .arr b 1 l.length l.length), (1, .fn (.func 61) [] []), (5, .int .i64 (kj l z.1 : Nat)), (6, .int .i64 (z.1 : Nat))]) (fun z => [(b, .arr 1 (z.2.map srow) l.length)]) (fun z => (z.1 ≤ l.length ∧ kj l z.1 < z.1) ∧ DfI l z.1 z.2) (fun z => l.length - z.1) (i + 1, l) ⟨⟨⟨by simp only; omega, by simp only; rw [hk0]; omega⟩, hd0⟩, EnvLe.of_eq (by simp only [hk0]), .refl _⟩ ?_
  rintro ⟨j, cur⟩ ⟨⟨hj, hkj2⟩, hd⟩
  simp only at hj hkj2 hd
  refine sq ?_
  refine sr_ [0, 1, 5, 6, 19] [] [] fun κ ξ hκ hξ => ?_
  try simp +decide only [go_sem, hlm, c0, hix, hiw]
  repeat with_reducible refine an_ ?_
  refine hκ _ _ ?_; clear hκ hξ ξ κ
  refine cd_ (fun c1 => ?_) (fun c1 => ?_)
  ·simp only [go_sem] at c1
   have hjl : j < l.length := by omega
   have hcl : cur.length = l.length := hd.len
   have hfh := flat_hd (l := cur) (j := j) (by omega)
   have hfl := flat_ln (l := cur) (j := j) (by omega)
   have hat := hd.at hjl
   have hkj := kj_le l j
   have hkl : kj l j < l.length := by omega
   have hkc : (kj l j : Int) < (l.length : Int) := by omega
   have hjw : IntKind.wrap .i64 ((j : Int) + 1) = ((j + 1 : Nat) : Int) := w64 (by omega)
   have hkw : IntKind.wrap .i64 ((kj l j : Int) + 1) = ((kj l j + 1 : Nat) : Int) := w64 (by omega)
   have hsd := srow_dr cur (kj l j)
   have hss := srow_set cur (kj l j) (wat cur j)
   refine sk ?_
   refine sq ?_
   refine bl ?_
   refine sr_ [0, 1, 5, 6, 7] [] [] fun κ ξ hκ hξ => ?_
   try simp +decide only [go_sem, hlm, c0, hix, hiw, c1, hfh, hfl, hcl, hkl, hkc, hjw, hkw, hsd, hss, Nat.mul_one, Nat.mod_one, Nat.div_one, Nat.zero_add]
   repeat with_reducible refine an_ ?_
   refine hκ _ _ ?_; clear hκ hξ ξ κ
   refine sr_ [0, 1, 5, 6, 7, 29] [] [] fun κ ξ hκ hξ => ?_
   try simp +decide only [go_sem, hlm, c0, hix, hiw, c1, hfh, hfl, hcl, hkl, hkc, hjw, hkw, hsd, hss, Nat.mul_one, Nat.mod_one, Nat.div_one, Nat.zero_add]
   repeat with_reducible refine an_ ?_
   refine callF (bl_w _) ?_
   try simp +decide only [go_sem, hlm, c0, hix, hiw, c1, hfh, hfl, hcl, hkl, hkc, hjw, hkw, hsd, hss, Nat.mul_one, Nat.mod_one, Nat.div_one, Nat.zero_add]
   repeat with_reducible refine an_ ?_
   refine hκ _ _ ?_; clear hκ hξ ξ κ
   refine cd_ (fun c2 => ?_) (fun c2 => ?_)
   ·try simp only [go_sem] at c2
    refine sr_ [0, 1, 5, 6] [] [] fun κ ξ hκ hξ => ?_
    try simp +decide only [go_sem, hlm, c0, hix, hiw, c1, hfh, hfl, hcl, hkl, hkc, hjw, hkw, hsd, hss, Nat.mul_one, Nat.mod_one, Nat.div_one, Nat.zero_add, c2]
    repeat with_reducible refine an_ ?_
    refine hκ _ _ ?_; clear hκ hξ ξ κ
    refine rr_ [0, 1, 5, 6] [] [] fun κ ξ hκ hξ => ?_
    try simp +decide only [go_sem, hlm, c0, hix, hiw, c1, hfh, hfl, hcl, hkl, hkc, hjw, hkw, hsd, hss, Nat.mul_one, Nat.mod_one, Nat.div_one, Nat.zero_add, c2]
    repeat with_reducible refine an_ ?_
    refine hκ _ _ ?_; clear hκ hξ ξ κ
    refine rr_ [0, 1, 5, 6] [] [] fun κ ξ hκ hξ => ?_
    try simp +decide only [go_sem, hlm, c0, hix, hiw, c1, hfh, hfl, hcl, hkl, hkc, hjw, hkw, hsd, hss, Nat.mul_one, Nat.mod_one, Nat.div_one, Nat.zero_add, c2]
    repeat with_reducible refine an_ ?_
    refine hκ _ _ ?_; clear hκ hξ ξ κ
    have hnb : nb (wat l j) = true := by rw [← hat]; simpa using c2
    obtain ⟨hd2, hk2⟩ := hd.keep hjl hnb
    refine ⟨(j + 1, cur.set (kj l j) (wat l j)), ⟨⟨⟨by simp only; omega, by simp only; omega⟩, hd2⟩, by simp only; omega⟩, EnvLe.of_eq (by simp only [hk2]), ?_⟩
    rw [hat]
    exact .refl _
   ·try simp only [go_sem] at c2
    refine sk ?_
    refine rr_ [0, 1, 5, 6] [] [] fun κ ξ hκ hξ => ?_
    try simp +decide only [go_sem, hlm, c0, hix, hiw, c1, hfh, hfl, hcl, hkl, hkc, hjw, hkw, hsd, hss, Nat.mul_one, Nat.mod_one, Nat.div_one, Nat.zero_add, c2]
    repeat with_reducible refine an_ ?_
    refine hκ _ _ ?_; clear hκ hξ ξ κ
    have hnb : nb (wat l j) = false := by rw [← hat]; simpa using c2
    obtain ⟨hd2, hk2⟩ := hd.skip hjl hnb
    refine ⟨(j + 1, cur), ⟨⟨⟨by simp only; omega, by simp only; omega⟩, hd2⟩, by simp only; omega⟩, EnvLe.of_eq (by simp only [hk2]), .refl _⟩
  ·simp only [go_sem] at c1
   refine ex ?_
   refine sq ?_
   obtain rfl : j = l.length := by omega
   obtain ⟨hf1, hf2⟩ := hd.fin
   have hkl : kj l l.length < l.length := by omega
   have hcl2 := hd.len
   refine rgS [0, 5] (by kernel_rfl) fun κ ξ hκ hξ => ?_
   refine vS_q trivial ?_
   refine vS_q trivial ?_
   refine vS_q (by simp +decide only [go_sem, hlm, c0, hix, hiw, c1, Nat.mul_one]; by_cases h0 : kj l l.length = 0; (simp [h0]); (simp [h0]; omega)) ?_
   refine vS_clear (b := b) (o := kj l l.length) (m := l.length - kj l l.length) (cap := l.length) (rows := cur.map srow) (TT := 50) rfl rfl (fun M v hv => ?_) (by simp [Store.get]) Tryz.underlying50 (fun w => Tryz.zeroValue9 w) (by omega) (by omega) ?_
   ·simp +decide only [go_sem, hlm, c0, hix, hiw, c1, Nat.mul_one] at hv
    by_cases h0 : kj l l.length = 0
    ·simp only [h0, Int.natCast_zero, if_true, R] at hv
     rw [h0, hv, Nat.sub_zero]
     exact ⟨_, rfl⟩
    ·simp only [Int.natCast_eq_zero, h0, if_false, R] at hv
     rw [hv]
     exact ⟨_, rfl⟩
   refine vS_nil (hκ _ _ ?_)
   clear hκ hξ ξ κ
   have hu : Store.upd [(b, Box.arr 1 (cur.map srow) l.length)] b (.arr 1 ((cur.map srow).take (kj l l.length)) l.length) = [(b, .arr 1 ((l.filter nb).map srow) l.length)] := by
    rw [← List.map_take, hf1]
    simp [Store.upd]
   rw [hu]
   refine weak (mk [(0, .arr b 1 l.length l.length), (5, .int .i64 (kj l l.length : Nat))]) (EnvLe.of_l ⟨rfl, rfl, trivial⟩) (.refl _) ?_
   refine sr_ [4] [] [] fun κ ξ hκ hξ => ?_
   try simp +decide only [go_sem, hlm, c0, hix, hiw, c1]
   repeat with_reducible refine an_ ?_
   refine hκ _ _ ?_; clear hκ hξ ξ κ
   refine fza b [4] [] (sz := 1) (rows := (l.filter nb).map srow) (cap := l.length) (by simp [Store.get]) ?_
   refine weak (mk [(4, .sl 1 ((l.filter nb).map srow) .no)]) (EnvLe.of_l ⟨?_, trivial⟩) (List.nil_sublist _) ?_
   ·show fra b 1 ((l.filter nb).map srow) (.arr b 1 (kj l l.length) l.length) = _
    rw [fra_arr ⟨by rw [List.length_map, hf2], by omega, by unfold lim; omega⟩]
   refine rt ?_
   refine retR (()) ?_ ?_ ?_
   ·first | exact .refl _ | exact List.nil_sublist _ | exact List.sublist_cons_of_sublist _ (.refl _) | exact ((List.Sublist.refl _).cons _).cons _ | (simp [*]; done) | skip
   ·first | trivial | assumption | omega | (simp; done) | (simp [*]; done) | skip
   simp +decide only [go_sem, resD, resV, hlm, c0, hix, hiw, c1]
   all_goals rfl
theorem wds_w (s : List UInt8) (hs : s.length ≤ 100000) : PCall Tryz.prog (.func 31) [.str s] (.sl 1 ((wds s).map srow) .no) := by
 have hl1 := rep_len 40 [32, 40, 32] s (by decide)
 have hl2 := rep_len 41 [32, 41, 32] (rep 40 [32, 40, 32] s) (by decide)
 simp only [List.length_cons, List.length_nil] at hl1 hl2
 have hl3 : (spl 32 (rep 41 [32, 41, 32] (rep 40 [32, 40, 32] s)) []).length ≤ 100000000 := by rw [spl_len]; have := List.count_le_length (a := 32) (l := rep 41 [32, 41, 32] (rep 40 [32, 40, 32] s)); omega
 refine PCall.le ?_
 refine fn_ Tryz.func31 (by rfl) (by rfl) (rs := [.tmp 2]) (by rfl) (by simp [Tryz.f31]) ?_
 refine sr_ [0] [] [] fun κ ξ hκ hξ => ?_
 try simp +decide only [go_sem]
 repeat with_reducible refine an_ ?_
 refine hκ _ _ ?_; clear hκ hξ ξ κ
 refine sr_ [0] [] [] fun κ ξ hκ hξ => ?_
 try simp +decide only [go_sem]
 repeat with_reducible refine an_ ?_
 refine callF (repl_w s 40 [32, 40, 32] (by omega) (by decide)) ?_
 try simp +decide only [go_sem]
 repeat with_reducible refine an_ ?_
 refine callF (repl_w (rep 40 [32, 40, 32] s) 41 [32, 41, 32] (by omega) (by decide)) ?_
 try simp +decide only [go_sem]
 repeat with_reducible refine an_ ?_
 refine hκ _ _ ?_; clear hκ hξ ξ κ
 refine sr_ [0, 3] [] [] fun κ ξ hκ hξ => ?_
 try simp +decide only [go_sem]
 repeat with_reducible refine an_ ?_
 refine hκ _ _ ?_; clear hκ hξ ξ κ
 refine sr_ [2] [] [] fun κ ξ hκ hξ => ?_
 try simp +decide only [go_sem]
 repeat with_reducible refine an_ ?_
 refine callR (splt_w (rep 41 [32, 41, 32] (rep 40 [32, 40, 32] s)) 32 (by omega)) fun b _ => ?_
 try simp +decide only [go_sem]
 repeat with_reducible refine an_ ?_
 refine callR (delf_w b (spl 32 (rep 41 [32, 41, 32] (rep 40 [32, 40, 32] s)) []) hl3) fun _ _ => ?_
 try simp +decide only [go_sem]
 repeat with_reducible refine an_ ?_
 refine hκ _ _ ?_; clear hκ hξ ξ κ
 refine rt ?_
 refine retE ?_
 simp +decide only [go_sem, resD, resV]
 rfl
end Go.Proofs.YtfjnohmdilmfhaaGreatDoor
/- Claim: next and number. Printed by a tool of our own. -/
namespace Go.Proofs.YtfjnohmdilmfhaaGreatDoor
open Go Go.RowKit
set_option linter.unusedSimpArgs false
set_option linter.unusedVariables false
set_option maxHeartbeats 4000000
set_option maxRecDepth 100000
theorem rwz (x : List D) (l : List (List D)) : rowAt (x :: l) 0 = x := rfl
def wrD : D := .ifc 66 (.ag [])
/-- What a parser's call comes to: a value and what is left, or the parser's own panic. -/
def PQ (b : Nat) (x : Option (D × List W)) : Res → Store → Prop := fun r σ' => ∃ ws' : List W, σ' = [(b, .cells [.sl 1 (ws'.map srow) .no])] ∧ ((∃ d, x = some (d, ws') ∧ r = .ret d) ∨ (x = none ∧ r = .pan wrD))
def nxt : List W → Option (W × List W)
 | [] => none
 | w :: r => some (w, r)
def omp {α : Type} (F : α → D) (y : Option (α × List W)) : Option (D × List W) := y.map fun z => (F z.1, z.2)
theorem callPm {P : Program} {α : Type} (ρ : Store) (F : α → D) {g b : Nat} {xs : List D} {ws : List W} {y : Option (α × List W)} {K X : D → Store → Prop} (h : ACall P (.func g) xs [(b, .cells [.sl 1 (ws.map srow) .no])] (PQ b (omp F y)))
  (hk : ∀ a r, y = some (a, r) → K (F a) (ρ ++ [(b, .cells [.sl 1 (r.map srow) .no])])) (hx : y = none → ∀ ws' : List W, X wrD (ρ ++ [(b, .cells [.sl 1 (ws'.map srow) .no])])) : CallK P (.fn (.func g) [] []) xs K X (ρ ++ [(b, .cells [.sl 1 (ws.map srow) .no])]) := by
 refine callA (h.frameL ρ) ?_ ?_
 ·rintro d σ' ⟨σ1, rfl, ws', rfl, h1⟩
  rcases h1 with ⟨d', h1, h2⟩ | ⟨_, h2⟩
  ·cases h2
   cases y with
   | none => cases h1
   | some z => cases h1; exact hk _ _ rfl
  ·cases h2
 ·rintro d σ' ⟨σ1, rfl, ws', rfl, h1⟩
  rcases h1 with ⟨d', _, h2⟩ | ⟨h1, h2⟩
  ·cases h2
  ·cases h2
   cases y with
   | none => exact hx rfl ws'
   | some z => cases h1
attribute [local go_sem] List.length_map rowAt_n nrow rowAt_t trow rowAt_i irow
attribute [local go_sem] rowAt_c rowAt_sn rowAt_bx snrow bxrow
attribute [local go_sem] rowAt_s srow rwz List.append_eq
theorem nx0 (b : Nat) : ACall Tryz.prog (.func 64) [.ptr b 0] [(b, .cells [.sl 1 (([] : List W).map srow) .no])] (PQ b (omp .str (nxt []))) := by
 refine fn_ Tryz.func64 (by rfl) (by rfl) (rs := [.tmp 2]) (by rfl) (by simp [Tryz.f64]) ?_
 refine sr_ [0] [] [] fun κ ξ hκ hξ => ?_
 try simp +decide only [go_sem]
 repeat with_reducible refine an_ ?_
 refine hκ _ _ ?_; clear hκ hξ ξ κ
 refine sq ?_
 refine sr_ [0, 9] [] [] fun κ ξ hκ hξ => ?_
 try simp +decide only [go_sem]
 repeat with_reducible refine an_ ?_
 refine hκ _ _ ?_; clear hκ hξ ξ κ
 refine cdt (by rfl) ?_
 refine rr_ [] [] [] fun κ ξ hκ hξ => ?_
 try simp +decide only [go_sem, true_and]
 repeat with_reducible refine an_ ?_
 refine hξ _ _ ?_
 exact ⟨_, .refl _, [], rfl, .inr ⟨rfl, rfl⟩⟩
theorem nx1 (b : Nat) (w : W) (r : List W) : ACall Tryz.prog (.func 64) [.ptr b 0] [(b, .cells [.sl 1 ((w :: r).map srow) .no])] (PQ b (omp .str (nxt (w :: r)))) := by
 refine ACall.ok fun hok => ?_
 simp only [okAll, D.ok, okRows, and_true, true_and, lim_eq, inR_i64', inR_i32', inR_u8', inR_u16', inR_u64'] at hok
 refine fn_ Tryz.func64 (by rfl) (by rfl) (rs := [.tmp 2]) (by rfl) (by simp [Tryz.f64]) ?_
 refine sr_ [0] [] [] fun κ ξ hκ hξ => ?_
 try simp +decide only [go_sem, Int.toNat_one, List.take_length]
 repeat with_reducible refine an_ ?_
 refine hκ _ _ ?_; clear hκ hξ ξ κ
 refine sq ?_
 refine sr_ [0, 9] [] [] fun κ ξ hκ hξ => ?_
 try simp +decide only [go_sem, Int.toNat_one, List.take_length]
 repeat with_reducible refine an_ ?_
 refine hκ _ _ ?_; clear hκ hξ ξ κ
 refine cdf (by rfl) ?_
 refine sk ?_
 refine sr_ [0, 3] [] [] fun κ ξ hκ hξ => ?_
 try simp +decide only [go_sem, Int.toNat_one, List.take_length]
 repeat with_reducible refine an_ ?_
 refine hκ _ _ ?_; clear hκ hξ ξ κ
 refine sr_ [3] [] [] fun κ ξ hκ hξ => ?_
 try simp +decide only [go_sem, Int.toNat_one, List.take_length]
 repeat with_reducible refine an_ ?_
 refine hκ _ _ ?_; clear hκ hξ ξ κ
 refine sr_ [2] [] [] fun κ ξ hκ hξ => ?_
 try simp +decide only [go_sem, Int.toNat_one, List.take_length]
 repeat with_reducible refine an_ ?_
 refine hκ _ _ ?_; clear hκ hξ ξ κ
 refine rt ?_
 refine ret_ (σ' := [(b, .cells [.sl 1 (r.map srow) .no])]) ?_ (.refl _) ?_
 ·simp +decide only [go_sem, resD, resV]
 simp +decide only [go_sem, resD, resV]
 exact ⟨r, rfl, .inl ⟨_, rfl, rfl⟩⟩
theorem nx_w (b : Nat) (ws : List W) : ACall Tryz.prog (.func 64) [.ptr b 0] [(b, .cells [.sl 1 (ws.map srow) .no])] (PQ b (omp .str (nxt ws))) := by
 cases ws with
 | nil => exact nx0 b
 | cons w r => exact nx1 b w r
theorem dg_w (r : Int) : PCall Tryz.prog (.func 88) [.int .i32 r] (.bool (decide (r < 48) || decide (57 < r))) := by
 refine PCall.le ?_
 refine fn_ Tryz.func88 (by rfl) (by rfl) (rs := [.tmp 2]) (by rfl) (by simp [Tryz.f88]) ?_
 refine sr_ [0] [] [] fun κ ξ hκ hξ => ?_
 try simp +decide only [go_sem]
 repeat with_reducible refine an_ ?_
 refine hκ _ _ ?_; clear hκ hξ ξ κ
 refine sr_ [2] [] [(2, 5)] fun κ ξ hκ hξ => ?_
 try simp +decide only [go_sem]
 repeat with_reducible refine an_ ?_
 refine hκ _ _ ?_; clear hκ hξ ξ κ
 refine rt ?_
 refine retE ?_
 simp +decide only [go_sem, resD, resV]
 
theorem ixd_w (w : W) (hw : w.length ≤ 1000000) : PCall Tryz.prog (.func 113) [.str w, .fn (.func 88) [] [], .bool true] (.int .i64 (fixI (fun c => !dgB c) w)) := by
 refine PCall.le ?_
 refine fn_ Tryz.func113 (by rfl) (by rfl) (rs := [.tmp 6]) (by rfl) (by simp [Tryz.f113]) ?_
 refine sr_ [0, 1, 2] [] [] fun κ ξ hκ hξ => ?_
 try simp +decide only [go_sem]
 repeat with_reducible refine an_ ?_
 refine hκ _ _ ?_; clear hκ hξ ξ κ
 refine sq ?_
 refine sr_ [1, 2, 10] [] [] fun κ ξ hκ hξ => ?_
 try simp +decide only [go_sem]
 repeat with_reducible refine an_ ?_
 intro b10 hb10
 try simp +decide only [go_sem, hb10]
 repeat with_reducible refine an_ ?_
 refine hκ _ _ ?_; clear hκ hξ ξ κ
 refine bl ?_
 refine lp (α := Nat) (fun p => mk [(1, .fn (.func 88) [] []), (2, .bool true), (10, .ptr b10 0)]) (fun p => [(b10, .siter w p)]) (fun p => p ≤ w.length ∧ ∀ j, j < p → dgB (w.getD j 0) = true) (fun p => w.length - p) 0 ⟨⟨by omega, by intro j hj; omega⟩, EnvLe.of_eq rfl, .refl _⟩ ?_
 rintro p ⟨hi, hj⟩
 refine sr_ [1, 2, 10, 11, 12] [] [] fun κ ξ hκ hξ => ?_
 try simp +decide only [go_sem, hb10]
 repeat with_reducible refine an_ ?_
 refine ⟨?_, ?_⟩ <;> intro hp11
 have hdec : sat w p < 128 → Utf8.decode ⟨w.toArray⟩ p = ((w.getD p 0).toNat, 1) := dec_ascii hp11
 have hhigh : 128 ≤ sat w p → 128 ≤ (Utf8.decode ⟨w.toArray⟩ p).1 := dec_high hp11
 have hsr := sat_range w p
 have hrn : ((Utf8.decode ⟨w.toArray⟩ p).1 : Int) ≤ 2147483647 := by have := decode_le ⟨w.toArray⟩ p; omega
 ·refine hκ _ _ ?_; clear hκ hξ ξ κ
  refine sq ?_
  refine cdt (by rfl) ?_
  refine sk ?_
  refine bl ?_
  refine sr_ [1, 2, 7, 8, 10] [] [] fun κ ξ hκ hξ => ?_
  try simp +decide only [go_sem, hb10, hp11]
  repeat with_reducible refine an_ ?_
  refine hκ _ _ ?_; clear hκ hξ ξ κ
  refine sr_ [1, 2, 7, 10, 19] [] [] fun κ ξ hκ hξ => ?_
  try simp +decide only [go_sem, hb10, hp11]
  repeat with_reducible refine an_ ?_
  refine callF (dg_w _) ?_
  try simp +decide only [go_sem, hb10, hp11]
  repeat with_reducible refine an_ ?_
  refine hκ _ _ ?_; clear hκ hξ ξ κ
  refine cd_ (fun c0 => ?_) (fun c0 => ?_)
  ·skip
   refine sr_ [6] [] [] fun κ ξ hκ hξ => ?_
   try simp +decide only [go_sem, hb10, hp11, c0]
   repeat with_reducible refine an_ ?_
   refine hκ _ _ ?_; clear hκ hξ ξ κ
   refine rt ?_
   refine retE ?_
   simp +decide only [go_sem, resD, resV, hb10, hp11, c0]
   congr 1
   symm
   refine (fixI_some (p := fun c => !dgB c) (d := 0) (i := p) (by omega) ?_ fun j h => by simpa using hj j h)
   rw [Bool.not_eq_true', ← Bool.not_eq_true]
   intro hdg
   unfold dgB at hdg
   have hd2 := of_decide_eq_true hdg
   have hsa : sat w p = ((w.getD p 0).toNat : Int) := rfl
   rw [hdec (by omega)] at c0
   simp at c0 hd2
   omega
  ·skip
   refine sk ?_
   have ha : sat w p < 128 := by
    rcases Int.lt_or_le (sat w p) 128 with h | h
    ·exact h
    ·have := hhigh h
     simp at c0
     omega
   rw [hdec ha] at c0 ⊢
   have hdg : dgB (w.getD p 0) = true := by
    unfold dgB
    rw [decide_eq_true_eq]
    simp at c0
    simp
    omega
   refine ⟨p + 1, ⟨⟨by omega, ?_⟩, by omega⟩, EnvLe.of_l ⟨rfl, rfl, rfl, trivial⟩, .refl _⟩
   intro j h
   rcases Nat.lt_succ_iff_lt_or_eq.1 h with h | rfl
   ·exact hj j h
   ·exact hdg
 ·refine hκ _ _ ?_; clear hκ hξ ξ κ
  refine sq ?_
  refine cdf (by rfl) ?_
  refine ex ?_
  refine sr_ [6] [] [] fun κ ξ hκ hξ => ?_
  try simp +decide only [go_sem, hb10, hp11]
  repeat with_reducible refine an_ ?_
  refine hκ _ _ ?_; clear hκ hξ ξ κ
  refine rt ?_
  refine retE ?_
  simp +decide only [go_sem, resD, resV, hb10, hp11]
  congr 1
  symm
  exact fixI_none (p := fun c => !dgB c) (d := 0) fun j h => by simpa using hj j (by omega)
theorem ixd2_w (w : W) (hw : w.length ≤ 1000000) : PCall Tryz.prog (.func 102) [.str w, .fn (.func 88) [] []] (.int .i64 (fixI (fun c => !dgB c) w)) := by
 refine PCall.le ?_
 refine fn_ Tryz.func102 (by rfl) (by rfl) (rs := [.tmp 4]) (by rfl) (by simp [Tryz.f102]) ?_
 refine sr_ [0, 1] [] [] fun κ ξ hκ hξ => ?_
 try simp +decide only [go_sem]
 repeat with_reducible refine an_ ?_
 refine hκ _ _ ?_; clear hκ hξ ξ κ
 refine sr_ [4] [] [] fun κ ξ hκ hξ => ?_
 try simp +decide only [go_sem]
 repeat with_reducible refine an_ ?_
 refine callF (ixd_w w hw) ?_
 try simp +decide only [go_sem]
 repeat with_reducible refine an_ ?_
 refine hκ _ _ ?_; clear hκ hξ ξ κ
 refine rt ?_
 refine retE ?_
 simp +decide only [go_sem, resD, resV]
 
theorem cfd_w (w : W) (hw : w.length ≤ 1000000) : PCall Tryz.prog (.func 89) [.str w, .fn (.func 88) [] []] (.bool (!w.all dgB)) := by
 refine PCall.le ?_
 refine fn_ Tryz.func89 (by rfl) (by rfl) (rs := [.tmp 4]) (by rfl) (by simp [Tryz.f89]) ?_
 refine sr_ [0, 1] [] [] fun κ ξ hκ hξ => ?_
 try simp +decide only [go_sem]
 repeat with_reducible refine an_ ?_
 refine hκ _ _ ?_; clear hκ hξ ξ κ
 refine sr_ [4] [] [] fun κ ξ hκ hξ => ?_
 try simp +decide only [go_sem]
 repeat with_reducible refine an_ ?_
 refine callF (ixd2_w w hw) ?_
 try simp +decide only [go_sem]
 repeat with_reducible refine an_ ?_
 refine hκ _ _ ?_; clear hκ hξ ξ κ
 refine rt ?_
 refine retE ?_
 simp +decide only [go_sem, resD, resV]
 all_goals congr 1
 all_goals rw [fix_any _ (0 : UInt8)]
 all_goals exact any_not dgB w
theorem nu_w (b : Nat) (ws : List W) (hnb : (∀ w ∈ ws, w ≠ [] ∧ w.length ≤ 1000000)) : ACall Tryz.prog (.func 65) [.ptr b 0] [(b, .cells [.sl 1 (ws.map srow) .no])] (PQ b (omp (.int .i64) (numL ws))) := by
 refine fn_ Tryz.func65 (by rfl) (by rfl) (rs := [.tmp 2]) (by rfl) (by simp [Tryz.f65]) ?_
 refine sr_ [0] [] [] fun κ ξ hκ hξ => ?_
 try simp +decide only [go_sem]
 repeat with_reducible refine an_ ?_
 refine hκ _ _ ?_; clear hκ hξ ξ κ
 refine sr_ [3] [] [] fun κ ξ hκ hξ => ?_
 try simp +decide only [go_sem]
 repeat with_reducible refine an_ ?_
 refine callPm [] .str (nx_w b ws) ?_ (fun hn ws' => hξ _ _ ⟨_, List.sublist_append_right _ _, ws', rfl, .inr ⟨(by cases ws; rfl; cases hn), rfl⟩⟩)
 rintro w r hw
 obtain rfl : ws = w :: r := by
  cases ws with
  | nil => cases hw
  | cons x y => cases hw; rfl
 have hwn := hnb w (by simp)
 have hwl : 0 < w.length := List.length_pos_iff.2 hwn.1
 have hwl2 : (0 : Int) < (w.length : Int) := by omega
 try simp +decide only [go_sem]
 repeat with_reducible refine an_ ?_
 refine hκ _ _ ?_; clear hκ hξ ξ κ
 refine sr_ [3, 4] [] [] fun κ ξ hκ hξ => ?_
 try simp +decide only [go_sem]
 repeat with_reducible refine an_ ?_
 refine hκ _ _ ?_; clear hκ hξ ξ κ
 refine sq ?_
 refine sr_ [3, 26] [] [(3, 12), (8, 17), (12, 21)] fun κ ξ hκ hξ => ?_
 try simp +decide only [go_sem]
 repeat with_reducible refine an_ ?_
 refine vo_gc ?_
 try simp +decide only [go_sem, true_and]
 refine gcF (cfd_w w hwn.2) ?_
 try simp +decide only [go_sem]
 repeat with_reducible refine an_ ?_
 refine hκ _ _ ?_; clear hκ hξ ξ κ
 refine cd_ (fun c0 => ?_) (fun c0 => ?_)
 ·simp only [go_sem] at c0
  have hnum : numB w = false := by
   unfold numB
   rcases c0 with (c | c) | c
   ·rw [decide_eq_false (by omega)]; rfl
   ·rw [show w.all dgB = false by simpa using c, Bool.and_false, Bool.false_and]
   ·rw [show w.getD 0 0 = 48 from (u8_eq (n := 48) (by decide)).1 c.1, decide_eq_true (show 1 < w.length by omega)]; simp
  refine rr_ [] [] [] fun κ ξ hκ hξ => ?_
  try simp +decide only [go_sem, c0]
  repeat with_reducible refine an_ ?_
  refine hξ _ _ ?_
  exact ⟨_, .refl _, r, rfl, .inr ⟨by simp [numL, hnum, omp], rfl⟩⟩
 ·simp only [go_sem] at c0
  have hall : w.all dgB = true := by simpa using c0.1.2
  have hnum : numB w = true := by
   unfold numB
   rw [decide_eq_true (by omega), hall]
   simp only [Bool.true_and, Bool.not_eq_true', Bool.and_eq_false_iff, decide_eq_false_iff_not]
   rcases c0.2 with c | c
   ·exact .inl fun h => c ((u8_eq (n := 48) (by decide)).2 h)
   ·exact .inr (by omega)
  refine sk ?_
  refine sr_ [5] [] [] fun κ ξ hκ hξ => ?_
  try simp +decide only [go_sem, c0]
  repeat with_reducible refine an_ ?_
  refine callF (atoi_w w (numV w) (by omega) (atoi_num hnum) (by rw [inR_i64]; have := numV_lt hall (by omega); omega)) ?_
  try simp +decide only [go_sem, c0]
  repeat with_reducible refine an_ ?_
  refine hκ _ _ ?_; clear hκ hξ ξ κ
  refine sr_ [2] [] [] fun κ ξ hκ hξ => ?_
  try simp +decide only [go_sem, c0]
  repeat with_reducible refine an_ ?_
  refine hκ _ _ ?_; clear hκ hξ ξ κ
  refine rt ?_
  refine ret_ (σ' := [(b, .cells [.sl 1 (r.map srow) .no])]) ?_ (.refl _) ?_
  ·simp +decide only [go_sem, resD, resV]
  simp +decide only [go_sem, resD, resV]
  exact ⟨r, rfl, .inl ⟨_, (by simp [numL, hnum, omp]), rfl⟩⟩
end Go.Proofs.YtfjnohmdilmfhaaGreatDoor
/- Regions where two orders matter, a load and a store among them: what is bound is asked for along each way alone. -/
namespace Go.Proofs.YtfjnohmdilmfhaaGreatDoor
open Go Go.RowKit
set_option linter.unusedSimpArgs false
set_option linter.unusedVariables false
section
variable {P : Program} {M : Mem} {w : World} {σ : Store} {r : Option Nat} {nt : Nat} {ops : Array Oper} {imm : List Nat} {soft : List Nat} {gt : List (Nat × Nat)}
/-- The one is bound behind the other, by some edges. -/
def rbd (ops : Array Oper) : Nat → Nat → Nat → Bool
 | 0, _, _ => false
 | n + 1, i, j => match ops[j]? with
  | some oj => oj.after.any (fun e => Region.binds .any e && e.on == i) || oj.after.any (fun e => Region.binds .any e && rbd ops n i e.on)
  | none => false
/-- What is listed: what it is bound behind is listed too. -/
def clsd (ops : Array Oper) (listed : Array Bool) : Prop := ∀ (j : Nat) (oj : Oper), ops[j]? = some oj → listed.getD j false = true → ∀ e ∈ oj.after, Region.binds .any e = true → listed.getD e.on false = true
theorem rbd_at {listed : Array Bool} (hcl : clsd ops listed) : ∀ (n : Nat) {i j : Nat} {oj : Oper}, rbd ops n i j = true → ops[j]? = some oj → (∀ e ∈ oj.after, Region.binds .any e = true → listed.getD e.on false = true) → listed.getD i false = true
 | 0, _, _, _, h, _, _ => by cases h
 | n + 1, i, j, oj, h, hj, ha => by
  unfold rbd at h
  simp only [hj, Bool.or_eq_true, Array.any_eq_true] at h
  rcases h with ⟨k, hk, he⟩ | ⟨k, hk, he⟩
  ·rw [Bool.and_eq_true, beq_iff_eq] at he
   rw [← he.2]; exact ha _ (Array.getElem_mem hk) he.1
  ·rw [Bool.and_eq_true] at he
   have h1 := ha _ (Array.getElem_mem hk) he.1
   cases hm : ops[(oj.after[k]).on]? with
   | none =>
    have h2 := he.2
    cases n with
    | zero => cases h2
    | succ n => unfold rbd at h2; simp only [hm] at h2; cases h2
   | some om => exact rbd_at hcl n he.2 hm (hcl _ om hm h1)
/-- The one may be put behind the other. -/
def cfl (soft : List Nat) (ops : Array Oper) (i j : Nat) : Bool := match ops[i]?, ops[j]? with
 | some oi, some oj => !isW soft oj || !rdSt oi.op || rbd ops 4 i j
 | _, _ => true
theorem cfl_at {i j : Nat} {oi oj : Oper} {listed : Array Bool} (h : cfl soft ops i j = true) (hi : ops[i]? = some oi) (hj : ops[j]? = some oj) (hcl : clsd ops listed) (ha : ∀ e ∈ oj.after, Region.binds .any e = true → listed.getD e.on false = true) (hn : ¬ listed.getD i false = true) : isW soft oj = false ∨ rdSt oi.op = false := by
 unfold cfl at h
 simp only [hi, hj, Bool.or_eq_true, Bool.not_eq_true'] at h
 rcases h with (h | h) | h
 ·exact .inl h
 ·exact .inr h
 ·exact absurd (rbd_at hcl _ h hj ha) hn
theorem cls_set {listed : Array Bool} (hcl : clsd ops listed) {j : Nat} (hj : j ∈ Region.ready .any ops listed) : clsd ops (listed.setIfInBounds j true) := by
 have mono : ∀ k : Nat, listed.getD k false = true → (listed.setIfInBounds j true).getD k false = true := fun k h => by
  simp only [Array.getD_eq_getD_getElem?, Array.getElem?_setIfInBounds] at h ⊢
  split
  ·rename_i e; subst e
   split
   ·rfl
   ·rename_i h2; rw [Array.getElem?_eq_none (by omega)] at h; cases h
  ·exact h
 intro k ok hk hl e he hb
 obtain ⟨_, oj, hoj, hall⟩ := mem_ready.1 hj
 by_cases hkj : k = j
 ·subst hkj
  rw [hoj] at hk; cases hk
  exact mono _ (hall e he hb)
 ·refine mono _ (hcl k ok hk ?_ e he hb)
  simp only [Array.getD_eq_getD_getElem?, Array.getElem?_setIfInBounds] at hl ⊢
  rwa [if_neg (fun h => hkj h.symm)] at hl
theorem cls_init : clsd ops (Array.replicate ops.size false) := fun j oj hj hl => by
 simp only [Array.getD_eq_getD_getElem?, Array.getElem?_replicate] at hl
 split at hl <;> cases hl
def pw (r : Nat → Nat → Bool) : List Nat → Bool
 | [] => true
 | a :: l => l.all (r a) && pw r l
theorem pw_mono {r : Nat → Nat → Bool} : ∀ {l m : List Nat}, l.Sublist m → pw r m = true → pw r l = true
 | _, _, .slnil, _ => rfl
 | _, _, .cons a h, hm => by
  simp only [pw, Bool.and_eq_true] at hm
  exact pw_mono h hm.2
 | _, _, .cons_cons a h, hm => by
  simp only [pw, Bool.and_eq_true, List.all_eq_true] at hm ⊢
  exact ⟨fun x hx => hm.1 x (h.subset hx), pw_mono h hm.2⟩
theorem pw_pair {r : Nat → Nat → Bool} {j : Nat} {rest : List Nat} : ∀ {ps : List Nat} {p : Nat}, pw r (ps ++ j :: rest) = true → p ∈ ps → r p j = true
 | [], _, _, h => by cases h
 | a :: ps, p, h, hp => by
  simp only [List.cons_append, pw, Bool.and_eq_true, List.all_eq_true] at h
  rcases List.mem_cons.1 hp with rfl | hp
  ·exact h.1 j (by simp)
  ·exact pw_pair h.2 hp
def TS (soft : List Nat) (ops : Array Oper) : Tr → List Nat → Bool
 | .fin, c => pw (cfl soft ops) c
 | .br i pi ti k pk tk, c => (c.all (fun p => cfl soft ops p i) && TS soft ops ti (c ++ pi)) && (c.all (fun p => cfl soft ops p k) && TS soft ops tk (c ++ pk))
theorem TS_pw : ∀ {T : Tr} {c : List Nat}, TS soft ops T c = true → pw (cfl soft ops) c = true
 | .fin, _, h => h
 | .br i pi ti k pk tk, c, h => by
  simp only [TS, Bool.and_eq_true] at h
  exact pw_mono (List.sublist_append_left _ _) (TS_pw h.1.2)
theorem TS_mono : ∀ {T : Tr} {c d : List Nat}, c.Sublist d → TS soft ops T d = true → TS soft ops T c = true
 | .fin, _, _, hs, h => pw_mono hs h
 | .br i pi ti k pk tk, c, d, hs, h => by
  simp only [TS, Bool.and_eq_true, List.all_eq_true] at h ⊢
  exact ⟨⟨fun x hx => h.1.1 x (hs.subset hx), TS_mono (List.Sublist.append_right hs _) h.1.2⟩, fun x hx => h.2.1 x (hs.subset hx), TS_mono (List.Sublist.append_right hs _) h.2.2⟩
theorem chkF_pull2 {F G : Array Bool → Bool} {j : Nat} {ps0 : List Nat} (hcf : ∀ p ∈ ps0, cfl soft ops p j = true) (hFG : ∀ l, F l = true → G (l.setIfInBounds j true) = true) : ∀ {ps : List Nat} {listed : Array Bool}, clsd ops listed → (∀ p ∈ ps, p ∈ ps0) → chkF soft ops F ps listed = true → j ∈ Region.ready .any ops listed → j ∉ ps →
  (∀ p ∈ ps, ∃ op oj, ops[p]? = some op ∧ ops[j]? = some oj ∧ (quiet op.op || softC soft op) = true ∧ op.apart ops oj = true ∧ (isW soft oj = false ∨ rdSt op.op = false)) ∧ chkF soft ops G ps (listed.setIfInBounds j true) = true
 | [], listed, _, _, h, _, _ => ⟨by simp, hFG _ h⟩
 | p :: ps, listed, hcl, hsub, h, hj, hn => by
  simp only [List.mem_cons, not_or] at hn
  simp only [chkF, Bool.and_eq_true] at h
  obtain ⟨⟨h1, h2⟩, h3⟩ := h
  obtain ⟨hju, oj, hoj, hall⟩ := mem_ready.1 hj
  split at h2
  ·rename_i op hop
   have hpr : p ∈ Region.ready .any ops listed := by simpa using h1
   have hpu := (mem_ready.1 hpr).1
   have hqf : (quiet op.op || softC soft op) = true ∧ Region.free .any ops listed p = true := by
    rcases Bool.or_eq_true _ _ ▸ h2 with h2 | h2
    ·rwa [Bool.and_eq_true] at h2
    ·rw [beq_iff_eq] at h2
     rw [h2] at hj
     simp at hj
     exact absurd hj hn.1
   have hno : ∀ e ∈ oj.after, Region.binds .any e = true → e.on ≠ p := fun e he hb heq => by
    have := hall e he hb
    rw [heq] at this
    rcases Nat.lt_or_ge p listed.size with h' | h'
    ·simp [h'] at this hpu; rw [hpu] at this; cases this
    ·simp [Array.getElem?_eq_none h'] at this
   have hap : op.apart ops oj = true := Region.free_spec hop hqf.2 j oj hoj hn.1 hju hno
   have hnp : ¬ listed.getD p false = true := fun h => by
    rcases Nat.lt_or_ge p listed.size with h' | h'
    ·simp [h'] at h hpu; rw [hpu] at h; cases h
    ·simp [Array.getElem?_eq_none h'] at h
   have hso := cfl_at (hcf p (hsub p (by simp))) hop hoj hcl hall hnp
   obtain ⟨i1, i2⟩ := chkF_pull2 hcf hFG (cls_set hcl hpr) (fun x hx => hsub x (List.mem_cons_of_mem _ hx)) h3 (ready_mono hj hn.1) hn.2
   refine ⟨fun x hx => ?_, ?_⟩
   ·rcases List.mem_cons.1 hx with rfl | hx
    ·exact ⟨op, oj, hop, hoj, hqf.1, hap, hso⟩
    ·exact i1 x hx
   ·simp only [chkF, Bool.and_eq_true]
    refine ⟨⟨by simpa using ready_mono hpr (fun e => hn.1 e.symm), ?_⟩, ?_⟩
    ·simp only [hop, hqf.1, free_mono hqf.2, Bool.true_and, Bool.true_or]
    ·rw [Array.setIfInBounds_comm _ _ hn.1]; exact i2
  ·cases h2
theorem any_tree2 (hgt : GT ops gt) {Q : AE → Env → Store → Prop} (keep : List Nat) {M0 : Mem} {w0 : World} {σ0 : Store} {a0 : Act} {B : Nat × List Deferred} (hok : ops.toList.all (okOp nt) = true) : ∀ (n : Nat) (T : Tr) (c : List (Nat × Option Store)) (listed : Array Bool), clsd ops listed → c.length + T.size = n → chkF soft ops (chkTr soft ops T) (c.map Prod.fst) listed = true → TS soft ops T (c.map Prod.fst) = true →
  ∀ (env : Env) (σ : Store) (M : Mem) (w : World) (a : Act),
  SE P imm soft gt ops (SET P imm soft gt ops (fun env σ => Q .normal (prune keep env) σ) (fun d σ => Q (.pan d) (fun _ => .top) σ) T) (fun d σ => Q (.pan d) (fun _ => .top) σ) c env σ →
  Conc M w σ → EnvR M nt env a → DefOK B σ0 w0 a0.defers → a.defers = a0.defers → Step M0 w0 σ0 M w σ → wpAnyIn (WF r) 0 P .any ops (rgPost M0 w0 σ0 nt B Q) n listed a w
 | 0, T, c, listed, hcl, hl, hck, hts, env, σ, M, w, a, h, hc, he, hd, hda, hs => by
  have hnil : c = [] := List.eq_nil_of_length_eq_zero (by omega)
  subst hnil
  cases T with
  | br => simp only [Tr.size] at hl; omega
  | fin =>
   simp only [List.map_nil, chkF, chkTr, List.isEmpty_iff] at hck
   exact ⟨hck, M, _, σ, .normal, hs, hc, he.prune keep, hda ▸ hd.step hs, trivial, h⟩
 | n + 1, T, c, listed, hcl, hl, hck, hts, env, σ, M, w, a, h, hc, he, hd, hda, hs => by
  refine ⟨fun h0 => ?_, fun j hj => ?_⟩
  ·cases c with
   | nil =>
    cases T with
    | fin => simp [Tr.size] at hl
    | br i pi ti k pk tk =>
     simp only [List.map_nil, chkF, chkTr, h0, Bool.and_eq_true] at hck
     simp at hck
   | cons i c =>
    simp only [List.map_cons, chkF, Bool.and_eq_true, h0] at hck
    simp at hck
  ·obtain ⟨cs1, qj, c3, T', p1, hck0, hse, hlen0, hts0⟩ : ∃ (cs1 : List (Nat × Option Store)) (qj : Option Store) (c3 : List (Nat × Option Store)) (T' : Tr),
     (∀ p ∈ cs1.map Prod.fst, ∃ op oj, ops[p]? = some op ∧ ops[j]? = some oj ∧ (quiet op.op || softC soft op) = true ∧ op.apart ops oj = true ∧ (isW soft oj = false ∨ rdSt op.op = false)) ∧
     chkF soft ops (chkTr soft ops T') (cs1.map Prod.fst ++ c3.map Prod.fst) (listed.setIfInBounds j true) = true ∧
     SE P imm soft gt ops (SET P imm soft gt ops (fun env σ => Q .normal (prune keep env) σ) (fun d σ => Q (.pan d) (fun _ => .top) σ) T') (fun d σ => Q (.pan d) (fun _ => .top) σ) (cs1 ++ (j, qj) :: c3) env σ ∧
     cs1.length + c3.length + T'.size = n ∧ TS soft ops T' (cs1.map Prod.fst ++ c3.map Prod.fst) = true := by
    by_cases hm : j ∈ c.map Prod.fst
    ·obtain ⟨ps, rest, hsplit, hnot⟩ := List.eq_append_cons_of_mem hm
     obtain ⟨cs1, c2, rfl, hc1, hc2⟩ := List.map_eq_append_iff.1 hsplit
     cases c2 with
     | nil => simp at hc2
     | cons jq c3 =>
      obtain ⟨j', qj⟩ := jq
      simp only [List.map_cons, List.cons.injEq] at hc2
      obtain ⟨rfl, hc3⟩ := hc2
      rw [hsplit] at hts
      rw [hsplit, chkF_append] at hck
      obtain ⟨p1, p2⟩ := chkF_pull2 (G := fun l => chkF soft ops (chkTr soft ops T) rest l) (fun p hp => pw_pair (TS_pw hts) hp) (fun l hl => by simp only [chkF, Bool.and_eq_true] at hl; exact hl.2) hcl (fun _ h => h) hck hj hnot
      rw [← chkF_append] at p2
      refine ⟨cs1, qj, c3, T, hc1 ▸ p1, ?_, h, ?_, ?_⟩
      ·rw [hc1, hc3]; exact p2
      ·simp only [List.length_append, List.length_cons] at hl; omega
      ·rw [hc1, hc3]; exact TS_mono (List.Sublist.append_left (List.sublist_cons_self _ _) _) hts
    ·obtain ⟨l, hFl, hjl⟩ := ready_in_chkF hck hj hm
     cases T with
     | fin =>
      simp only [chkTr, List.isEmpty_iff] at hFl
      rw [hFl] at hjl; simp at hjl
     | br i pi ti k pk tk =>
      have hFl' := hFl
      simp only [chkTr, Bool.and_eq_true, beq_iff_eq] at hFl'
      obtain ⟨⟨⟨e1, e2⟩, -⟩, -⟩ := hFl'
      rw [e1] at hjl
      simp only [TS, Bool.and_eq_true, List.all_eq_true] at hts
      simp only [Tr.size] at hl
      have hnl : ∀ x : List Nat, (non x).map Prod.fst = x := fun x => by simp [non, Function.comp_def]
      simp only [List.mem_cons, List.not_mem_nil, or_false] at hjl
      rcases hjl with rfl | rfl
      ·obtain ⟨p1, p2⟩ := chkF_pull2 (G := fun l => chkF soft ops (chkTr soft ops ti) pi l) hts.1.1 (fun l hl => by simp only [chkTr, Bool.and_eq_true] at hl; exact hl.1.2) hcl (fun _ h => h) hck hj hm
       rw [← chkF_append] at p2
       refine ⟨c, none, non pi, ti, p1, ?_, ?_, ?_, ?_⟩
       ·rw [hnl]; exact p2
       ·rw [SE_append]; exact SE_mono (fun env σ hh => hh.1) h
       ·simp only [non, List.length_map]; omega
       ·rw [hnl]; exact hts.1.2
      ·obtain ⟨p1, p2⟩ := chkF_pull2 (G := fun l => chkF soft ops (chkTr soft ops tk) pk l) hts.2.1 (fun l hl => by simp only [chkTr, Bool.and_eq_true] at hl; exact hl.2) hcl (fun _ h => h) hck hj hm
       rw [← chkF_append] at p2
       refine ⟨c, none, non pk, tk, p1, ?_, ?_, ?_, ?_⟩
       ·rw [hnl]; exact p2
       ·rw [SE_append]; exact SE_mono (fun env σ hh => hh.2) h
       ·simp only [non, List.length_map]; omega
       ·rw [hnl]; exact hts.2.2
   obtain ⟨qj', ps', hps, hsv⟩ := SE_pull hgt p1 hse
   obtain ⟨_, oj, hoj, _⟩ := mem_ready.1 hj
   have hoko : okOp nt oj = true := by
    rw [List.all_eq_true] at hok
    exact hok oj (by simpa using Array.mem_of_getElem? hoj)
   have hlen : (ps' ++ c3).length + T'.size = n := by
    have : ps'.length = cs1.length := by have := congrArg List.length hps; simpa using this
    simp only [List.length_append] at hlen0 ⊢
    omega
   have hck' : chkF soft ops (chkTr soft ops T') ((ps' ++ c3).map Prod.fst) (listed.setIfInBounds j true) = true := by
    rw [List.map_append, hps]; exact hck0
   have hts' : TS soft ops T' ((ps' ++ c3).map Prod.fst) = true := by
    rw [List.map_append, hps]; exact hts0
   unfold wpOpIn
   simp only [hoj]
   simp only [List.cons_append, SE, hoj] at hsv
   cases hso : softC soft oj with
   | true =>
    simp only [hso, cond_true] at hsv
    obtain ⟨d, e1, e3⟩ := hsv
    refine soft_sound (r := r) (ops := ops) hgt hc he hoko e1 ?_
    intro M' w' a' s1 c1 e4 d1
    exact any_tree2 hgt keep hok n T' (ps' ++ c3) _ (cls_set hcl hj) hlen hck' hts' _ σ M' w' a' e3 c1 e4 hd (d1.trans hda) (hs.trans s1)
   | false =>
   simp only [hso, cond_false] at hsv
   cases hq : quiet oj.op with
   | true =>
    simp only [hq, cond_true] at hsv
    obtain ⟨e1, e2, e3⟩ := hsv
    obtain ⟨v, r1, r2⟩ := quiet_sound (r := r) (ops := ops) hgt hc he hoko e1 e2
    refine r2 _ _ (any_tree2 hgt keep hok n T' (ps' ++ c3) _ (cls_set hcl hj) hlen hck' hts' _ σ M w _ e3 hc (he.put (okOp_dst hoko) r1) hd ?_ hs)
    rw [← hda]; cases oj.dst <;> rfl
   | false =>
    simp only [hq, cond_false] at hsv
    refine vop_sound (imm := imm) (ops := ops) (r := r) hgt hc he hoko (κ := fun env' σ' => SE P imm soft gt ops (SET P imm soft gt ops (fun env σ => Q .normal (prune keep env) σ) (fun d σ => Q (.pan d) (fun _ => .top) σ) T') (fun d σ => Q (.pan d) (fun _ => .top) σ) (ps' ++ c3) env' σ') (X := fun d σ => Q (.pan d) (fun _ => .top) σ) ?_ ?_ ?_
    ·unfold vop
     simp only [hq, cond_false]
     exact nv_mono (fun d σ' hh => hh.2) hsv
    ·intro M' w' σ' env' a' s1 c1 e1 d1 k1
     exact any_tree2 hgt keep hok n T' (ps' ++ c3) _ (cls_set hcl hj) hlen hck' hts' env' σ' M' w' a' k1 c1 e1 hd (d1.trans hda) (hs.trans s1)
    ·intro M' w' σ' d v s1 c1 r1 x1
     exact ⟨M', fun _ => .top, σ', .pan d, hs.trans s1, c1, ⟨he.1, fun _ => by simp only [R]⟩, hda ▸ hd.step (hs.trans s1), ⟨v, rfl, r1⟩, x1⟩
def drT2 (nt : Nat) (soft : List Nat) (ops : Array Oper) (gt : List (Nat × Nat)) (perm : List Nat) (T : Tr) : Bool := rgOK nt ops gt && TS soft ops T perm && perm.length + T.size == ops.size && chkF soft ops (chkTr soft ops T) perm (Array.replicate ops.size false)
/-- A REGION WHERE TWO ORDERS MATTER. -/
theorem rgt2 (keep imm soft : List Nat) (gt : List (Nat × Nat)) (perm : List Nat) (T : Tr) {id : Nat} {l pl : List Oper} {env : Env} {σ : Store} {Q : AE → Env → Store → Prop} (hm : P.follows .mixedOrders = true) (hok : drT2 nt soft l.toArray gt perm T = true)
  (hpl : Pk l perm pl)
  (h : ∀ (κ : Env → Store → Prop) (ξ : D → Store → Prop), (∀ env σ, Q .normal env σ → κ env σ) → (∀ d σ, Q (.pan d) (fun _ => .top) σ → ξ d σ) →
    vdr P imm soft gt (SET P imm soft gt l.toArray (fun env σ => κ (prune keep env) σ) ξ T) ξ pl env σ) : AWp P r nt (.region id l.toArray true) env σ Q := by
 intro M w a B hc he hd
 unfold drT2 rgOK at hok
 simp only [Bool.and_eq_true, beq_iff_eq] at hok
 obtain ⟨⟨⟨⟨h1, h4⟩, h5⟩, h2⟩, h3⟩ := hok
 refine wpIn_region_any hm ?_
 have := any_tree2 (P := P) (r := r) (imm := imm) (soft := soft) (ops := l.toArray) (Q := Q) (GT.of h4) keep h1 l.toArray.size T (perm.map fun i => (i, none)) (Array.replicate l.toArray.size false) cls_init (by simpa using h2) (by simpa [Function.comp_def] using h3) (by simpa [Function.comp_def] using h5)
  env σ M w.drew a (SE_of_vdr hpl.map (h (fun env σ => Q .normal env σ) (fun d σ => Q (.pan d) (fun _ => .top) σ) (fun _ _ h => h) (fun _ _ h => h))) hc.drew he (a0 := a) hd rfl (M0 := M) (w0 := w) (σ0 := σ) (Step.drew M w σ)
 exact this
end
theorem napp_fullT {P : Program} {σ : Store} {ts : Array TypeId} {T U V : TypeId} {g : Bool} {sz by_ n : Nat} {z : List D} {rows new : List (List D)} {tk : Tok} {K : D → Store → Prop}
  (hn : rows.length = n) (hT : ts[0]? = some T) (hV : ts[1]? = some V) (hV' : (sle P V).isSome = true) (hs : sle P T = some (U, g, sz)) (hy : eby P T = some by_) (hz : zc P U = some z)
  (hside : (z.length = sz ∧ 0 < sz ∧ 0 < by_) ∧ new.all (·.all D.isCell) = true ∧ (n + new.length) * by_ ≤ capB)
  (h0 : new = [] → K (.sl sz rows .full) σ) (hK : ∀ b c, b ∉ σ.keys → K (.sl sz (rows ++ new) (.own b c)) ((b, .tail sz (n + new.length) c) :: σ)) :
  napp P σ ts (.sl sz rows .full) (.sl sz new tk) K := by
 subst hn
 obtain ⟨⟨hz1, hs0, hb0⟩, hc, hfit⟩ := hside
 unfold napp
 simp only [hT, Option.bind_some, hs, hy, rowsOf]
 exact ⟨⟨⟨z, hz, hz1⟩, ⟨V, hV, .inl hV'⟩, hs0, hb0, by simp, by simp, hc, hfit⟩, h0, fun _ b cap hb => hK b cap hb⟩
theorem napp_ownT {P : Program} {σ : Store} {ts : Array TypeId} {T U V : TypeId} {g : Bool} {sz by_ n b c : Nat} {z : List D} {rows new : List (List D)} {tk : Tok} {K : D → Store → Prop}
  (hn : rows.length = n) (hT : ts[0]? = some T) (hV : ts[1]? = some V) (hV' : (sle P V).isSome = true) (hs : sle P T = some (U, g, sz)) (hy : eby P T = some by_) (hz : zc P U = some z)
  (hside : (z.length = sz ∧ 0 < sz ∧ 0 < by_) ∧ new.all (·.all D.isCell) = true ∧ (n + new.length) * by_ ≤ capB)
  (hb : σ.get b = some (.tail sz n c)) (hK : ∀ b' c', (b' = b ∨ b' ∉ σ.keys) → K (.sl sz (rows ++ new) (.own b' c')) (σ.ren b b' (.tail sz (n + new.length) c'))) :
  napp P σ ts (.sl sz rows (.own b c)) (.sl sz new tk) K := by
 subst hn
 obtain ⟨⟨hz1, hs0, hb0⟩, hc, hfit⟩ := hside
 unfold napp
 simp only [hT, Option.bind_some, hs, hy, rowsOf]
 exact ⟨⟨⟨z, hz, hz1⟩, ⟨V, hV, .inl hV'⟩, hs0, hb0, by simp, by simp, hc, hfit⟩, ⟨trivial, hb⟩, fun b' c' h => hK b' c' h⟩
end Go.Proofs.YtfjnohmdilmfhaaGreatDoor
/- Claim: a claim of the parser. Printed by a tool of our own. -/
namespace Go.Proofs.YtfjnohmdilmfhaaGreatDoor
open Go Go.RowKit
set_option linter.unusedSimpArgs false
set_option linter.unusedVariables false
set_option maxHeartbeats 4000000
set_option maxRecDepth 100000
abbrev CF (c : Cl) : D := .ag [.int .i64 c.op, .int .i64 c.a, .int .i64 c.b, .int .i64 c.n, .sl 5 (c.kids.map crow) .no]
def nbW (ws : List W) : Prop := ∀ w ∈ ws, w ≠ [] ∧ w.length ≤ 1000000
theorem nbW.suf {p r : List W} (h : nbW (p ++ r)) : nbW r := fun w hw => h w (List.mem_append_right _ hw)
theorem nbW.tl {w : W} {r : List W} (h : nbW (w :: r)) : nbW r := fun v hv => h v (List.mem_cons_of_mem _ hv)
/-- As PQ, the value told with less. -/
def PQL (b : Nat) (x : Option (D × List W)) : Res → Store → Prop := fun r σ' => ∃ ws' : List W, σ' = [(b, .cells [.sl 1 (ws'.map srow) .no])] ∧ ((∃ d d', x = some (d, ws') ∧ DLe d d' ∧ r = .ret d') ∨ (x = none ∧ r = .pan wrD))
theorem ACall.leQ {P : Program} {f : Fn} {xs : List D} {σ : Store} {b : Nat} {x : Option (D × List W)} (h : ACall P f xs σ (PQL b x)) : ACall P f xs σ (PQ b x) := ACall.le (h.mono fun r σ' ⟨ws', e, h⟩ => by
  rcases h with ⟨d, d', h1, h2, rfl⟩ | ⟨h1, rfl⟩
  · exact ⟨.ret d, h2, ws', e, .inl ⟨d, h1, rfl⟩⟩
  · exact ⟨.pan wrD, DLe.refl _, ws', e, .inr ⟨h1, rfl⟩⟩)
theorem callPm2 {P : Program} {α : Type} (ρ ρ2 : Store) (F : α → D) {g b : Nat} {xs : List D} {ws : List W} {y : Option (α × List W)} {K X : D → Store → Prop} (h : ACall P (.func g) xs [(b, .cells [.sl 1 (ws.map srow) .no])] (PQ b (omp F y)))
  (hk : ∀ a r, y = some (a, r) → K (F a) (ρ ++ (b, .cells [.sl 1 (r.map srow) .no]) :: ρ2)) (hx : y = none → ∀ ws' : List W, X wrD (ρ ++ (b, .cells [.sl 1 (ws'.map srow) .no]) :: ρ2)) : CallK P (.fn (.func g) [] []) xs K X (ρ ++ (b, .cells [.sl 1 (ws.map srow) .no]) :: ρ2) := by
 refine callA ((h.frame ρ2).frameL ρ) ?_ ?_
 ·rintro d σ' ⟨σ1, rfl, σ2, rfl, ws', rfl, h1⟩
  rcases h1 with ⟨d', h1, h2⟩ | ⟨_, h2⟩
  ·cases h2
   cases y with
   | none => cases h1
   | some z => cases h1; exact hk _ _ rfl
  ·cases h2
 ·rintro d σ' ⟨σ1, rfl, σ2, rfl, ws', rfl, h1⟩
  rcases h1 with ⟨d', _, h2⟩ | ⟨h1, h2⟩
  ·cases h2
  ·cases h2
   cases y with
   | none => exact hx rfl ws'
   | some z => cases h1
/-- The further parts' box. -/
def kD (rows : List (List D)) : Option (Nat × Nat) → D
 | none => .sl 5 rows .full
 | some (b, c) => .sl 5 rows (.own b c)
def kS (n : Nat) : Option (Nat × Nat) → Store
 | none => []
 | some (b, c) => [(b, .tail 5 n c)]
attribute [local go_sem] List.length_map rowAt_n nrow rowAt_t trow rowAt_i irow
attribute [local go_sem] rowAt_c rowAt_sn rowAt_bx snrow bxrow
attribute [local go_sem] rowAt_s srow rwz List.append_eq
theorem cl_s (b f : Nat) (hC : ∀ ws : List W, 2 * ws.length + 2 ≤ f → nbW ws → ACall Tryz.prog (.func 32) [.ptr b 0] [(b, .cells [.sl 1 (ws.map srow) .no])] (PQ b (omp CF (pcl f ws)))) (hG : ∀ ws : List W, 2 * ws.length + 3 ≤ f → nbW ws → ACall Tryz.prog (.func 66) [.ptr b 0] [(b, .cells [.sl 1 (ws.map srow) .no])] (PQ b (omp CF (pgp f ws)))) (ws : List W) (hl : 2 * ws.length + 2 ≤ f + 1) (hnb : nbW ws) : ACall Tryz.prog (.func 32) [.ptr b 0] [(b, .cells [.sl 1 (ws.map srow) .no])] (PQ b (omp CF (pcl (f + 1) ws))) := by
 refine ACall.leQ ?_
 refine fn_ Tryz.func32 (by rfl) (by rfl) (rs := [.cell 2 25]) (by rfl) (by simp [Tryz.f32]) ?_
 refine sr_ [0, 2] [] [] fun κ ξ hκ hξ => ?_
 try simp +decide only [go_sem]
 repeat with_reducible refine an_ ?_
 intro b2 hb2
 try simp +decide only [go_sem, hb2]
 repeat with_reducible refine an_ ?_
 refine hκ _ _ ?_; clear hκ hξ ξ κ
 refine sq ?_
 refine sr_ [0, 2, 7] [] [] fun κ ξ hκ hξ => ?_
 try simp +decide only [go_sem, hb2]
 repeat with_reducible refine an_ ?_
 refine callPm2 [(b2, _)] [] .str (nx_w b ws) ?_ (fun hn ws' => hξ _ _ ⟨_, (List.sublist_cons_self _ _), ws', rfl, .inr ⟨(by cases ws with | nil => simp [pcl, omp] | cons w r => cases hn), rfl⟩⟩)
 rintro w r hw
 obtain rfl : ws = w :: r := by
  cases ws with
  | nil => cases hw
  | cons x y => cases hw; rfl
 have hnr := hnb.tl
 simp only [List.length_cons] at hl
 try simp only [CF, List.cons_append, List.nil_append]
 try simp +decide only [go_sem, hb2]
 repeat with_reducible refine an_ ?_
 refine hκ _ _ ?_; clear hκ hξ ξ κ
 refine bl ?_
 refine sr_ [0, 2, 7, 8] [] [] fun κ ξ hκ hξ => ?_
 try simp +decide only [go_sem, hb2]
 repeat with_reducible refine an_ ?_
 refine hκ _ _ ?_; clear hκ hξ ξ κ
 refine cd_ (fun c0 => ?_) (fun c0 => ?_)
 ·simp only [go_sem] at c0
  refine sr_ [2] [] [] fun κ ξ hκ hξ => ?_
  try simp +decide only [go_sem, hb2, c0]
  repeat with_reducible refine an_ ?_
  refine callPm2 [(b2, _)] [] (.int .i64) (nu_w b r hnr) ?_ (fun hn ws' => hξ _ _ ⟨_, (List.sublist_cons_self _ _), ws', rfl, .inr ⟨(by rw [pcl, if_pos c0, hn]; rfl), rfl⟩⟩)
  rintro n1 r1 h1
  try simp only [CF, List.cons_append, List.nil_append]
  try simp +decide only [go_sem, hb2, c0]
  repeat with_reducible refine an_ ?_
  refine hκ _ _ ?_; clear hκ hξ ξ κ
  refine rt ?_
  refine ret_ (σ' := [(b, .cells [.sl 1 (r1.map srow) .no])]) ?_ (List.sublist_cons_self _ _) ?_
  ·simp +decide only [go_sem, resD, resV]
  simp +decide only [go_sem, resD, resV]
  refine ⟨r1, rfl, .inl ⟨_, _, (show _ = some (CF (.mk 1 n1 0 0 []), r1) by rw [pcl, if_pos c0, h1]; rfl), ?_, rfl⟩⟩
  exact (DLe.ag ⟨DLe.refl _, DLe.refl _, DLe.refl _, DLe.refl _, DLe.nil _ _ _, trivial⟩)
 ·simp only [go_sem, decide_eq_false_iff_not] at c0
  refine sr_ [0, 2, 7, 13] [] [] fun κ ξ hκ hξ => ?_
  try simp +decide only [go_sem, hb2, c0]
  repeat with_reducible refine an_ ?_
  refine hκ _ _ ?_; clear hκ hξ ξ κ
  refine cd_ (fun c1 => ?_) (fun c1 => ?_)
  ·simp only [go_sem] at c1
   refine sr_ [0, 2, 3] [] [] fun κ ξ hκ hξ => ?_
   try simp +decide only [go_sem, hb2, c0, c1]
   repeat with_reducible refine an_ ?_
   refine callPm2 [(b2, _)] [] (.int .i64) (nu_w b r hnr) ?_ (fun hn ws' => hξ _ _ ⟨_, (List.sublist_cons_self _ _), ws', rfl, .inr ⟨(by rw [pcl, if_neg c0, if_pos c1, hn]; rfl), rfl⟩⟩)
   rintro n1 r1 h1
   have hn1 : nbW r1 := by obtain ⟨w1, e1, _⟩ := numL_lt h1; rw [e1] at hnr; exact hnr.tl
   try simp only [CF, List.cons_append, List.nil_append]
   try simp +decide only [go_sem, hb2, c0, c1]
   repeat with_reducible refine an_ ?_
   refine hκ _ _ ?_; clear hκ hξ ξ κ
   refine sr_ [2] [] [] fun κ ξ hκ hξ => ?_
   try simp +decide only [go_sem, hb2, c0, c1]
   repeat with_reducible refine an_ ?_
   refine callPm2 [(b2, _)] [] (.int .i64) (nu_w b r1 hn1) ?_ (fun hn ws' => hξ _ _ ⟨_, (List.sublist_cons_self _ _), ws', rfl, .inr ⟨(by rw [pcl, if_neg c0, if_pos c1, h1]; simp only [hn]; rfl), rfl⟩⟩)
   rintro n2 r2 h2
   try simp only [CF, List.cons_append, List.nil_append]
   try simp +decide only [go_sem, hb2, c0, c1]
   repeat with_reducible refine an_ ?_
   refine hκ _ _ ?_; clear hκ hξ ξ κ
   refine rt ?_
   refine ret_ (σ' := [(b, .cells [.sl 1 (r2.map srow) .no])]) ?_ (List.sublist_cons_self _ _) ?_
   ·simp +decide only [go_sem, resD, resV]
   simp +decide only [go_sem, resD, resV]
   refine ⟨r2, rfl, .inl ⟨_, _, (show _ = some (CF (.mk 2 n1 n2 0 []), r2) by rw [pcl, if_neg c0, if_pos c1, h1]; simp only [h2]; rfl), ?_, rfl⟩⟩
   exact (DLe.ag ⟨DLe.refl _, DLe.refl _, DLe.refl _, DLe.refl _, DLe.nil _ _ _, trivial⟩)
  ·simp only [go_sem, decide_eq_false_iff_not] at c1
   refine sr_ [0, 2, 7, 21] [] [] fun κ ξ hκ hξ => ?_
   try simp +decide only [go_sem, hb2, c0, c1]
   repeat with_reducible refine an_ ?_
   refine hκ _ _ ?_; clear hκ hξ ξ κ
   refine cd_ (fun c2 => ?_) (fun c2 => ?_)
   ·simp only [go_sem] at c2
    refine sr_ [0, 2, 4] [] [] fun κ ξ hκ hξ => ?_
    try simp +decide only [go_sem, hb2, c0, c1, c2]
    repeat with_reducible refine an_ ?_
    refine callPm2 [(b2, _)] [] (.int .i64) (nu_w b r hnr) ?_ (fun hn ws' => hξ _ _ ⟨_, (List.sublist_cons_self _ _), ws', rfl, .inr ⟨(by rw [pcl, if_neg c0, if_neg c1, if_pos c2, hn]; rfl), rfl⟩⟩)
    rintro n1 r1 h1
    have hn1 : nbW r1 := by obtain ⟨w1, e1, _⟩ := numL_lt h1; rw [e1] at hnr; exact hnr.tl
    try simp only [CF, List.cons_append, List.nil_append]
    try simp +decide only [go_sem, hb2, c0, c1, c2]
    repeat with_reducible refine an_ ?_
    refine hκ _ _ ?_; clear hκ hξ ξ κ
    refine sr_ [2] [] [] fun κ ξ hκ hξ => ?_
    try simp +decide only [go_sem, hb2, c0, c1, c2]
    repeat with_reducible refine an_ ?_
    refine callPm2 [(b2, _)] [] (.int .i64) (nu_w b r1 hn1) ?_ (fun hn ws' => hξ _ _ ⟨_, (List.sublist_cons_self _ _), ws', rfl, .inr ⟨(by rw [pcl, if_neg c0, if_neg c1, if_pos c2, h1]; simp only [hn]; rfl), rfl⟩⟩)
    rintro n2 r2 h2
    try simp only [CF, List.cons_append, List.nil_append]
    try simp +decide only [go_sem, hb2, c0, c1, c2]
    repeat with_reducible refine an_ ?_
    refine hκ _ _ ?_; clear hκ hξ ξ κ
    refine rt ?_
    refine ret_ (σ' := [(b, .cells [.sl 1 (r2.map srow) .no])]) ?_ (List.sublist_cons_self _ _) ?_
    ·simp +decide only [go_sem, resD, resV]
    simp +decide only [go_sem, resD, resV]
    refine ⟨r2, rfl, .inl ⟨_, _, (show _ = some (CF (.mk 3 n1 0 n2 []), r2) by rw [pcl, if_neg c0, if_neg c1, if_pos c2, h1]; simp only [h2]; rfl), ?_, rfl⟩⟩
    exact (DLe.ag ⟨DLe.refl _, DLe.refl _, DLe.refl _, DLe.refl _, DLe.nil _ _ _, trivial⟩)
   ·simp only [go_sem, decide_eq_false_iff_not] at c2
    refine sr_ [0, 2, 7, 29] [] [] fun κ ξ hκ hξ => ?_
    try simp +decide only [go_sem, hb2, c0, c1, c2]
    repeat with_reducible refine an_ ?_
    refine hκ _ _ ?_; clear hκ hξ ξ κ
    refine cd_ (fun c3 => ?_) (fun c3 => ?_)
    ·simp only [go_sem] at c3
     refine sr_ [0, 2, 5] [] [] fun κ ξ hκ hξ => ?_
     try simp +decide only [go_sem, hb2, c0, c1, c2, c3]
     repeat with_reducible refine an_ ?_
     refine callPm2 [(b2, _)] [] (.int .i64) (nu_w b r hnr) ?_ (fun hn ws' => hξ _ _ ⟨_, (List.sublist_cons_self _ _), ws', rfl, .inr ⟨(by rw [pcl, if_neg c0, if_neg c1, if_neg c2, if_pos c3, hn]; rfl), rfl⟩⟩)
     rintro n1 r1 h1
     have hn1 : nbW r1 := by obtain ⟨w1, e1, _⟩ := numL_lt h1; rw [e1] at hnr; exact hnr.tl
     try simp only [CF, List.cons_append, List.nil_append]
     try simp +decide only [go_sem, hb2, c0, c1, c2, c3]
     repeat with_reducible refine an_ ?_
     refine hκ _ _ ?_; clear hκ hξ ξ κ
     refine sr_ [2] [] [] fun κ ξ hκ hξ => ?_
     try simp +decide only [go_sem, hb2, c0, c1, c2, c3]
     repeat with_reducible refine an_ ?_
     refine callPm2 [(b2, _)] [] (.int .i64) (nu_w b r1 hn1) ?_ (fun hn ws' => hξ _ _ ⟨_, (List.sublist_cons_self _ _), ws', rfl, .inr ⟨(by rw [pcl, if_neg c0, if_neg c1, if_neg c2, if_pos c3, h1]; simp only [hn]; rfl), rfl⟩⟩)
     rintro n2 r2 h2
     try simp only [CF, List.cons_append, List.nil_append]
     try simp +decide only [go_sem, hb2, c0, c1, c2, c3]
     repeat with_reducible refine an_ ?_
     refine hκ _ _ ?_; clear hκ hξ ξ κ
     refine rt ?_
     refine ret_ (σ' := [(b, .cells [.sl 1 (r2.map srow) .no])]) ?_ (List.sublist_cons_self _ _) ?_
     ·simp +decide only [go_sem, resD, resV]
     simp +decide only [go_sem, resD, resV]
     refine ⟨r2, rfl, .inl ⟨_, _, (show _ = some (CF (.mk 5 n1 0 n2 []), r2) by rw [pcl, if_neg c0, if_neg c1, if_neg c2, if_pos c3, h1]; simp only [h2]; rfl), ?_, rfl⟩⟩
     exact (DLe.ag ⟨DLe.refl _, DLe.refl _, DLe.refl _, DLe.refl _, DLe.nil _ _ _, trivial⟩)
    ·simp only [go_sem, decide_eq_false_iff_not] at c3
     refine sr_ [0, 2, 7, 37] [] [] fun κ ξ hκ hξ => ?_
     try simp +decide only [go_sem, hb2, c0, c1, c2, c3]
     repeat with_reducible refine an_ ?_
     refine hκ _ _ ?_; clear hκ hξ ξ κ
     refine cd_ (fun c4 => ?_) (fun c4 => ?_)
     ·simp only [go_sem] at c4
      refine sr_ [2] [] [] fun κ ξ hκ hξ => ?_
      try simp +decide only [go_sem, hb2, c0, c1, c2, c3, c4]
      repeat with_reducible refine an_ ?_
      refine hκ _ _ ?_; clear hκ hξ ξ κ
      refine rt ?_
      refine ret_ (σ' := [(b, .cells [.sl 1 (r.map srow) .no])]) ?_ (List.sublist_cons_self _ _) ?_
      ·simp +decide only [go_sem, resD, resV]
      simp +decide only [go_sem, resD, resV]
      refine ⟨r, rfl, .inl ⟨_, _, (show _ = some (CF (.mk 4 0 0 0 []), r) by rw [pcl, if_neg c0, if_neg c1, if_neg c2, if_neg c3, if_pos c4]; rfl), ?_, rfl⟩⟩
      exact (DLe.ag ⟨DLe.refl _, DLe.refl _, DLe.refl _, DLe.refl _, DLe.nil _ _ _, trivial⟩)
     ·simp only [go_sem, decide_eq_false_iff_not] at c4
      refine sr_ [0, 2, 7, 40] [] [] fun κ ξ hκ hξ => ?_
      try simp +decide only [go_sem, hb2, c0, c1, c2, c3, c4]
      repeat with_reducible refine an_ ?_
      refine hκ _ _ ?_; clear hκ hξ ξ κ
      refine cd_ (fun c5 => ?_) (fun c5 => ?_)
      ·simp only [go_sem] at c5
       refine sr_ [2] [] [] fun κ ξ hκ hξ => ?_
       try simp +decide only [go_sem, hb2, c0, c1, c2, c3, c4, c5]
       repeat with_reducible refine an_ ?_
       refine callPm2 [(b2, _)] [] CF (hC r (by omega) hnr) ?_ (fun hn ws' => hξ _ _ ⟨_, (List.sublist_cons_self _ _), ws', rfl, .inr ⟨(by rw [pcl, if_neg c0, if_neg c1, if_neg c2, if_neg c3, if_neg c4, if_pos c5, hn]; rfl), rfl⟩⟩)
       rintro y1 r1 h1
       try simp only [CF, List.cons_append, List.nil_append]
       try simp +decide only [go_sem, hb2, c0, c1, c2, c3, c4, c5]
       repeat with_reducible refine an_ ?_
       refine hκ _ _ ?_; clear hκ hξ ξ κ
       refine rt ?_
       refine ret_ (σ' := [(b, .cells [.sl 1 (r1.map srow) .no])]) ?_ (List.sublist_cons_self _ _) ?_
       ·simp +decide only [go_sem, resD, resV]
       simp +decide only [go_sem, resD, resV]
       refine ⟨r1, rfl, .inl ⟨_, _, (show _ = some (CF (.mk 8 0 0 0 [y1]), r1) by rw [pcl, if_neg c0, if_neg c1, if_neg c2, if_neg c3, if_neg c4, if_pos c5, h1]; rfl), ?_, rfl⟩⟩
       exact (by simp only [CF, Cl.op, Cl.a, Cl.b, Cl.n, Cl.kids, List.map_cons, List.map_nil, crow_eq]; exact DLe.ag ⟨DLe.refl _, DLe.refl _, DLe.refl _, DLe.refl _, DLe.tok _ _ _, trivial⟩)
      ·simp only [go_sem, decide_eq_false_iff_not] at c5
       refine sr_ [0, 2, 46] [] [] fun κ ξ hκ hξ => ?_
       try simp +decide only [go_sem, hb2, c0, c1, c2, c3, c4, c5]
       repeat with_reducible refine an_ ?_
       refine hκ _ _ ?_; clear hκ hξ ξ κ
       refine cd_ (fun c6 => ?_) (fun c6 => ?_)
       ·simp only [go_sem] at c6
        refine sr_ [2] [] [] fun κ ξ hκ hξ => ?_
        try simp +decide only [go_sem, hb2, c0, c1, c2, c3, c4, c5, c6]
        repeat with_reducible refine an_ ?_
        refine callPm2 [(b2, _)] [] CF (hG r (by omega) hnr) ?_ (fun hn ws' => hξ _ _ ⟨_, (List.sublist_cons_self _ _), ws', rfl, .inr ⟨(by rw [pcl, if_neg c0, if_neg c1, if_neg c2, if_neg c3, if_neg c4, if_neg c5, if_pos c6, hn]; rfl), rfl⟩⟩)
        rintro y1 r1 h1
        try simp only [CF, List.cons_append, List.nil_append]
        try simp +decide only [go_sem, hb2, c0, c1, c2, c3, c4, c5, c6]
        repeat with_reducible refine an_ ?_
        refine hκ _ _ ?_; clear hκ hξ ξ κ
        refine rt ?_
        refine ret_ (σ' := [(b, .cells [.sl 1 (r1.map srow) .no])]) ?_ (List.sublist_cons_self _ _) ?_
        ·simp +decide only [go_sem, resD, resV]
        simp +decide only [go_sem, resD, resV]
        refine ⟨r1, rfl, .inl ⟨_, _, (show _ = some (CF y1, r1) by rw [pcl, if_neg c0, if_neg c1, if_neg c2, if_neg c3, if_neg c4, if_neg c5, if_pos c6, h1]; rfl), ?_, rfl⟩⟩
        exact (DLe.refl _)
       ·simp only [go_sem, decide_eq_false_iff_not] at c6
        refine sk ?_
        refine rr_ [] [] [] fun κ ξ hκ hξ => ?_
        try simp +decide only [go_sem, hb2, c0, c1, c2, c3, c4, c5, c6]
        repeat with_reducible refine an_ ?_
        refine hξ _ _ ?_
        exact ⟨_, (List.sublist_cons_self _ _), r, rfl, .inr ⟨by rw [pcl, if_neg c0, if_neg c1, if_neg c2, if_neg c3, if_neg c4, if_neg c5, if_neg c6]; rfl, rfl⟩⟩
end Go.Proofs.YtfjnohmdilmfhaaGreatDoor
