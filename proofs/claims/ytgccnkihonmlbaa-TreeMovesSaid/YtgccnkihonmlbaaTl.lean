/- Plain facts of Insert, Remove and Move: what they come to. -/
import Derived.Test.YtgccnkihonmlbaaTk
namespace Go.Proofs.Ytgccnkihonmlbaa
open Go Go.RowKit
set_option linter.unusedSimpArgs false
set_option linter.unusedVariables false

theorem PCall.weaken {P : Program} {f : Fn} {args : List D} {d d' : D} (h : PCall P f args d') (hd : DLe d d') : PCall P f args d :=
  PCall.le (ACall.mono h fun r σ' ⟨h1, h2⟩ => ⟨d', h1, hd, h2⟩)
/-- What is wrong with taking a node away. -/
def rmE (l : List Nd) (x : Int) : Int := if gerr l x = 0 then (if fi l x = 0 then 24 else 0) else gerr l x
def rmL (l : List Nd) (x : Int) : List Nd := if rmE l x = 0 then stL l x l.length else []
/-- What is wrong with a further node. -/
def insE (l : List Nd) (n : Nd) (b : Int) : Int :=
  if treB l = false then 1
  else if (!decide (b = 0) && !idB b || !fmB n || decide (n.par = 0)) = true then 1
  else if decide (0 ≤ idx l n.id) = true then 5
  else if (!decide (0 ≤ idx l n.par)) = true then 4
  else if (!decide (b = 0) && !iin (kidsL l n.par) b) = true then 24
  else if (!stR n.kind (nat l (idx l n.par).toNat).kind) = true then 25
  else if (decide ((l.length : Int) = 4000) || decide (fd l n.par = 30)) = true then 2 else 0
def insL (l : List Nd) (n : Nd) (b : Int) : List Nd := if insE l n b = 0 then putL l [n] b else []
/-- The list in which a node stands elsewhere. -/
def mvR (l : List Nd) (x p b : Int) : List Nd := putL (stL l x l.length) (setP (goL l x l.length) p) b
/-- What is wrong with putting a node elsewhere. -/
def mvE (l : List Nd) (x p b : Int) : Int :=
  if treB l = false then 1
  else if (!idB x || !idB p || (!decide (b = 0) && !idB b)) = true then 1
  else if (!decide (0 ≤ idx l x) || !decide (0 ≤ idx l p)) = true then 4
  else if (decide (idx l x = 0) || goB l x (idx l p).toNat || (!decide (b = 0) && (decide (b = x) || !iin (kidsL l p) b))) = true then 24
  else if (!stR (nat l (idx l x).toNat).kind (nat l (idx l p).toNat).kind) = true then 25
  else if (!treB (mvR l x p b)) = true then 2 else 0
def mvL (l : List Nd) (x p b : Int) : List Nd := if mvE l x p b = 0 then mvR l x p b else []
theorem err_le {E e : Int} {X : List Nd} {sz : Nat} {tk : Tok} (h : E = e) (he : e ≠ 0) : DLe (.tup [.sl 5 ((if E = 0 then X else []).map nrow) .no, .int .i64 E]) (.tup [.sl sz [] tk, .int .i64 e]) := by
  subst h
  rw [if_neg he]
  exact DLe.tup ⟨DLe.nil _ _ _, DLe.refl _, trivial⟩
theorem ok_le {E : Int} {X : List Nd} {tk : Tok} (h : E = 0) : DLe (.tup [.sl 5 ((if E = 0 then X else []).map nrow) .no, .int .i64 E]) (.tup [.sl 5 (X.map nrow) tk, .int .i64 0]) := by
  subst h
  rw [if_pos rfl]
  exact DLe.tup ⟨DLe.tok _ _ _, DLe.refl _, trivial⟩
theorem idB_true {x : Int} : idB x = true ↔ 1 ≤ x ∧ x ≤ 1000000 := by unfold idB; simp
theorem gerr_zero {l : List Nd} {x : Int} : gerr l x = 0 ↔ treB l = true ∧ idB x = true ∧ 0 ≤ idx l x := by
  unfold gerr
  cases treB l <;> cases idB x <;> by_cases h : 0 ≤ idx l x <;> simp [h]
theorem kids_in {l : List Nd} {x b : Int} (h : iin (kidsL l x) b = true) : ∃ j, j < l.length ∧ (nat l j).id = b ∧ (nat l j).par = x := by
  unfold iin kidsL at h
  simp only [decide_eq_true_eq, List.mem_map, List.mem_filter] at h
  obtain ⟨n, ⟨hn, hp⟩, rfl⟩ := h
  obtain ⟨j, hj, e⟩ := mem_nat hn
  exact ⟨j, hj, by rw [e], by rw [e]; simpa using hp⟩
theorem kids_idx {l : List Nd} {x b : Int} (h : iin (kidsL l x) b = true) : 0 ≤ idx l b := by
  obtain ⟨j, hj, e, _⟩ := kids_in h
  rcases idx_cases l b with ⟨i, _, _, _, h4⟩ | ⟨h2, _⟩
  · omega
  · exact absurd e (h2 j hj)
theorem putI_ins {l : List Nd} {x b : Int} (h : (!decide (b = 0) && !iin (kidsL l x) b) = false) : 0 ≤ putI l b := by
  have h : ¬ (b ≠ 0 ∧ iin (kidsL l x) b = false) := by rintro ⟨h1, h2⟩; simp [h1, h2] at h
  unfold putI
  by_cases hb : b = 0
  · rw [if_pos hb]; omega
  · rw [if_neg hb]
    refine kids_idx (x := x) ?_
    cases e : iin (kidsL l x) b
    · exact absurd ⟨hb, e⟩ h
    · rfl
theorem mem_stL {l : List Nd} {x : Int} {n j : Nat} (hj : j < n) (h : goB l x j = false) : nat l j ∈ stL l x n := by
  unfold stL
  exact List.mem_map_of_mem (List.mem_filter.2 ⟨List.mem_range.2 hj, by simp [h]⟩)
theorem idx_mem {l : List Nd} {n : Nd} (h : n ∈ l) : 0 ≤ idx l n.id := by
  obtain ⟨j, hj, e⟩ := mem_nat h
  rcases idx_cases l n.id with ⟨i, _, _, _, h4⟩ | ⟨h2, _⟩
  · omega
  · exact absurd (by rw [e]) (h2 j hj)
theorem putI_mv {l : List Nd} (hT : Tree l) {x p b : Int} (hp : 0 ≤ idx l p) (hg : goB l x (idx l p).toNat = false) (h : (!decide (b = 0) && (decide (b = x) || !iin (kidsL l p) b)) = false) : 0 ≤ putI (stL l x l.length) b := by
  have h : ¬ (b ≠ 0 ∧ (b = x ∨ iin (kidsL l p) b = false)) := by
    rintro ⟨h1, h2 | h2⟩
    · subst h2; simp [h1] at h
    · simp [h1, h2] at h
  unfold putI
  by_cases hb : b = 0
  · rw [if_pos hb]; omega
  · rw [if_neg hb]
    have hbx : b ≠ x := fun e => h ⟨hb, .inl e⟩
    have hk : iin (kidsL l p) b = true := by
      cases e : iin (kidsL l p) b
      · exact absurd ⟨hb, .inr e⟩ h
      · rfl
    obtain ⟨j, hj, e, hpar⟩ := kids_in hk
    rw [← e]
    refine idx_mem (mem_stL hj ?_)
    rw [goB_eq, e, decide_eq_false hbx, Bool.false_or]
    have : pix l j = idx l p := by rw [← up_pix hT hj, hpar]
    rw [this, hg]; simp
theorem goL_ne {l : List Nd} (hT : Tree l) {x : Int} (h : 0 ≤ idx l x) : 0 < (goL l x l.length).length ∧ goL l x l.length ≠ [] := by
  obtain ⟨t, ht, _⟩ := goL_first hT h
  rw [ht]; simp
theorem goL_idx {l : List Nd} (hT : Tree l) {x : Int} (h : 0 ≤ idx l x) : idx (goL l x l.length) x = 0 := by
  obtain ⟨t, ht, he⟩ := goL_first hT h
  exact idx_is (i := 0) (by rw [ht]; simp) (by rw [ht]; exact he) (fun j hj => by omega)
theorem goL_par {l : List Nd} (hT : Tree l) {x p : Int} (hp : 0 ≤ idx l p) : decide (0 ≤ idx (goL l x l.length) p) = goB l x (idx l p).toNat := by
  rcases idx_cases l p with ⟨i, h1, h2, _, h4⟩ | ⟨_, h4⟩
  · rw [h4, Int.toNat_natCast, Bool.eq_iff_iff, decide_eq_true_eq]
    constructor
    · intro h
      rcases idx_cases (goL l x l.length) p with ⟨j, g1, g2, _, _⟩ | ⟨_, g4⟩
      · have hm : nat (goL l x l.length) j ∈ goL l x l.length := by unfold nat; rw [List.getD_eq_getElem?_getD, List.getElem?_eq_getElem g1]; exact List.getElem_mem g1
        unfold goL at hm
        obtain ⟨q, hq, hqe⟩ := List.mem_map.1 hm
        obtain ⟨hq1, hq2⟩ := List.mem_filter.1 hq
        have hq3 := List.mem_range.1 hq1
        have e2 : (nat l q).id = p := by rw [hqe]; exact g2
        have := idx_self hT hq3
        rw [e2, h4] at this
        have : i = q := by omega
        rw [this]; exact hq2
      · omega
    · intro h
      have hm : nat l i ∈ goL l x l.length := by
        unfold goL
        exact List.mem_map_of_mem (List.mem_filter.2 ⟨List.mem_range.2 h1, h⟩)
      rw [← h2]
      exact idx_mem hm
  · omega
theorem setP_nat (g : List Nd) (p : Int) : (setP g p).length = g.length := setP_len g p
theorem stP_R {l : List Nd} (hT : Tree l) (k : Int) {i : Nat} (hi : i < l.length) : stP k (nat l i).kind = stR k (nat l i).kind := stP_eq (fm_kind (hT.form i hi))
theorem idx_nat {l : List Nd} {x : Int} (h : 0 ≤ idx l x) : ∃ i : Nat, idx l x = (i : Int) ∧ i < l.length ∧ fi l x = (i : Int) ∧ fd l x = dpt l i := by
  have := idx_lt l x
  obtain ⟨i, hi⟩ : ∃ i : Nat, idx l x = (i : Int) := ⟨(idx l x).toNat, by omega⟩
  refine ⟨i, hi, by omega, by unfold fi; rw [if_pos h, hi], by unfold fd; rw [if_pos h, hi, Int.toNat_natCast]⟩
theorem idx_id {l : List Nd} {x : Int} (h : 0 ≤ idx l x) : (nat l (idx l x).toNat).id = x := by
  rcases idx_cases l x with ⟨i, _, h2, _, h4⟩ | ⟨_, h4⟩
  · rw [h4, Int.toNat_natCast]; exact h2
  · omega
theorem path_dpt (l : List Nd) (i : Nat) : ((pathL l i).length : Int) = dpt l i := by unfold pathL; rw [List.length_reverse, upL_len, ← chn_len]; omega
theorem ways_w {l : List Nd} (t : Tok) {x : Int} (hT : Tree l) (h : 0 ≤ idx l x) : PCall Try.prog (.func 72) [.sl 5 (l.map nrow) t, .int .i64 x] (.sl 1 ((pathL l (idx l x).toNat).map irow) .no) := by
  have h2 := way_w l t (idx l x).toNat hT (by have := idx_lt l x; omega)
  rw [idx_id h] at h2
  exact h2
end Go.Proofs.Ytgccnkihonmlbaa
