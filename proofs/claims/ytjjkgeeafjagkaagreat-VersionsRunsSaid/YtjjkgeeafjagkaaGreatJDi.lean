/- What a call of the laws' play leaves as it was: the list stays one of versions, each number's holds turn by the call alone, documents stay. -/
import Derived.Test.YtjjkgeeafjagkaaGreatJDh
namespace Go.Proofs.YtjjkgeeafjagkaaGreat
open Go Go.RowKit
set_option linter.unusedSimpArgs false
set_option linter.unusedVariables false
def NL (l : List Ve) : Prop := l.Pairwise fun a b => a.num < b.num
theorem ver_nl {l : List Ve} (h : verB l = true) : NL l := by
  unfold NL
  rw [List.pairwise_iff_getElem]
  intro i j hi hj hij
  have := ver_sorted h i j hij hj
  unfold veat at this
  rw [List.getD_eq_getElem?_getD, List.getD_eq_getElem?_getD, List.getElem?_eq_getElem hi, List.getElem?_eq_getElem hj] at this
  exact this
/-- How many hold the version with a number. -/
def hvL : List Ve → Int → Int
  | [], _ => 0
  | v :: l, n => if v.num = n then v.holds else hvL l n
theorem hv_none : ∀ {l : List Ve} {n : Int}, (∀ v ∈ l, v.num ≠ n) → hvL l n = 0
  | [], _, _ => rfl
  | v :: l, n, h => by
    unfold hvL
    rw [if_neg (h v (by simp))]
    exact hv_none fun x hx => h x (List.mem_cons_of_mem _ hx)
theorem hv_mem : ∀ {l : List Ve} {v : Ve}, NL l → v ∈ l → hvL l v.num = v.holds
  | [], _, _, h => by cases h
  | w :: l, v, hs, h => by
    unfold NL at hs
    rw [List.pairwise_cons] at hs
    unfold hvL
    rcases List.mem_cons.1 h with rfl | h
    · rw [if_pos rfl]
    · rw [if_neg (by have := hs.1 v h; omega)]
      exact hv_mem hs.2 h
theorem hv_in {l : List Ve} {n : Int} (h : hvL l n ≠ 0) : ∃ v ∈ l, v.num = n := by
  rcases Classical.em (∃ v ∈ l, v.num = n) with h1 | h1
  · exact h1
  · exact absurd (hv_none fun v hv e => h1 ⟨v, hv, e⟩) h
theorem hv_app : ∀ {a b : List Ve} {n : Int}, (∀ v ∈ b, v.num = n → v.holds = 0) → hvL (a ++ b) n = hvL a n
  | [], b, n, h => by
    rw [List.nil_append]
    show hvL b n = 0
    induction b with
    | nil => rfl
    | cons v b ih =>
      unfold hvL
      split
      · rename_i e; exact h v (by simp) e
      · exact ih fun x hx => h x (List.mem_cons_of_mem _ hx)
  | v :: a, b, n, h => by
    rw [List.cons_append]
    unfold hvL
    split
    · rfl
    · exact hv_app h
theorem hv_set : ∀ {l : List Ve} {k : Nat} {x n : Int}, NL l → k < l.length → hvL (l.set k (held (veat l k) x)) n = hvL l n + if n = (veat l k).num then x else 0
  | [], _, _, _, _, h => by simp at h
  | v :: l, 0, x, n, _, _ => by
    show hvL (held v x :: l) n = _
    have e : veat (v :: l) 0 = v := rfl
    rw [e]
    unfold hvL
    show (if v.num = n then v.holds + x else _) = _
    split
    · rename_i h; rw [if_pos h.symm]
    · rename_i h; rw [if_neg (fun h2 => h h2.symm)]; omega
  | v :: l, k + 1, x, n, hs, h => by
    unfold NL at hs
    rw [List.pairwise_cons] at hs
    have hk : k < l.length := by simpa using h
    have e : veat (v :: l) (k + 1) = veat l k := by simp [veat]
    rw [e]
    show hvL (v :: l.set k (held (veat l k) x)) n = _
    have ih := hv_set (x := x) (n := n) hs.2 hk
    have hm : veat l k ∈ l := by
      unfold veat
      rw [List.getD_eq_getElem?_getD, List.getElem?_eq_getElem hk]
      exact List.getElem_mem hk
    have hlt := hs.1 _ hm
    unfold hvL
    split
    · rename_i h2; rw [if_neg (by omega)]; omega
    · exact ih
theorem hv_erase : ∀ {l : List Ve} {k : Nat} {x n : Int}, NL l → k < l.length → (veat l k).holds + x = 0 → hvL (l.eraseIdx k) n = hvL l n + if n = (veat l k).num then x else 0
  | [], _, _, _, _, h, _ => by simp at h
  | v :: l, 0, x, n, hs, _, h0 => by
    unfold NL at hs
    rw [List.pairwise_cons] at hs
    have e : veat (v :: l) 0 = v := rfl
    rw [e] at h0 ⊢
    show hvL l n = _
    rw [hvL]
    split
    · rename_i h
      rw [if_pos h.symm, hv_none fun w hw e => by have := hs.1 w hw; omega]
      omega
    · rename_i h; rw [if_neg (fun h2 => h h2.symm)]; omega
  | v :: l, k + 1, x, n, hs, h, h0 => by
    unfold NL at hs
    rw [List.pairwise_cons] at hs
    have hk : k < l.length := by simpa using h
    have e : veat (v :: l) (k + 1) = veat l k := by simp [veat]
    rw [e] at h0 ⊢
    show hvL (v :: l.eraseIdx k) n = _
    have ih := hv_erase (x := x) (n := n) hs.2 hk h0
    have hm : veat l k ∈ l := by
      unfold veat
      rw [List.getD_eq_getElem?_getD, List.getElem?_eq_getElem hk]
      exact List.getElem_mem hk
    have hlt := hs.1 _ hm
    rw [hvL, hvL]
    split
    · rename_i h2; rw [if_neg (by omega)]; omega
    · exact ih
theorem hv_chg {l : List Ve} {k : Nat} {x n : Int} (hs : NL l) (hk : k < l.length) : hvL (chg l k x) n = hvL l n + if n = (veat l k).num then x else 0 := by
  unfold chg
  split
  · rename_i h; exact hv_erase hs hk h.1
  · exact hv_set hs hk
theorem veat_mem {l : List Ve} {k : Nat} (hk : k < l.length) : veat l k ∈ l := by
  unfold veat
  rw [List.getD_eq_getElem?_getD, List.getElem?_eq_getElem hk]
  exact List.getElem_mem hk
theorem mem_veat {l : List Ve} {v : Ve} (h : v ∈ l) : ∃ k, k < l.length ∧ veat l k = v := by
  obtain ⟨k, hk, rfl⟩ := List.getElem_of_mem h
  refine ⟨k, hk, ?_⟩
  unfold veat
  rw [List.getD_eq_getElem?_getD, List.getElem?_eq_getElem hk]
  rfl
theorem stay_split (l : List Ve) : ∃ r, l = stayL l ++ r ∧ ∀ v ∈ r, v.holds = 0 := by
  unfold stayL
  split
  · rename_i h
    refine ⟨l.drop (l.length - 1), (List.take_append_drop _ _).symm, fun v hv => ?_⟩
    have e : l.drop (l.length - 1) = [veat l (l.length - 1)] := by
      rw [List.drop_eq_getElem_cons (by omega), List.drop_of_length_le (by omega)]
      unfold veat
      rw [List.getD_eq_getElem?_getD, List.getElem?_eq_getElem (by omega)]
      rfl
    rw [e, List.mem_singleton] at hv
    rw [hv]; exact h.2
  · exact ⟨[], by simp, fun v hv => by cases hv⟩
theorem hv_stay (l : List Ve) (n : Int) : hvL (stayL l) n = hvL l n := by
  obtain ⟨r, e, h⟩ := stay_split l
  conv => rhs; rw [e]
  exact (hv_app fun v hv _ => h v hv).symm
theorem veat_set_ne {l : List Ve} {k i : Nat} (v : Ve) (h : i ≠ k) : veat (l.set k v) i = veat l i := by
  unfold veat
  rw [List.getD_eq_getElem?_getD, List.getD_eq_getElem?_getD, List.getElem?_set_ne (Ne.symm h)]
theorem veat_erase {l : List Ve} {k i : Nat} : veat (l.eraseIdx k) i = if i < k then veat l i else veat l (i + 1) := by
  unfold veat
  rw [List.getD_eq_getElem?_getD, List.getElem?_eraseIdx]
  split <;> rw [List.getD_eq_getElem?_getD]
/-- A version held by more, or by fewer. -/
theorem chg_ver {l : List Ve} {k : Nat} {x : Int} (hv : verB l = true) (hk : k < l.length) (h0 : 0 ≤ (veat l k).holds + x ∧ (veat l k).holds + x ≤ 1000) : verB (chg l k x) = true := by
  have hlen := (ver_true.1 hv).1
  have hok := fun i hi => vok_true.1 ((ver_true.1 hv).2 i hi)
  have hso := ver_sorted hv
  unfold chg
  split
  · rename_i hz
    have hl : (l.eraseIdx k).length = l.length - 1 := by rw [List.length_eraseIdx, if_pos hk]
    rw [ver_true]
    refine ⟨by omega, fun i hi => ?_⟩
    rw [hl] at hi
    rw [vok_true, hl, veat_erase, veat_erase]
    by_cases h1 : i < k
    · rw [if_pos h1]
      have h2 := hok i (by omega)
      refine ⟨⟨h2.1.1, fun h3 => ?_, h2.1.2.2.1, fun h3 => ?_⟩, h2.2⟩
      · rw [if_pos (by omega)]; exact h2.1.2.1 h3
      · have := h2.1.2.2.2 h3; omega
    · rw [if_neg h1]
      have h2 := hok (i + 1) (by omega)
      refine ⟨⟨h2.1.1, fun h3 => ?_, h2.1.2.2.1, fun h3 => ?_⟩, h2.2⟩
      · split
        · exact hso _ _ (by omega) (by omega)
        · exact hso _ _ (by omega) (by omega)
      · have := h2.1.2.2.2 h3; omega
  · rename_i hz
    rw [ver_true, List.length_set]
    refine ⟨hlen, fun i hi => ?_⟩
    have hnum : ∀ j, (veat (l.set k (held (veat l k) x)) j).num = (veat l j).num := by
      intro j
      by_cases h : j = k
      · subst h; rw [veat_set _ hk]; rfl
      · rw [veat_set_ne _ h]
    rw [vok_true, List.length_set, hnum, hnum]
    have h2 := hok i hi
    by_cases h : i = k
    · subst h
      rw [veat_set _ hk]
      exact ⟨⟨h2.1.1, h2.1.2.1, h0, fun h3 => by
        have h4 : (veat l i).holds + x = 0 := h3
        omega⟩, h2.2⟩
    · rw [veat_set_ne _ h]; exact h2
theorem chg_doc {l : List Ve} {k : Nat} {x : Int} {v : Ve} (hs : NL l) (hk : k < l.length) (hv : v ∈ l) (h : hvL (chg l k x) v.num ≠ 0) : ∃ u ∈ chg l k x, u.num = v.num ∧ u.doc = v.doc := by
  obtain ⟨j, hj, rfl⟩ := mem_veat hv
  rw [hv_chg hs hk, hv_mem hs hv] at h
  unfold chg
  split
  · rename_i hz
    by_cases e : j = k
    · subst e; rw [if_pos rfl] at h; omega
    · have hl : (l.eraseIdx k).length = l.length - 1 := by rw [List.length_eraseIdx, if_pos hk]
      by_cases h1 : j < k
      · exact ⟨veat l j, by have := veat_mem (l := l.eraseIdx k) (k := j) (by omega); rwa [veat_erase, if_pos h1] at this, rfl, rfl⟩
      · exact ⟨veat l j, by have := veat_mem (l := l.eraseIdx k) (k := j - 1) (by omega); rwa [veat_erase, if_neg (by omega), show j - 1 + 1 = j from by omega] at this, rfl, rfl⟩
  · by_cases e : j = k
    · subst e
      exact ⟨held (veat l j) x, by have := veat_mem (l := l.set j (held (veat l j) x)) (k := j) (by rw [List.length_set]; exact hk); rwa [veat_set _ hk] at this, rfl, rfl⟩
    · exact ⟨veat l j, by have := veat_mem (l := l.set k (held (veat l k) x)) (k := j) (by rw [List.length_set]; exact hj); rwa [veat_set_ne _ e] at this, rfl, rfl⟩
/-- What a call comes to. -/
structure Plays (l m : List Ve) (held gone : Int) : Prop where
  ver : verB m = true
  holds : ∀ n, 0 < n → hvL m n = hvL l n + (if n = held then 1 else 0) - (if n = gone then 1 else 0)
  docs : ∀ v ∈ l, hvL m v.num ≠ 0 → ∃ u ∈ m, u.num = v.num ∧ u.doc = v.doc
  last : (m.length = 0 → l.length = 0) ∧ (0 < l.length → (veat l (l.length - 1)).num ≤ (veat m (m.length - 1)).num)
  some : (held = 0 ∨ gone = 0) ∧ (held ≠ 0 → ∃ v ∈ l, v.num = held) ∧ (gone ≠ 0 → ∃ v ∈ l, v.num = gone)
theorem plays_none {l : List Ve} (hv : verB l = true) : Plays l l 0 0 where
  ver := hv
  holds n hn := by rw [if_neg (by omega)]; omega
  docs v h _ := ⟨v, h, rfl, rfl⟩
  last := ⟨id, fun _ => Int.le_refl _⟩
  some := ⟨.inl rfl, fun h => absurd rfl h, fun h => absurd rfl h⟩
theorem num_pos {l : List Ve} (hv : verB l = true) {k : Nat} (hk : k < l.length) : 1 ≤ (veat l k).num := (vok_true.1 ((ver_true.1 hv).2 k hk)).1.1.1
theorem chg_len {l : List Ve} {k : Nat} {x : Int} (hk : k < l.length) : (chg l k x).length ≠ 0 := by
  unfold chg
  split
  · rename_i h; rw [List.length_eraseIdx, if_pos hk]; omega
  · rw [List.length_set]; omega
theorem chg_last {l : List Ve} {k : Nat} {x : Int} (hk : k < l.length) : (veat (chg l k x) ((chg l k x).length - 1)).num = (veat l (l.length - 1)).num := by
  unfold chg
  split
  · rename_i h
    rw [List.length_eraseIdx, if_pos hk, veat_erase, if_neg (by omega), show l.length - 1 - 1 + 1 = l.length - 1 from by omega]
  · rw [List.length_set]
    by_cases e : l.length - 1 = k
    · rw [e, veat_set _ hk]; rfl
    · rw [veat_set_ne _ e]
theorem plays_chg {l : List Ve} {k : Nat} {x : Int} (hv : verB l = true) (hk : k < l.length) (h0 : 0 ≤ (veat l k).holds + x ∧ (veat l k).holds + x ≤ 1000) {held gone : Int} (hx : (held = (veat l k).num ∧ gone = 0 ∧ x = 1) ∨ (held = 0 ∧ gone = (veat l k).num ∧ x = -1)) :
    Plays l (chg l k x) held gone := by
  have hnp := num_pos hv hk
  refine ⟨chg_ver hv hk h0, fun n hn => ?_, fun v h1 h2 => chg_doc (ver_nl hv) hk h1 h2, ⟨fun h => absurd h (chg_len hk), fun _ => by rw [chg_last hk]; exact Int.le_refl _⟩, ?_⟩
  · rw [hv_chg (ver_nl hv) hk]
    rcases hx with ⟨rfl, rfl, rfl⟩ | ⟨rfl, rfl, rfl⟩
    · rw [if_neg (show ¬ n = 0 by omega)]; omega
    · rw [if_neg (show ¬ n = 0 by omega)]; split <;> omega
  · rcases hx with ⟨rfl, rfl, rfl⟩ | ⟨rfl, rfl, rfl⟩
    · exact ⟨.inr rfl, fun _ => ⟨_, veat_mem hk, rfl⟩, fun h => absurd rfl h⟩
    · exact ⟨.inl rfl, fun h => absurd rfl h, fun _ => ⟨_, veat_mem hk, rfl⟩⟩
theorem plays_push {l : List Ve} {d : Do} (hv : verB l = true) (hd : docB d = true) (h50 : (stayL l).length ≠ 50) (hn : ¬ 1000000 < nextN l) : Plays l (stayL l ++ [⟨nextN l, 0, d⟩]) 0 0 where
  ver := push_ver (by decide) hv hd h50 hn
  holds n h := by
    rw [if_neg (by omega), hv_app (fun v hv e => by rw [List.mem_singleton] at hv; rw [hv]), hv_stay]
    omega
  docs v h1 h2 := by
    rw [hv_app (fun v hv e => by rw [List.mem_singleton] at hv; rw [hv]), hv_stay, hv_mem (ver_nl hv) h1] at h2
    obtain ⟨r, e, hr⟩ := stay_split l
    rw [e] at h1
    rcases List.mem_append.1 h1 with h | h
    · exact ⟨v, List.mem_append_left _ h, rfl, rfl⟩
    · exact absurd (hr v h) h2
  last := by
    refine ⟨fun h => by simp at h, fun h => ?_⟩
    rw [List.length_append, List.length_singleton, Nat.add_sub_cancel, veat_last]
    have := next_gt hv (i := l.length - 1) (by omega)
    show _ ≤ nextN l
    omega
  some := ⟨.inl rfl, fun h => absurd rfl h, fun h => absurd rfl h⟩
theorem docs_ok {l : List Ve} (hv : verB l = true) {v : Ve} (h : v ∈ l) : docB v.doc = true := by
  obtain ⟨k, hk, rfl⟩ := mem_veat h
  exact (vok_true.1 ((ver_true.1 hv).2 k hk)).2
theorem play_plays {l : List Ve} {a b : Int} (hv : verB l = true) (ha : 0 ≤ a) (hb : 0 ≤ b) : Plays l (playR l a b).1 (playR l a b).2.1 (playR l a b).2.2 := by
  unfold playR
  split
  · split
    · rename_i h0 h1
      have hd : docB (docC (b.tmod 101)) = true := docC_ok (class_ok hb)
      unfold pushR at h1 ⊢
      rw [if_neg (fun h => h ⟨hv, hd⟩)] at h1 ⊢
      split at h1
      · cases h1
      · rename_i h2
        rw [if_neg h2]
        exact plays_push hv hd (fun h => h2 (.inl h)) (fun h => h2 (.inr h))
    · exact plays_none hv
  · split
    · split
      · rename_i h1
        unfold holdR at h1 ⊢
        rw [hv, if_neg (by simp)] at h1 ⊢
        split at h1
        · cases h1
        · rename_i h2
          rw [if_neg h2]
          split at h1
          · cases h1
          · rename_i h3
            rw [if_neg h3]
            have hk : l.length - 1 < l.length := by omega
            have h4 := (vok_true.1 ((ver_true.1 hv).2 _ hk)).1.2.2.1
            exact plays_chg hv hk (by omega) (.inl ⟨rfl, rfl, rfl⟩)
      · exact plays_none hv
    · split
      · exact plays_none hv
      · split
        · rename_i h0 h1 hl h2
          obtain ⟨k, hk, hkl⟩ := mod_ix hb hl
          rw [hk, Int.toNat_natCast] at h2 ⊢
          have hix : vix l (veat l k).num = (k : Int) := by
            rcases vix_cases l (veat l k).num with ⟨i, h1, h3, _, h4⟩ | ⟨h1, _⟩
            · rcases Nat.lt_trichotomy i k with h | rfl | h
              · have := ver_sorted hv i k h hkl; omega
              · exact h4
              · have := ver_sorted hv k i h h1; omega
            · exact absurd rfl (h1 k hkl)
          unfold letR at h2 ⊢
          rw [hv, if_neg (by simp), hix, if_neg (by omega), Int.toNat_natCast] at h2 ⊢
          split at h2
          · cases h2
          · rename_i h3
            rw [if_neg h3]
            have h4 := (vok_true.1 ((ver_true.1 hv).2 k hkl)).1.2.2.1
            exact plays_chg hv hkl (by omega) (.inr ⟨rfl, rfl, rfl⟩)
        · exact plays_none hv
/-- What is read of a version that is there. -/
theorem doc_of {l : List Ve} {v : Ve} (hv : verB l = true) (h : v ∈ l) : docR l v.num = (v.doc, 0) := by
  obtain ⟨k, hk, rfl⟩ := mem_veat h
  have hix : vix l (veat l k).num = (k : Int) := by
    rcases vix_cases l (veat l k).num with ⟨i, h1, h3, _, h4⟩ | ⟨h1, _⟩
    · rcases Nat.lt_trichotomy i k with h | rfl | h
      · have := ver_sorted hv i k h hk; omega
      · exact h4
      · have := ver_sorted hv k i h h1; omega
    · exact absurd rfl (h1 k hk)
  unfold docR
  rw [hv, hix, if_neg (by simp), if_neg (by omega), Int.toNat_natCast]
/-! ### Calls -/
def crow (c : Int × Int) : List D := [.int .u8 c.1, .int .u8 c.2]
def caat (l : List (Int × Int)) (i : Nat) : Int × Int := l.getD i (0, 0)
theorem rowAt_ca {l : List (Int × Int)} {i : Nat} (h : (i : Int) < (l.length : Int)) : rowAt (l.map crow) i = crow (caat l i) := rowAt_map crow _ h
theorem caat_ok {l : List (Int × Int)} (h : okRows (l.map crow)) (i : Nat) : 0 ≤ (caat l i).1 ∧ 0 ≤ (caat l i).2 := by
  unfold caat
  rw [List.getD_eq_getElem?_getD]
  rcases Nat.lt_or_ge i l.length with hi | hi
  · rw [List.getElem?_eq_getElem hi]
    have := (okRows_map crow l).1 h _ (List.getElem_mem hi)
    simp only [crow, okAll, D.ok, and_true, inR_u8'] at this
    exact ⟨this.1.1, this.2.1⟩
  · rw [List.getElem?_eq_none hi]
    decide
end Go.Proofs.YtjjkgeeafjagkaaGreat
