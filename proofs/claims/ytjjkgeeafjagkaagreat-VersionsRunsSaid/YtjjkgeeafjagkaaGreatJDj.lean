/- The law of runs in plain data: how often each number is held, told by a map. -/
import Derived.Test.YtjjkgeeafjagkaaGreatJDi
namespace Go.Proofs.YtjjkgeeafjagkaaGreat
open Go Go.RowKit
set_option linter.unusedSimpArgs false
set_option linter.unusedVariables false
/-! ### Maps of whole numbers to whole numbers -/
def mE (es : List (Int × Int)) : List (D × D) := es.map fun e => (.int .i64 e.1, .int .i64 e.2)
def mz : List (Int × Int) → Int → Int
  | [], _ => 0
  | e :: es, n => if n = e.1 then e.2 else mz es n
def kn (es : List (Int × Int)) (n : Int) : Bool := decide (n ∈ es.map Prod.fst)
def mzo : List (Int × Int) → Int → Option D
  | [], _ => none
  | e :: es, n => if n = e.1 then some (.int .i64 e.2) else mzo es n
def mzp : List (Int × Int) → Int → Int → List (Int × Int)
  | [], n, x => [(n, x)]
  | e :: es, n, x => if n = e.1 then (n, x) :: es else e :: mzp es n x
theorem mE_get (n : Int) : ∀ es, mget (.int .i64 n) (mE es) = some (mzo es n)
  | [] => rfl
  | e :: es => by
    have ih := mE_get n es
    unfold mE at ih ⊢
    simp only [List.map_cons, mget, keqD, if_true]
    unfold mzo
    by_cases h : n = e.1
    · simp [h]
    · simp [h, ih]
theorem mE_look (n : Int) : ∀ es, lookD false (.int .i64 0) (mzo es n) = .int .i64 (mz es n)
  | [] => rfl
  | e :: es => by
    unfold mzo mz
    split
    · rfl
    · exact mE_look n es
theorem mE_lookK (n : Int) : ∀ es, lookD true (.int .i64 0) (mzo es n) = .tup [.int .i64 (mz es n), .bool (kn es n)]
  | [] => rfl
  | e :: es => by
    have ih := mE_lookK n es
    unfold mzo mz kn
    unfold kn at ih
    by_cases h : n = e.1
    · rw [if_pos h, if_pos h, lookD_s]; simp [h]
    · rw [if_neg h, if_neg h, ih]; simp [h]
theorem mE_put (n x : Int) : ∀ es, mput (.int .i64 n) (.int .i64 x) (mE es) = some (mE (mzp es n x))
  | [] => rfl
  | e :: es => by
    have ih := mE_put n x es
    unfold mE at ih ⊢
    simp only [List.map_cons, mput, keqD, if_true]
    unfold mzp
    by_cases h : n = e.1
    · simp [h]
    · simp only [h, decide_false, ih, Option.map_some, if_false, List.map_cons]
theorem mz_put (n x m : Int) : ∀ es, mz (mzp es n x) m = if m = n then x else mz es m
  | [] => rfl
  | e :: es => by
    have ih := mz_put n x m es
    unfold mzp
    split
    · rename_i h
      rw [mz, mz]
      show (if m = n then x else _) = _
      split
      · rfl
      · rename_i h2; rw [if_neg (by omega)]
    · rename_i h
      rw [mz, mz, ih]
      split
      · rename_i h2; rw [if_neg (by omega)]
      · rfl
theorem key_put (n x m : Int) : ∀ es : List (Int × Int), m ∈ (mzp es n x).map Prod.fst ↔ m = n ∨ m ∈ es.map Prod.fst
  | [] => by simp [mzp]
  | e :: es => by
    have ih := key_put n x m es
    unfold mzp
    split
    · rename_i h; simp only [List.map_cons, List.mem_cons]; rw [← h]; simp
    · simp only [List.map_cons, List.mem_cons, ih]
      constructor
      · rintro (h | h | h)
        · exact .inr (.inl h)
        · exact .inl h
        · exact .inr (.inr h)
      · rintro (h | h | h)
        · exact .inr (.inl h)
        · exact .inl h
        · exact .inr (.inr h)
def KN (es : List (Int × Int)) : Prop := (es.map Prod.fst).Nodup
theorem kn_put (n x : Int) : ∀ es, KN es → KN (mzp es n x)
  | [], _ => by simp [KN, mzp]
  | e :: es, h => by
    have hh := h
    unfold KN at h
    simp only [List.map_cons, List.nodup_cons] at h
    unfold mzp
    split
    · rename_i e1
      unfold KN
      simp only [List.map_cons, List.nodup_cons]
      rw [e1]; exact h
    · rename_i e1
      unfold KN
      simp only [List.map_cons, List.nodup_cons]
      refine ⟨fun hm => ?_, kn_put n x es h.2⟩
      rcases (key_put n x e.1 es).1 hm with h2 | h2
      · exact e1 h2.symm
      · exact h.1 h2
theorem mz_mem : ∀ {es : List (Int × Int)} {e : Int × Int}, KN es → e ∈ es → mz es e.1 = e.2
  | [], _, _, h => by cases h
  | x :: es, e, hk, h => by
    unfold KN at hk
    simp only [List.map_cons, List.nodup_cons] at hk
    unfold mz
    rcases List.mem_cons.1 h with rfl | h
    · rw [if_pos rfl]
    · rw [if_neg fun e1 => hk.1 (by rw [← e1]; exact List.mem_map_of_mem h)]
      exact mz_mem hk.2 h
theorem mz_key : ∀ {es : List (Int × Int)} {n : Int}, n ∈ es.map Prod.fst → (n, mz es n) ∈ es
  | [], _, h => by simp at h
  | x :: es, n, h => by
    unfold mz
    split
    · rename_i e; rw [e]; simp
    · rename_i e
      simp only [List.map_cons, List.mem_cons] at h
      exact List.mem_cons_of_mem _ (mz_key (h.resolve_left e))
theorem mz_ne {es : List (Int × Int)} {n : Int} (h : mz es n ≠ 0) : n ∈ es.map Prod.fst := by
  induction es with
  | nil => exact absurd rfl h
  | cons x es ih =>
    unfold mz at h
    split at h
    · rename_i e; simp [e]
    · simp only [List.map_cons, List.mem_cons]; exact .inr (ih h)
/-! ### The map of a list -/
def esI (l : List Ve) : Nat → List (Int × Int)
  | 0 => []
  | i + 1 => mzp (esI l i) (veat l i).num (veat l i).holds
def nwI (l : List Ve) (i : Nat) : Int := if i = 0 then 0 else (veat l (i - 1)).num
def newL (l : List Ve) : Int := if l.length = 0 then 0 else (veat l (l.length - 1)).num
theorem nwI_len (l : List Ve) : nwI l l.length = newL l := rfl
theorem esI_kn (l : List Ve) : ∀ i, KN (esI l i)
  | 0 => by simp [KN, esI]
  | i + 1 => kn_put _ _ _ (esI_kn l i)
theorem hv_snoc : ∀ {a : List Ve} {v : Ve} {n : Int}, (∀ u ∈ a, u.num < v.num) → hvL (a ++ [v]) n = if n = v.num then v.holds else hvL a n
  | [], v, n, _ => by
    show (if v.num = n then v.holds else 0) = _
    split
    · rename_i h; rw [if_pos h.symm]
    · rename_i h; rw [if_neg (fun e => h e.symm)]; rfl
  | u :: a, v, n, h => by
    have h0 := h u (by simp)
    show (if u.num = n then u.holds else hvL (a ++ [v]) n) = if n = v.num then v.holds else (if u.num = n then u.holds else hvL a n)
    rw [hv_snoc fun x hx => h x (List.mem_cons_of_mem _ hx)]
    split
    · rw [if_neg (by omega)]
    · rfl
theorem take_snoc {l : List Ve} {i : Nat} (h : i < l.length) : l.take (i + 1) = l.take i ++ [veat l i] := by
  rw [List.take_add_one, List.getElem?_eq_getElem h]
  unfold veat
  rw [List.getD_eq_getElem?_getD, List.getElem?_eq_getElem h]
  rfl
theorem esI_mz {l : List Ve} (hv : verB l = true) (n : Int) : ∀ i, i ≤ l.length → mz (esI l i) n = hvL (l.take i) n
  | 0, _ => by simp [esI, mz, hvL]
  | i + 1, h => by
    rw [take_snoc (by omega), hv_snoc, esI, mz_put, esI_mz hv n i (by omega)]
    intro u hu
    obtain ⟨j, hj, rfl⟩ := mem_veat hu
    rw [List.length_take] at hj
    rw [veat_take (by omega)]
    exact ver_sorted hv j i (by omega) (by omega)
/-- What is known of the map all along. -/
structure RunI (m : List Ve) (es : List (Int × Int)) (j : Nat) : Prop where
  ver : verB m = true
  same : ∀ n, 0 < n → mz es n = hvL m n
  zero : -(j : Int) ≤ mz es 0 ∧ mz es 0 ≤ j
  keys : KN es
theorem run_start {l : List Ve} (hv : verB l = true) : RunI l (esI l l.length) 0 where
  ver := hv
  same n _ := by rw [esI_mz hv n _ (Nat.le_refl _), List.take_of_length_le (Nat.le_refl _)]
  zero := by
    rw [esI_mz hv 0 _ (Nat.le_refl _), List.take_of_length_le (Nat.le_refl _), hv_none fun v hm e => by
      obtain ⟨k, hk, rfl⟩ := mem_veat hm
      have := num_pos hv hk
      omega]
    omega
  keys := esI_kn l _
theorem run_bound {m : List Ve} {es : List (Int × Int)} {j : Nat} (h : RunI m es j) {n : Int} (hn : n ≠ 0 → ∃ v ∈ m, v.num = n) : -(j : Int) ≤ mz es n ∧ mz es n ≤ 1000 + j := by
  rcases Classical.em (n = 0) with rfl | h0
  · have := h.zero; omega
  · obtain ⟨v, hv, rfl⟩ := hn h0
    obtain ⟨k, hk, rfl⟩ := mem_veat hv
    have := num_pos h.ver hk
    rw [h.same _ (by omega), hv_mem (ver_nl h.ver) hv]
    have := (vok_true.1 ((ver_true.1 h.ver).2 k hk)).1.2.2.1
    omega
theorem run_step {m p : List Ve} {es : List (Int × Int)} {j : Nat} {held gone : Int} (h : RunI m es j) (hp : Plays m p held gone) :
    RunI p (mzp (mzp es held (mz es held + 1)) gone (mz (mzp es held (mz es held + 1)) gone - 1)) (j + 1) where
  ver := hp.ver
  same n hn := by
    rw [hp.holds n hn, mz_put, mz_put, mz_put, ← h.same n hn]
    split
    · rename_i e; subst e
      split
      · rename_i e; rw [e]
      · omega
    · split
      · rename_i e; rw [e]; omega
      · omega
  zero := by
    have hz := h.zero
    rw [mz_put, mz_put, mz_put]
    split
    · rename_i e; rw [← e]
      split
      · rename_i e; rw [← e]; omega
      · omega
    · split
      · rename_i e; rw [← e]; omega
      · omega
  keys := kn_put _ _ _ (kn_put _ _ _ h.keys)
theorem new_step {m p : List Ve} {held gone : Int} (hm : verB m = true) (hp : Plays m p held gone) (hl : p.length ≠ 0) : mxI (newL m) (veat p (p.length - 1)).num = newL p := by
  unfold newL mxI
  rw [if_neg hl]
  by_cases h : m.length = 0
  · rw [if_pos h]
    have := num_pos hp.ver (k := p.length - 1) (by omega)
    rw [if_pos (by omega)]
  · rw [if_neg h]
    have := hp.last.2 (by omega)
    split <;> omega
theorem new_none {m p : List Ve} {held gone : Int} (hp : Plays m p held gone) (hl : p.length = 0) : newL m = newL p := by
  unfold newL
  rw [if_pos hl, if_pos (hp.last.1 hl)]
/-! ### The count -/
def qual (nw : Int) (e : Int × Int) : Bool := decide (0 < e.1) && (decide (0 < e.2) || decide (e.1 = nw))
def mpat (es : List (Int × Int)) (i : Nat) : Int × Int := es.getD i (0, 0)
def cntP (es : List (Int × Int)) (nw : Int) (pos : List Nat) : Nat := pos.countP fun i => qual nw (mpat es i)
theorem cntP_snoc (es : List (Int × Int)) (nw : Int) (pos : List Nat) (i : Nat) : cntP es nw (pos ++ [i]) = cntP es nw pos + if qual nw (mpat es i) = true then 1 else 0 := by
  unfold cntP
  rw [List.countP_append, List.countP_singleton]
theorem countP_range {α : Type} (p : α → Bool) (d : α) : ∀ es : List α, (List.range es.length).countP (fun i => p (es.getD i d)) = es.countP p
  | [] => rfl
  | e :: es => by
    rw [List.length_cons, List.range_succ_eq_map, List.countP_cons, List.countP_map, List.countP_cons, ← countP_range p d es]
    rfl
theorem cntP_all {es : List (Int × Int)} {nw : Int} {pos : List Nat} (h1 : pos.Nodup) (h2 : ∀ i ∈ pos, i < es.length) (h3 : ∀ i, i < es.length → i ∈ pos) : cntP es nw pos = es.countP (qual nw) := by
  have hp : pos.Perm (List.range es.length) := (List.perm_ext_iff_of_nodup h1 List.nodup_range).2 fun i => ⟨fun h => List.mem_range.2 (h2 i h), fun h => h3 i (List.mem_range.1 h)⟩
  unfold cntP
  rw [hp.countP_eq]
  exact countP_range (qual nw) (0, 0) es
theorem mpat_E {es : List (Int × Int)} {i : Nat} (h : i < es.length) : (mE es).getD i (.top, .top) = (.int .i64 (mpat es i).1, .int .i64 (mpat es i).2) := by
  unfold mE mpat
  simp [List.getD_eq_getElem?_getD, h]
theorem mE_len (es : List (Int × Int)) : (mE es).length = es.length := by simp [mE]
theorem nums_nodup {m : List Ve} (hv : verB m = true) : (m.map (·.num)).Nodup := by
  have := ver_nl hv
  unfold NL at this
  unfold List.Nodup
  rw [List.pairwise_map]
  exact this.imp fun h => by omega
theorem filt_nodup {es : List (Int × Int)} (h : KN es) (q : Int × Int → Bool) : ((es.filter q).map Prod.fst).Nodup := by
  unfold KN at h
  exact h.sublist (List.filter_sublist.map _)
theorem new_mem {m : List Ve} (h : m.length ≠ 0) : ∃ v ∈ m, v.num = newL m := ⟨veat m (m.length - 1), veat_mem (by omega), by unfold newL; rw [if_neg h]⟩
theorem new_other {m : List Ve} (hv : verB m = true) {v : Ve} (h : v ∈ m) (hn : v.num ≠ newL m) : 0 < v.holds := by
  obtain ⟨k, hk, rfl⟩ := mem_veat h
  have hm : m.length ≠ 0 := by omega
  unfold newL at hn
  rw [if_neg hm] at hn
  have h1 : k ≠ m.length - 1 := fun e => hn (by rw [e])
  exact ver_held hv (by omega)
theorem mem_pos {m : List Ve} (hv : verB m = true) {v : Ve} (h : v ∈ m) : 0 < v.num := by
  obtain ⟨k, hk, rfl⟩ := mem_veat h
  have := num_pos hv hk
  omega
theorem qual_true {nw : Int} {e : Int × Int} : qual nw e = true ↔ 0 < e.1 ∧ (0 < e.2 ∨ e.1 = nw) := by
  unfold qual
  simp only [Bool.and_eq_true, Bool.or_eq_true, decide_eq_true_eq]
/-- Those that are there are those that count. -/
theorem qual_num {m : List Ve} {es : List (Int × Int)} (hv : verB m = true) (hs : ∀ n, 0 < n → mz es n = hvL m n) (hk : KN es) {n : Int} (h : n ∈ (es.filter (qual (newL m))).map Prod.fst) : n ∈ m.map (·.num) := by
  obtain ⟨e, he, rfl⟩ := List.mem_map.1 h
  rw [List.mem_filter, qual_true] at he
  obtain ⟨h1, h2, h3⟩ := he
  have hz := mz_mem hk h1
  rw [hs _ h2] at hz
  rcases h3 with h3 | h3
  · obtain ⟨v, hv1, hv2⟩ := hv_in (l := m) (n := e.1) (by omega)
    exact List.mem_map.2 ⟨v, hv1, hv2⟩
  · have hm : m.length ≠ 0 := by
      intro e0
      unfold newL at h3
      rw [if_pos e0] at h3
      omega
    obtain ⟨v, hv1, hv2⟩ := new_mem hm
    exact List.mem_map.2 ⟨v, hv1, hv2.trans h3.symm⟩
theorem num_qual {m : List Ve} {es : List (Int × Int)} (hv : verB m = true) (hs : ∀ n, 0 < n → mz es n = hvL m n) {v : Ve} (hm : v ∈ m) (hh : 0 < v.holds ∨ (v.num = newL m ∧ newL m ∈ es.map Prod.fst)) : v.num ∈ (es.filter (qual (newL m))).map Prod.fst := by
  have hp := mem_pos hv hm
  have hz : mz es v.num = v.holds := by rw [hs _ hp, hv_mem (ver_nl hv) hm]
  have hk : v.num ∈ es.map Prod.fst := by
    rcases hh with h | h
    · exact mz_ne (by omega)
    · rw [h.1]; exact h.2
  refine List.mem_map.2 ⟨(v.num, mz es v.num), ?_, rfl⟩
  rw [List.mem_filter, qual_true]
  refine ⟨mz_key hk, hp, ?_⟩
  rcases hh with h | h
  · left; show 0 < mz es v.num; omega
  · exact .inr h.1
theorem count_known {m : List Ve} {es : List (Int × Int)} (hv : verB m = true) (hs : ∀ n, 0 < n → mz es n = hvL m n) (hk : KN es) (h : m.length ≠ 0 → newL m ∈ es.map Prod.fst) : es.countP (qual (newL m)) = m.length := by
  have hp : ((es.filter (qual (newL m))).map Prod.fst).Perm (m.map (·.num)) := by
    refine (List.perm_ext_iff_of_nodup (filt_nodup hk _) (nums_nodup hv)).2 fun n => ⟨qual_num hv hs hk, fun hn => ?_⟩
    obtain ⟨v, hm, rfl⟩ := List.mem_map.1 hn
    have hl : m.length ≠ 0 := by intro e; rw [List.length_eq_zero_iff] at e; rw [e] at hm; cases hm
    rcases Classical.em (v.num = newL m) with e | e
    · exact num_qual hv hs hm (.inr ⟨e, h hl⟩)
    · exact num_qual hv hs hm (.inl (new_other hv hm e))
  have := hp.length_eq
  rw [List.length_map, List.length_map] at this
  rw [List.countP_eq_length_filter, this]
theorem count_new {m : List Ve} {es : List (Int × Int)} (hv : verB m = true) (hs : ∀ n, 0 < n → mz es n = hvL m n) (hk : KN es) (hl : m.length ≠ 0) (h : newL m ∉ es.map Prod.fst) : es.countP (qual (newL m)) + 1 = m.length := by
  have hp : (newL m :: (es.filter (qual (newL m))).map Prod.fst).Perm (m.map (·.num)) := by
    refine (List.perm_ext_iff_of_nodup (List.nodup_cons.2 ⟨fun hm => ?_, filt_nodup hk _⟩) (nums_nodup hv)).2 fun n => ⟨fun hn => ?_, fun hn => ?_⟩
    · obtain ⟨e, he, h2⟩ := List.mem_map.1 hm
      exact h (h2 ▸ List.mem_map_of_mem (List.mem_filter.1 he).1)
    · rcases List.mem_cons.1 hn with rfl | hn
      · obtain ⟨v, hm, e⟩ := new_mem hl
        exact List.mem_map.2 ⟨v, hm, e⟩
      · exact qual_num hv hs hk hn
    · obtain ⟨v, hm, rfl⟩ := List.mem_map.1 hn
      rcases Classical.em (v.num = newL m) with e | e
      · rw [e]; simp
      · exact List.mem_cons_of_mem _ (num_qual hv hs hm (.inl (new_other hv hm e)))
  have := hp.length_eq
  rw [List.length_cons, List.length_map, List.length_map] at this
  rw [List.countP_eq_length_filter, this]
/-- Zero is no number: what stands for it is of no account. -/
theorem run_zero' {m : List Ve} {es : List (Int × Int)} {j : Nat} (h : RunI m es j) : (∀ n, 0 < n → mz (mzp es 0 0) n = hvL m n) ∧ KN (mzp es 0 0) :=
  ⟨fun n hn => by rw [mz_put, if_neg (by omega), h.same n hn], kn_put _ _ _ h.keys⟩
theorem new_unknown {m : List Ve} {es : List (Int × Int)} (h : newL m ∉ es.map Prod.fst) : mz es (newL m) = 0 := by
  rcases Classical.em (mz es (newL m) = 0) with e | e
  · exact e
  · exact absurd (mz_ne e) h
/-- How many places are left. -/
def leftN (n : Nat) (pos : List Nat) : Nat := ((List.range n).filter fun i => decide (i ∉ pos)).length
theorem filter_lt' {α : Type} {p q : α → Bool} : ∀ (l : List α), (∀ x ∈ l, p x = true → q x = true) → (∃ x ∈ l, q x = true ∧ p x = false) → (l.filter p).length < (l.filter q).length
  | [], _, h => by obtain ⟨_, h, _⟩ := h; cases h
  | x :: l, h, ⟨y, hy, hq, hp⟩ => by
    have hle : (l.filter p).length ≤ (l.filter q).length := by
      rw [← List.countP_eq_length_filter, ← List.countP_eq_length_filter]
      exact List.countP_mono_left fun z hz => h z (List.mem_cons_of_mem _ hz)
    rcases List.mem_cons.1 hy with rfl | hy
    · simp [hq, hp]; omega
    · have ih := filter_lt' l (fun z hz => h z (List.mem_cons_of_mem _ hz)) ⟨y, hy, hq, hp⟩
      have h0 := h x (by simp)
      cases hpx : p x
      · rw [List.filter_cons_of_neg (by simp [hpx])]
        cases hqx : q x
        · rw [List.filter_cons_of_neg (by simp [hqx])]; exact ih
        · rw [List.filter_cons_of_pos hqx]; simp; omega
      · rw [List.filter_cons_of_pos hpx, List.filter_cons_of_pos (h0 hpx)]; simp; omega
theorem leftN_lt {n : Nat} {pos : List Nat} {i : Nat} (hi : i < n) (hp : i ∉ pos) : leftN n (pos ++ [i]) < leftN n pos := by
  refine filter_lt' _ (fun x _ h => ?_) ⟨i, List.mem_range.2 hi, by simpa using hp, by simp⟩
  simp only [List.mem_append, not_or, decide_eq_true_eq] at h ⊢
  exact h.1
end Go.Proofs.YtjjkgeeafjagkaaGreat
