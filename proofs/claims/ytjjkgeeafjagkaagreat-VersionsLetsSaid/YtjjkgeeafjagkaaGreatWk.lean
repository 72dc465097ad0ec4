/- What the reference's functions of versions come to. -/
import Derived.Test.YtjjkgeeafjagkaaGreatWc
namespace Go.Proofs.YtjjkgeeafjagkaaGreat
open Go Go.RowKit
set_option linter.unusedSimpArgs false
set_option linter.unusedVariables false
def hpos (v : Ve) : Bool := decide (0 < v.holds)
theorem take_v {l : List Ve} {i : Nat} (h : i < l.length) : l.take (i + 1) = l.take i ++ [veat l i] := by
  rw [List.take_add_one, List.getElem?_eq_getElem h]
  unfold veat
  rw [List.getD_eq_getElem?_getD, List.getElem?_eq_getElem h]
  rfl
/-- What is held, among the first ones. -/
def heldI (l : List Ve) (i : Nat) : List Ve := (l.take i).filter hpos
theorem heldI_t {l : List Ve} {i : Nat} (h : i < l.length) (hp : 0 < (veat l i).holds) : heldI l (i + 1) = heldI l i ++ [veat l i] := by
  unfold heldI
  rw [take_v h, List.filter_append, List.filter_cons, if_pos (by unfold hpos; simpa using hp)]
  rfl
theorem heldI_f {l : List Ve} {i : Nat} (h : i < l.length) (hp : ¬ 0 < (veat l i).holds) : heldI l (i + 1) = heldI l i := by
  unfold heldI
  rw [take_v h, List.filter_append, List.filter_cons, if_neg (by unfold hpos; simpa using hp), List.filter_nil, List.append_nil]
theorem heldI_len (l : List Ve) (i : Nat) : (heldI l i).length ≤ l.length := Nat.le_trans (List.length_filter_le _ _) (by rw [List.length_take]; omega)
def nxtI (l : List Ve) (i : Nat) : Int := if 0 < i then (veat l (i - 1)).num + 1 else 1
theorem ver_held {l : List Ve} (hv : verB l = true) {i : Nat} (hi : i + 1 < l.length) : 0 < (veat l i).holds := by
  have := (vok_true.1 ((ver_true.1 hv).2 i (by omega))).1
  omega
theorem heldI_all {l : List Ve} (hv : verB l = true) : ∀ i, i + 1 ≤ l.length → heldI l i = l.take i
  | 0, _ => rfl
  | i + 1, h => by rw [heldI_t (by omega) (ver_held hv (by omega)), heldI_all hv i (by omega), take_v (by omega)]
theorem held_stay {l : List Ve} (hv : verB l = true) : heldI l l.length = stayL l := by
  unfold stayL
  rcases Nat.eq_zero_or_pos l.length with h0 | h0
  · rw [if_neg (by omega), h0]
    have : l = [] := List.eq_nil_of_length_eq_zero h0
    subst this; rfl
  · obtain ⟨k, hk⟩ : ∃ k, l.length = k + 1 := ⟨l.length - 1, by omega⟩
    have hvk := (vok_true.1 ((ver_true.1 hv).2 k (by omega))).1
    rw [hk, Nat.add_sub_cancel]
    by_cases h : 0 < (veat l k).holds
    · rw [heldI_t (by omega) h, heldI_all hv k (by omega), if_neg (by omega), ← take_v (by omega), ← hk, List.take_length]
    · rw [heldI_f (by omega) h, heldI_all hv k (by omega), if_pos (by omega)]
theorem nxt_next (l : List Ve) : nxtI l l.length = nextN l := rfl

/-- The loop of the reference's Let. -/
def decV (l : List Ve) (k i : Nat) : Ve := if i = k then held (veat l i) (-1) else veat l i
def lftI (l : List Ve) (k : Nat) : Nat → List Ve
  | 0 => []
  | i + 1 => lftI l k i ++ (if 0 < (decV l k i).holds ∨ i + 1 = l.length then [decV l k i] else [])
theorem lftI_len (l : List Ve) (k : Nat) : ∀ i, (lftI l k i).length ≤ i
  | 0 => Nat.le_refl _
  | i + 1 => by
    have := lftI_len l k i
    simp only [lftI, List.length_append]
    split <;> simp <;> omega
theorem lftI_before {l : List Ve} (hv : verB l = true) {k : Nat} (hk : k < l.length) : ∀ i, i ≤ k → lftI l k i = l.take i
  | 0, _ => rfl
  | i + 1, h => by
    have e : decV l k i = veat l i := by unfold decV; rw [if_neg (by omega)]
    rw [lftI, lftI_before hv hk i (by omega), e, if_pos (.inl (ver_held hv (by omega))), take_v (by omega)]
theorem lftI_behind {l : List Ve} (hv : verB l = true) {k : Nat} (hk : k < l.length) : ∀ j, k + 1 + j ≤ l.length → lftI l k (k + 1 + j) = lftI l k (k + 1) ++ (l.drop (k + 1)).take j
  | 0, _ => by simp
  | j + 1, h => by
    have e : decV l k (k + 1 + j) = veat l (k + 1 + j) := by unfold decV; rw [if_neg (by omega)]
    have h2 : 0 < (veat l (k + 1 + j)).holds ∨ k + 1 + j + 1 = l.length := by
      rcases Nat.lt_or_ge (k + 1 + j + 1) l.length with h3 | h3
      · exact .inl (ver_held hv h3)
      · exact .inr (by omega)
    rw [← Nat.add_assoc, lftI, lftI_behind hv hk j (by omega), e, if_pos h2, List.append_assoc]
    congr 1
    rw [List.take_add_one, List.getElem?_drop, List.getElem?_eq_getElem (by omega)]
    unfold veat
    rw [List.getD_eq_getElem?_getD, List.getElem?_eq_getElem (by omega)]
    rfl
theorem let_chg {l : List Ve} (hv : verB l = true) {k : Nat} (hk : k < l.length) (h0 : (veat l k).holds ≠ 0) : lftI l k l.length = chg l k (-1) := by
  have hvk := (vok_true.1 ((ver_true.1 hv).2 k hk)).1
  obtain ⟨j, hj⟩ : ∃ j, l.length = k + 1 + j := ⟨l.length - (k + 1), by omega⟩
  have e : decV l k k = held (veat l k) (-1) := by unfold decV; rw [if_pos rfl]
  have hd : (l.drop (k + 1)).take j = l.drop (k + 1) := List.take_of_length_le (by rw [List.length_drop]; omega)
  rw [hj, lftI_behind hv hk j (by omega), hd, lftI, lftI_before hv hk k (Nat.le_refl _), e]
  unfold chg
  have eh : (held (veat l k) (-1)).holds = (veat l k).holds + -1 := rfl
  by_cases h : (veat l k).holds + -1 = 0 ∧ k + 1 < l.length
  · rw [if_neg (by rw [eh]; omega), if_pos h, List.append_nil, List.eraseIdx_eq_take_drop_succ]
  · rw [if_pos (by rw [eh]; omega), if_neg h, List.set_eq_take_append_cons_drop, if_pos hk, List.append_assoc]
    rfl
end Go.Proofs.YtjjkgeeafjagkaaGreat
/- More rules: append to nothing, for rows that are written to. -/
namespace Go.Proofs.YtjjkgeeafjagkaaGreat
open Go Go.RowKit
section
variable {P : Program} {σ : Store}
theorem nappM_nil {ts : Array TypeId} {T U V : TypeId} {g : Bool} {sz by_ sz0 : Nat} {z : List D} {new : List (List D)} {tk : Tok} {K : D → Store → Prop}
    (hT : ts[0]? = some T) (hV : ts[1]? = some V) (hV' : (sle P V).isSome = true) (hs : sle P T = some (U, g, sz)) (hy : eby P T = some by_) (hz : zc P U = some z)
    (hside : (z.length = sz ∧ 0 < sz ∧ 0 < by_) ∧ new.all (·.all D.isCell) = true ∧ new ≠ [] ∧ new.length * by_ ≤ capB)
    (hK : ∀ b c, b ∉ σ.keys → new.length ≤ c → K (.arr b sz new.length c) ((b, .arr sz new c) :: σ)) : nappM P σ ts (.sl sz0 [] .nil) (.sl sz new tk) K := by
  obtain ⟨⟨hz1, h0, hb0⟩, hc, hne, hfit⟩ := hside
  unfold nappM
  simp only [hT, Option.bind_some, hs, hy, rowsOf]
  exact ⟨⟨⟨z, hz, hz1⟩, ⟨V, hV, .inl hV'⟩, h0, hb0, by simp, hc⟩, ⟨.inl trivial, by simp, by simp, by simpa using hfit⟩, fun e => absurd e hne, fun _ b cap hb hl => by simpa using hK b cap hb (by simpa using hl)⟩
end
theorem ve_drop0 : ∀ {l : List Ve} {i : Nat}, i < l.length → List.drop (i * 6) (l.map verow).flatten = .int .i64 (veat l i).num :: .int .i64 (veat l i).holds :: verest l i
  | [], _, h => by simp at h
  | g :: gs, 0, _ => by simp [veat, verow, verest]
  | g :: gs, i + 1, h => by
    have := ve_drop0 (l := gs) (i := i) (by simpa using h)
    have e : (i + 1) * 6 = (i * 6) + 6 := by omega
    rw [e]
    simp only [List.map_cons, List.flatten_cons, verow, List.cons_append, List.nil_append, List.drop_succ_cons]
    simpa [veat, verest] using this
end Go.Proofs.YtjjkgeeafjagkaaGreat
/- Rows may be told with less. -/
namespace Go.Proofs.YtjjkgeeafjagkaaGreat
open Go Go.RowKit
theorem RCells.le {M : Mem} : ∀ {cs cs' : List D} {b o : Nat}, DsLe cs cs' → RCells M cs' b o → RCells M cs b o
  | [], _, _, _, _, _ => by simp only [RCells]
  | c :: cs, [], _, _, h, _ => by simp [DsLe] at h
  | c :: cs, c' :: cs', b, o, h, hr => by
    simp only [DsLe] at h
    simp only [RCells] at hr ⊢
    obtain ⟨⟨x, h1, h2⟩, h3⟩ := hr
    exact ⟨⟨x, h1, h.1 _ _ h2⟩, RCells.le h.2 h3⟩
theorem DsLe.len : ∀ {cs cs' : List D}, DsLe cs cs' → cs.length = cs'.length
  | [], [], _ => rfl
  | [], _ :: _, h => by simp [DsLe] at h
  | _ :: _, [], h => by simp [DsLe] at h
  | _ :: _, _ :: _, h => by simp only [DsLe] at h; simp [DsLe.len h.2]
def RowsLe : List (List D) → List (List D) → Prop
  | [], [] => True
  | r :: rs, r' :: rs' => DsLe r r' ∧ RowsLe rs rs'
  | _, _ => False
theorem RowsLe.len : ∀ {rs rs' : List (List D)}, RowsLe rs rs' → rs.length = rs'.length
  | [], [], _ => rfl
  | [], _ :: _, h => by simp [RowsLe] at h
  | _ :: _, [], h => by simp [RowsLe] at h
  | _ :: _, _ :: _, h => by simp only [RowsLe] at h; simp [RowsLe.len h.2]
theorem RRows.le {M : Mem} {sz : Nat} : ∀ {rs rs' : List (List D)} {b o : Nat}, RowsLe rs rs' → RRows M sz rs' b o → RRows M sz rs b o
  | [], _, _, _, _, _ => by simp only [RRows]
  | _ :: _, [], _, _, h, _ => by simp [RowsLe] at h
  | r :: rs, r' :: rs', b, o, h, hr => by
    simp only [RowsLe] at h
    simp only [RRows] at hr ⊢
    exact ⟨h.1.len.trans hr.1, RCells.le h.1 hr.2.1, RRows.le h.2 hr.2.2⟩
theorem DLe.rows {sz : Nat} {rs rs' : List (List D)} {t : Tok} (h : RowsLe rs rs') : DLe (.sl sz rs .no) (.sl sz rs' t) := by
  intro M v hr
  simp only [R] at hr ⊢
  obtain ⟨p, cap, h1, h2, h3, h4, h5⟩ := hr
  rw [← h.len] at h1 h2 h3
  refine ⟨p, cap, h1, h2, h3, fun hn => ?_, trivial⟩
  obtain ⟨b, o, e, hr⟩ := h4 (by intro e; have := h.len; rw [e] at this; exact hn (List.eq_nil_of_length_eq_zero this))
  exact ⟨b, o, e, RRows.le h hr⟩
def docC (c : Int) : Do := ⟨[⟨1, 0, 1, c, []⟩], [], [⟨[], []⟩], [⟨1, 1, []⟩, ⟨1, 1, []⟩, ⟨1, 1, []⟩, ⟨1, 1, []⟩]⟩
end Go.Proofs.YtjjkgeeafjagkaaGreat
/- The example of the law's head, in plain data. -/
namespace Go.Proofs.YtjjkgeeafjagkaaGreat
open Go Go.RowKit
set_option linter.unusedSimpArgs false
set_option linter.unusedVariables false
theorem docC_tree {c : Int} (h : 0 ≤ c ∧ c ≤ 100) : treB (docC c).nodes = true := by
  refine treB_all (by simp [docC]) rfl rfl ?_
  intro j hj
  have hj0 : j = 0 := by simp [docC] at hj; omega
  subst hj0
  rw [okAt_true]
  refine ⟨?_, rfl, fun h => absurd h (by omega), by rw [dpt_zero]; decide⟩
  show fmB ⟨1, 0, 1, c, []⟩ = true
  unfold fmB
  simp only [Bool.and_eq_true, decide_eq_true_eq]
  refine ⟨⟨by omega, ?_⟩, .inl trivial⟩
  unfold tv
  simp
theorem fok_nil : fok [] [] = true := by
  rw [fok_true]
  exact ⟨by simp, fun i hi => by simp at hi, fun i hi => by simp at hi⟩
theorem br_one : brB ⟨1, 1, []⟩ = true := by decide
theorem docC_ok {c : Int} (h : 0 ≤ c ∧ c ≤ 100) : docB (docC c) = true := by
  unfold docB
  rw [docC_tree h]
  have h1 : (docC c).fonts.all fokB = true := by simp [docC, fokB, fok_nil]
  have h2 : (docC c).breaks.all brB = true := by simp [docC, br_one]
  rw [h1, h2]
  simp [docC, rulesB]
theorem ver_nil : verB [] = true := by rw [ver_true]; exact ⟨by simp, fun i hi => by simp at hi⟩
theorem ver_one {n h c : Int} (hn : 1 ≤ n ∧ n ≤ 1000000) (hh : 0 ≤ h ∧ h ≤ 1000) (hc : 0 ≤ c ∧ c ≤ 100) : verB [⟨n, h, docC c⟩] = true := by
  rw [ver_true]
  refine ⟨by simp, fun i hi => ?_⟩
  have : i = 0 := by simp at hi; omega
  subst this
  rw [vok_true]
  exact ⟨⟨hn, fun h => absurd h (by omega), hh, fun _ => rfl⟩, docC_ok hc⟩
theorem ver_two : verB [⟨1, 1, docC 1⟩, ⟨2, 0, docC 2⟩] = true := by
  rw [ver_true]
  refine ⟨by simp, fun i hi => ?_⟩
  rw [vok_true]
  have : i = 0 ∨ i = 1 := by simp at hi; omega
  rcases this with rfl | rfl
  · exact ⟨⟨by decide, fun h => absurd h (by omega), by decide, fun h => absurd h (by decide)⟩, docC_ok (by decide)⟩
  · exact ⟨⟨by decide, fun _ => by decide, by decide, fun _ => rfl⟩, docC_ok (by decide)⟩
theorem ex_push1 : pushR [] (docC 1) = ([⟨1, 0, docC 1⟩], 0) := by
  unfold pushR
  rw [if_neg (fun h => h ⟨ver_nil, docC_ok (by decide)⟩), if_neg (by decide)]
  rfl
theorem ex_hold : holdR [⟨1, 0, docC 1⟩] = ([⟨1, 1, docC 1⟩], 1, 0) := by
  unfold holdR
  rw [ver_one (by decide) (by decide) (by decide), if_neg (by simp), if_neg (by simp), if_neg (by decide)]
  rfl
theorem ex_push2 : pushR [⟨1, 1, docC 1⟩] (docC 2) = ([⟨1, 1, docC 1⟩, ⟨2, 0, docC 2⟩], 0) := by
  unfold pushR
  have hs : stayL [⟨1, 1, docC 1⟩] = [⟨1, 1, docC 1⟩] := by unfold stayL; exact if_neg (fun h => absurd h.2 (by decide))
  have hn : nextN [⟨1, 1, docC 1⟩] = 2 := rfl
  rw [if_neg (fun h => h ⟨ver_one (by decide) (by decide) (by decide), docC_ok (by decide)⟩), hs, hn, if_neg (by simp)]
  rfl
theorem ex_vix (n : Int) : vix [⟨1, 1, docC 1⟩, ⟨2, 0, docC 2⟩] n = if n = 1 then 0 else if n = 2 then 1 else -1 := by
  unfold vix fixI
  by_cases h1 : n = 1
  · subst h1; rfl
  · by_cases h2 : n = 2
    · subst h2; rfl
    · have a1 : ¬ (1 : Int) = n := fun e => h1 e.symm
      have a2 : ¬ (2 : Int) = n := fun e => h2 e.symm
      simp [List.findIdx?_cons, h1, h2, a1, a2]
theorem ex_vix1 (n : Int) : vix [⟨2, 0, docC 2⟩] n = if n = 2 then 0 else -1 := by
  unfold vix fixI
  by_cases h2 : n = 2
  · subst h2; rfl
  · have a2 : ¬ (2 : Int) = n := fun e => h2 e.symm
    simp [List.findIdx?_cons, h2, a2]
theorem ex_let1 : letR [⟨1, 1, docC 1⟩, ⟨2, 0, docC 2⟩] 1 = ([⟨2, 0, docC 2⟩], 0) := by
  unfold letR
  rw [ver_two, ex_vix, if_neg (by simp), if_neg (by decide), if_neg (by decide)]
  rfl
theorem ex_let2 : letR [⟨2, 0, docC 2⟩] 2 = ([], 6) := by
  unfold letR
  rw [ver_one (by decide) (by decide) (by decide), ex_vix1, if_neg (by simp), if_neg (by decide), if_pos (by rfl)]
theorem ex_let3 : letR [⟨2, 0, docC 2⟩] 1 = ([], 4) := by
  unfold letR
  rw [ver_one (by decide) (by decide) (by decide), ex_vix1, if_neg (by simp), if_pos (by decide)]
theorem ex_doc : docR [⟨1, 1, docC 1⟩, ⟨2, 0, docC 2⟩] 1 = (docC 1, 0) := by
  unfold docR
  rw [ver_two, ex_vix, if_neg (by simp), if_neg (by decide)]
  rfl
theorem ex_hold0 : holdR [] = ([], 0, 4) := by
  unfold holdR
  rw [ver_nil, if_neg (by simp), if_pos (by rfl)]
theorem ex_bad : verB [ve0] = false := by
  refine ver_no (i := 0) (by simp) ?_
  rw [← Bool.not_eq_true, vok_true]
  rintro ⟨⟨a, _⟩, _⟩
  exact absurd a (by decide)
end Go.Proofs.YtjjkgeeafjagkaaGreat
