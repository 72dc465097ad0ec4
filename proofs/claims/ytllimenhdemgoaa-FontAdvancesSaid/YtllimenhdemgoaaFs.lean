/- Plain facts behind the fifth law of fonts: a glyph that grows, kerns that are left out. -/
import Derived.Test.YtllimenhdemgoaaFo
namespace Go.Proofs.Ytllimenhdemgoaa
open Go Go.RowKit
set_option linter.unusedSimpArgs false
set_option linter.unusedVariables false

def kfP (s : List UInt8) (other : Int) (k : Kn) : Bool := decide ((k.1 ≠ other ∧ k.2.1 ≠ other) ∨ 0 < (cnt s other : Int))
def kf (ks : List Kn) (s : List UInt8) (other : Int) : List Kn := ks.filter (kfP s other)
theorem kf_take {ks : List Kn} {s : List UInt8} {other : Int} {j : Nat} (h : j < ks.length) : kf (ks.take (j + 1)) s other = if kfP s other (kat ks j) = true then kf (ks.take j) s other ++ [kat ks j] else kf (ks.take j) s other := by
  have e : ks[j]? = some (kat ks j) := by simp [kat, List.getD_eq_getElem?_getD, h]
  unfold kf
  rw [List.take_add_one, e, List.filter_append]
  cases hk : kfP s other (kat ks j) <;> simp [hk]
theorem kf_len (ks : List Kn) (s : List UInt8) (other : Int) : (kf ks s other).length ≤ ks.length := List.length_filter_le ..

theorem gidx_fst (gs : List Gl) (b : Int) : gidx gs b = oi ((gs.map Prod.fst).findIdx? fun x => decide (x = b)) := by
  simp [gidx, List.findIdx?_map, Function.comp_def]
theorem set_fst {gs : List Gl} {i : Nat} (v : Int) (h : i < gs.length) : (gs.set i ((gat gs i).1, v)).map Prod.fst = gs.map Prod.fst := by
  rw [List.map_set]
  have : (gs.map Prod.fst)[i]'(by simpa using h) = (gat gs i).1 := by simp [gat, List.getD_eq_getElem?_getD, h]
  rw [← this, List.set_getElem_self]
theorem gidx_set {gs : List Gl} {i : Nat} (v : Int) (h : i < gs.length) (b : Int) : gidx (gs.set i ((gat gs i).1, v)) b = gidx gs b := by rw [gidx_fst, gidx_fst, set_fst v h]
theorem gat_set {gs : List Gl} {i : Nat} (v : Int) (h : i < gs.length) (k : Nat) : gat (gs.set i ((gat gs i).1, v)) k = if k = i then ((gat gs i).1, v) else gat gs k := by
  unfold gat
  simp only [List.getD_eq_getElem?_getD, List.getElem?_set]
  by_cases hk : k = i
  · subst hk; simp [h]
  · rw [if_neg (fun e => hk e.symm), if_neg hk]
theorem gat_inj {gs : List Gl} (hs : gsorted gs) {j k : Nat} (hj : j < gs.length) (hk : k < gs.length) (h : (gat gs j).1 = (gat gs k).1) : j = k := by
  rcases Nat.lt_trichotomy j k with hl | hl | hl
  · have := hs j k hl hk; omega
  · exact hl
  · have := hs k j hl hj; omega
theorem gget_set {gs : List Gl} {i : Nat} {m : Int} (hG : ∀ i, i < gs.length → gok gs i) (h : i < gs.length) (b : Int) :
    (gget (gs.set i ((gat gs i).1, (gat gs i).2 + m)) b).2 = (gget gs b).2 + if b = (gat gs i).1 then m else 0 := by
  unfold gget
  rw [gidx_set _ h]
  rcases gidx_cases gs b with ⟨k, hk, hb, hi⟩ | ⟨hn, hi⟩
  · rw [hi, if_pos (by omega), if_pos (by omega), Int.toNat_natCast, gat_set _ h]
    by_cases e : k = i
    · subst e; rw [if_pos rfl, if_pos hb.symm]
    · rw [if_neg e, if_neg, Int.add_zero]
      intro e2
      exact e (gat_inj (fok_sorted hG) hk h (hb.trans e2))
  · rw [hi, if_neg (by omega), if_neg (by omega), if_neg (fun e => hn i h e.symm), Int.add_zero]
theorem fok_set {gs : List Gl} {ks : List Kn} {i : Nat} {m : Int} (hF : fok gs ks = true) (h : i < gs.length) (hm0 : 0 ≤ m) (hm1 : (gat gs i).2 + m ≤ 1000) : fok (gs.set i ((gat gs i).1, (gat gs i).2 + m)) ks = true := by
  obtain ⟨⟨h1, h2⟩, hG, hK⟩ := fok_true.1 hF
  refine fok_true.2 ⟨⟨by rw [List.length_set]; exact h1, h2⟩, fun j hj => ?_, fun j hj => ?_⟩
  · rw [List.length_set] at hj
    have e1 : ∀ k, (gat (gs.set i ((gat gs i).1, (gat gs i).2 + m)) k).1 = (gat gs k).1 := fun k => by
      rw [gat_set _ h]; by_cases e : k = i
      · subst e; rw [if_pos rfl]
      · rw [if_neg e]
    obtain ⟨a1, a2, a3, a4, a5⟩ := hG j hj
    refine ⟨by rw [e1]; exact a1, by rw [e1]; exact a2, ?_, ?_, by rw [e1, e1]; exact a5⟩
    · rw [gat_set _ h]; by_cases e : j = i
      · subst e; rw [if_pos rfl]; simp only; omega
      · rw [if_neg e]; exact a3
    · rw [gat_set _ h]; by_cases e : j = i
      · subst e; rw [if_pos rfl]; exact hm1
      · rw [if_neg e]; exact a4
  · obtain ⟨a1, a2, a3, a4, a5⟩ := hK j hj
    refine ⟨by rw [gidx_set _ h]; exact a1, by rw [gidx_set _ h]; exact a2, a3, ?_, a5⟩
    rw [gget_set hG h]
    split <;> omega
theorem hasB_set {gs : List Gl} {i : Nat} (v : Int) (h : i < gs.length) (s : List UInt8) : hasB (gs.set i ((gat gs i).1, v)) s = hasB gs s := by
  unfold hasB
  simp only [gidx_set _ h]
theorem cnt_cons (c : UInt8) (l : List UInt8) (b : Int) : (cnt (c :: l) b : Int) = (if (c.toNat : Int) = b then 1 else 0) + cnt l b := by
  unfold cnt
  rw [List.filter_cons]
  by_cases h : (c.toNat : Int) = b
  · simp [h]; omega
  · simp [h]
theorem rawL_set {gs : List Gl} {ks : List Kn} {i : Nat} {m : Int} (hG : ∀ i, i < gs.length → gok gs i) (h : i < gs.length) : ∀ (l : List UInt8) (a : Int),
    rawL (gs.set i ((gat gs i).1, (gat gs i).2 + m)) ks (prs a l) = rawL gs ks (prs a l) + cnt l (gat gs i).1 * m
  | [], a => by simp [prs, rawL_nil, cnt]
  | c :: l, a => by
    simp only [prs, rawL_cons]
    rw [rawL_set hG h l, cnt_cons]
    unfold term
    simp only
    rw [gget_set hG h]
    by_cases e : (c.toNat : Int) = (gat gs i).1
    · rw [if_pos e, if_pos e, Int.add_mul, Int.one_mul]; omega
    · rw [if_neg e, if_neg e]; simp only [Int.zero_add]; omega
theorem cnt_shown {s : List UInt8} {b : Int} (h : b ≠ 126) : cnt (shown s) b = cnt s b := by
  unfold cnt shown
  rw [List.filter_filter]
  congr 1
  apply List.filter_congr
  intro c _
  by_cases e : (c.toNat : Int) = b
  · have : c ≠ 126 := fun e2 => h (by rw [← e, e2]; rfl)
    simp [e, this]
  · simp [e]

/-! ### Kerns that are left out -/
theorem find_filter {α : Type} {p q : α → Bool} : ∀ {l : List α}, (∀ k ∈ l, p k = true → q k = true) → (l.filter q).find? p = l.find? p
  | [], _ => rfl
  | a :: l, h => by
    have ih := find_filter (l := l) fun k hk => h k (List.mem_cons_of_mem _ hk)
    cases hp : p a with
    | true =>
      have hq := h a (by simp) hp
      simp [List.filter_cons, hq, List.find?_cons, hp]
    | false =>
      cases hq : q a <;> simp [List.filter_cons, hq, List.find?_cons, hp, ih]
theorem kat_mem {ks : List Kn} {j : Nat} (h : j < ks.length) : kat ks j ∈ ks := by
  have : kat ks j = ks[j] := by simp [kat, List.getD_eq_getElem?_getD, h]
  rw [this]; exact List.getElem_mem h
theorem mem_kat {ks : List Kn} {k : Kn} (h : k ∈ ks) : ∃ j, j < ks.length ∧ kat ks j = k := by
  obtain ⟨j, hj, e⟩ := List.mem_iff_getElem.1 h
  exact ⟨j, hj, by simp [kat, List.getD_eq_getElem?_getD, hj, e]⟩
theorem fok_kf {gs : List Gl} {ks : List Kn} (s : List UInt8) (other : Int) (hF : fok gs ks = true) : fok gs (kf ks s other) = true := by
  obtain ⟨⟨h1, h2⟩, hG, hK⟩ := fok_true.1 hF
  have hl := kf_len ks s other
  have hp : ks.Pairwise (fun a b => klt (kp a) (kp b)) := by
    rw [List.pairwise_iff_getElem]
    intro i j hi hj hij
    have := fok_ksorted hK i j hij hj
    simpa [kat, List.getD_eq_getElem?_getD, hi, hj] using this
  have hp' : (kf ks s other).Pairwise (fun a b => klt (kp a) (kp b)) := hp.sublist List.filter_sublist
  rw [List.pairwise_iff_getElem] at hp'
  refine fok_true.2 ⟨⟨h1, by omega⟩, hG, fun j hj => ?_⟩
  obtain ⟨k, hk, e⟩ := mem_kat (List.mem_filter.1 (kat_mem hj)).1
  obtain ⟨a1, a2, a3, a4, -⟩ := hK k hk
  rw [e] at a1 a2 a3 a4
  refine ⟨a1, a2, a3, a4, fun h0 => ?_⟩
  have hj' : j - 1 < (kf ks s other).length := by omega
  have := hp' (j - 1) j hj' hj (by omega)
  simpa [kat, List.getD_eq_getElem?_getD, hj, hj'] using this
theorem kfind_kf {gs : List Gl} {ks : List Kn} {s : List UInt8} {other : Int} (hF : fok gs ks = true) {a b : Int} (ha : 0 < cnt s a ∨ a = 0) (hb : 0 < cnt s b) : kfind (kf ks s other) a b = kfind ks a b := by
  obtain ⟨-, hG, hK⟩ := fok_true.1 hF
  unfold kfind kf
  rw [find_filter]
  intro k hk hp
  simp only [decide_eq_true_eq] at hp
  obtain ⟨rfl, rfl⟩ := hp
  unfold kfP
  rw [decide_eq_true_eq]
  by_cases e1 : k.1 = other
  · right
    subst e1
    rcases ha with ha | ha
    · omega
    · obtain ⟨j, hj, rfl⟩ := mem_kat hk
      have := (hK j hj).1
      rw [ha] at this
      rcases gidx_cases gs 0 with ⟨x, hx, hx1, hx2⟩ | ⟨hx, hx2⟩
      · have := (hG x hx).1; omega
      · omega
  · by_cases e2 : k.2.1 = other
    · right; subst e2; omega
    · exact .inl ⟨e1, e2⟩
theorem cnt_mem {s : List UInt8} {c : UInt8} (h : c ∈ s) : 0 < cnt s (c.toNat : Int) := by
  unfold cnt
  exact List.length_pos_of_mem (List.mem_filter.2 ⟨h, by simp⟩)
theorem rawL_kf {gs : List Gl} {ks : List Kn} {s : List UInt8} {other : Int} (hF : fok gs ks = true) : ∀ (l : List UInt8) (a : Int), (∀ c ∈ l, c ∈ s) → (0 < cnt s a ∨ a = 0) → rawL gs (kf ks s other) (prs a l) = rawL gs ks (prs a l)
  | [], a, _, _ => rfl
  | c :: l, a, hl, ha => by
    have hc := cnt_mem (hl c (by simp))
    simp only [prs, rawL_cons]
    rw [rawL_kf hF l _ (fun d hd => hl d (List.mem_cons_of_mem _ hd)) (.inl hc)]
    unfold term
    simp only
    rw [kfind_kf hF ha hc]

theorem adv_w {gs : List Gl} {ks : List Kn} {s : List UInt8} {i : Nat} {m : Int} (other : Int) (hF : fok gs ks = true) (hT : tv s = true) (hH : hasB gs s = true) (h : i < gs.length) (hm0 : 0 ≤ m) (hm1 : (gat gs i).2 + m ≤ 1000) :
    rawErr gs ks s = 0 ∧ rawErr (gs.set i ((gat gs i).1, (gat gs i).2 + m)) ks s = 0 ∧ rawErr gs (kf ks s other) s = 0 ∧
    rawVal (gs.set i ((gat gs i).1, (gat gs i).2 + m)) ks s = rawVal gs ks s + cnt s (gat gs i).1 * m ∧ rawVal gs (kf ks s other) s = rawVal gs ks s := by
  obtain ⟨-, hG, hK⟩ := fok_true.1 hF
  obtain ⟨a1, a2⟩ := rv_good hF hT hH
  obtain ⟨b1, b2⟩ := rv_good (fok_set hF h hm0 hm1) hT ((hasB_set _ h s).trans hH)
  obtain ⟨c1, c2⟩ := rv_good (fok_kf s other hF) hT hH
  refine ⟨a1, b1, c1, ?_, ?_⟩
  · rw [a2, b2, rawL_set hG h, cnt_shown]
    have := hG i h
    unfold gok at this
    omega
  · rw [a2, c2, rawL_kf hF _ _ (fun c hc => (shown_mem.1 hc).1) (.inr rfl)]
end Go.Proofs.Ytllimenhdemgoaa
