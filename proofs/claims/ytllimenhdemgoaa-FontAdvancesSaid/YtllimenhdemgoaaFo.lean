/- Plain facts behind the laws of fonts: sums over pairs of bytes. -/
import Derived.Test.YtllimenhdemgoaaFl
namespace Go.Proofs.Ytllimenhdemgoaa
open Go Go.RowKit
set_option linter.unusedSimpArgs false
set_option linter.unusedVariables false

theorem usable_true {gs : List Gl} {ks : List Kn} {s : List UInt8} (h : usableB gs ks s = true) : fok gs ks = true ∧ tv s = true ∧ hasB gs s = true ∧ s.length ≤ 300 := by
  unfold usableB at h
  simp only [Bool.and_eq_true, decide_eq_true_eq] at h
  exact ⟨h.2.1.1, h.2.1.2, h.2.2, h.1.2⟩
theorem rv_good {gs : List Gl} {ks : List Kn} {s : List UInt8} (h1 : fok gs ks = true) (h2 : tv s = true) (h3 : hasB gs s = true) : rawErr gs ks s = 0 ∧ rawVal gs ks s = rawL gs ks (prs 0 (shown s)) := by
  unfold rawErr rawVal
  rw [h1, h2, h3]
  exact ⟨rfl, rfl⟩
/-- Each kern takes at most what its left byte has. -/
theorem term_nonneg {gs : List Gl} {ks : List Kn} (hG : ∀ i, i < gs.length → gok gs i) (hK : ∀ i, i < ks.length → kok gs ks i) (a b : Int) : 0 ≤ (gget gs a).2 + kfind ks a b := by
  have h0 := gget_range hG a
  unfold kfind
  split
  · rename_i k hk
    obtain ⟨hm, hq⟩ := List.mem_iff_getElem?.1 (List.mem_of_find?_eq_some hk)
    have hl : hm < ks.length := (List.getElem?_eq_some_iff.1 hq).1
    have hp := List.find?_some hk
    rw [decide_eq_true_eq] at hp
    obtain ⟨_, _, _, h, _⟩ := hK hm hl
    have e : kat ks hm = k := by unfold kat; rw [List.getD_eq_getElem?_getD, hq]; rfl
    rw [e, hp.1] at h
    omega
  · omega
theorem rawL_nil (gs : List Gl) (ks : List Kn) : rawL gs ks [] = 0 := rfl
theorem rawL_cons (gs : List Gl) (ks : List Kn) (p : Int × Int) (ps : List (Int × Int)) : rawL gs ks (p :: ps) = term gs ks p + rawL gs ks ps := by simp [rawL]
theorem rawL_append (gs : List Gl) (ks : List Kn) (ps qs : List (Int × Int)) : rawL gs ks (ps ++ qs) = rawL gs ks ps + rawL gs ks qs := by simp [rawL]
def lastOr (a : Int) (l : List UInt8) : Int := match l.getLast? with
  | some d => (d.toNat : Int)
  | none => a
theorem lastOr_cons (a : Int) (c : UInt8) (l : List UInt8) : lastOr a (c :: l) = lastOr (c.toNat : Int) l := by
  cases l with
  | nil => simp [lastOr]
  | cons d l => simp [lastOr, List.getLast?_cons_cons]; cases h : (d :: l).getLast? with
    | none => simp at h
    | some _ => rfl
theorem prs_append : ∀ (a : Int) (x y : List UInt8), prs a (x ++ y) = prs a x ++ prs (lastOr a x) y
  | a, [], y => by simp [lastOr, prs]
  | a, c :: x, y => by
    rw [lastOr_cons, List.cons_append, prs, prs, prs_append]
    rfl
theorem rawL_low {gs : List Gl} {ks : List Kn} (hG : ∀ i, i < gs.length → gok gs i) (hK : ∀ i, i < ks.length → kok gs ks i) : ∀ (a : Int) (l : List UInt8), (gget gs (lastOr a l)).2 ≤ (gget gs a).2 + rawL gs ks (prs a l)
  | a, [] => by simp [lastOr, prs, rawL]
  | a, c :: l => by
    have ih := rawL_low hG hK (c.toNat : Int) l
    have h1 := term_nonneg hG hK a (c.toNat : Int)
    rw [lastOr_cons, prs, rawL_cons]
    unfold term
    simp only
    omega
theorem gget0 {gs : List Gl} (hG : ∀ i, i < gs.length → gok gs i) : (gget gs 0).2 = 0 := by
  unfold gget
  split
  · rename_i h
    obtain ⟨a, h1, h2, h3, _⟩ := gidx_found h
    obtain ⟨h4, _⟩ := hG a h1
    omega
  · rfl
theorem raw_first {gs : List Gl} {ks : List Kn} (hG : ∀ i, i < gs.length → gok gs i) (hK : ∀ i, i < ks.length → kok gs ks i) (b : Int) : ∀ (l : List UInt8), rawL gs ks (prs b l) = rawL gs ks (prs 0 l) + (if 0 < l.length then kfind ks b ((bat l 0).toNat : Int) else 0)
  | [] => by simp [prs, rawL]
  | c :: l => by
    rw [prs, prs, rawL_cons, rawL_cons]
    unfold term
    have := kfind0 hG hK (c.toNat : Int)
    simp [bat, this]
    omega
theorem raw_nonneg {gs : List Gl} {ks : List Kn} {s : List UInt8} (h1 : fok gs ks = true) (h2 : tv s = true) (h3 : hasB gs s = true) (hl : s.length ≤ 300) : 0 ≤ rawVal gs ks s ∧ rawVal gs ks s ≤ 600000 := by
  obtain ⟨_, hG, hK⟩ := fok_true.1 h1
  rw [(rv_good h1 h2 h3).2]
  have a := rawL_low hG hK 0 (shown s)
  have b := rawL_range hG hK (prs 0 (shown s))
  have c := gget_range hG (lastOr 0 (shown s))
  have d := shown_len s
  rw [gget0 hG] at a
  rw [prs_length] at b
  omega
theorem kmod {k : Int} (h : 0 ≤ k ∧ k ≤ 65535) : ∃ K, IntKind.wrap .i64 (50 + (IntKind.wrap .i64 k).tmod 251) = K ∧ 50 ≤ K ∧ K ≤ 300 := by
  rw [w64 (n := k) (by omega), Int.tmod_eq_emod_of_nonneg h.1]
  exact ⟨_, rfl, by rw [w64 (by omega)]; omega⟩
theorem kmin {K m : Int} (hK : 50 ≤ K ∧ K ≤ 300) (hm : 0 ≤ m ∧ m ≤ 65535) : ∃ L, mnI 300 (IntKind.wrap .i64 (K + IntKind.wrap .i64 m)) = L ∧ K ≤ L ∧ L ≤ 300 := by
  rw [w64 (n := m) (by omega), w64 (by omega)]
  exact ⟨_, rfl, by unfold mnI; split <;> omega⟩
theorem w_ok {gs : List Gl} {ks : List Kn} {s : List UInt8} {k : Int} (h1 : fok gs ks = true) (h2 : tv s = true) (h3 : hasB gs s = true) (hl : s.length ≤ 300) (hk : 50 ≤ k ∧ k ≤ 300) :
    ∃ A, wVal gs ks s k = A ∧ wErr gs ks s k = 0 ∧ rawVal gs ks s * k ≤ 100 * A ∧ 100 * A < rawVal gs ks s * k + 100 ∧ 0 ≤ A ∧ A ≤ 2000000 := by
  have hR := raw_nonneg h1 h2 h3 hl
  obtain ⟨e1, e2⟩ := w_good (k := k) (show (fok gs ks && tv s) = true by rw [h1, h2]; rfl) h3 hk
  have p1 : 0 ≤ rawVal gs ks s * k := Int.mul_nonneg hR.1 (by omega)
  have p2 : rawVal gs ks s * k ≤ 600000 * 300 := Int.mul_le_mul hR.2 hk.2 (by omega) (by omega)
  rw [Int.tdiv_eq_ediv_of_nonneg (by omega)] at e1
  exact ⟨_, e1, e2, by omega, by omega, by omega, by omega⟩

/-! ### Texts joined -/
theorem shown_append (s t : List UInt8) : shown (s ++ t) = shown s ++ shown t := by simp [shown]
theorem hasB_append (gs : List Gl) (s t : List UInt8) : hasB gs (s ++ t) = (hasB gs s && hasB gs t) := by simp [hasB]
theorem tv_append {s t : List UInt8} (h1 : tv s = true) (h2 : tv t = true) (hl : s.length + t.length ≤ 2000) : tv (s ++ t) = true := by
  unfold tv at *
  rw [decide_eq_true_eq] at *
  refine ⟨fun c hc => (List.mem_append.1 hc).elim (h1.1 c) (h2.1 c), by simpa using hl⟩
theorem raw_join {gs : List Gl} {ks : List Kn} {s t : List UInt8} (h1 : fok gs ks = true) (a2 : tv s = true) (a3 : hasB gs s = true) (b2 : tv t = true) (b3 : hasB gs t = true) (hl : s.length + t.length ≤ 2000) :
    rawErr gs ks (s ++ t) = 0 ∧ rawVal gs ks (s ++ t) = rawVal gs ks s + rawVal gs ks t + (if 0 < (shown s).length ∧ 0 < (shown t).length then kfind ks (lastOr 0 (shown s)) ((bat (shown t) 0).toNat : Int) else 0) ∧ rawVal gs ks t ≤ rawVal gs ks (s ++ t) := by
  obtain ⟨_, hG, hK⟩ := fok_true.1 h1
  obtain ⟨e1, e2⟩ := rv_good h1 (tv_append a2 b2 hl) (by rw [hasB_append, a3, b3]; rfl : hasB gs (s ++ t) = true)
  rw [e2, (rv_good h1 a2 a3).2, (rv_good h1 b2 b3).2, shown_append, prs_append, rawL_append, raw_first hG hK (lastOr 0 (shown s)) (shown t)]
  have low := rawL_low hG hK 0 (shown s)
  rw [gget0 hG] at low
  have tn := term_nonneg hG hK (lastOr 0 (shown s)) ((bat (shown t) 0).toNat : Int)
  refine ⟨e1, ?_, ?_⟩
  · by_cases hs : 0 < (shown s).length
    · by_cases ht : 0 < (shown t).length
      · simp only [hs, ht, and_self, if_true]; omega
      · simp only [hs, ht, and_false, if_false]; omega
    · have : shown s = [] := List.eq_nil_of_length_eq_zero (by omega)
      rw [this]
      have k0 := kfind0 hG hK ((bat (shown t) 0).toNat : Int)
      simp only [lastOr, List.getLast?_nil, List.length_nil, Nat.lt_irrefl, false_and, if_false, k0]
      split <;> omega
  · have g0 := gget_range hG (lastOr 0 (shown s))
    split <;> omega
theorem lastOr_at {l : List UInt8} (h : 0 < l.length) : lastOr 0 l = ((bat l (l.length - 1)).toNat : Int) := by
  unfold lastOr bat
  rw [List.getLast?_eq_getElem?, List.getD_eq_getElem?_getD]
  have : l.length - 1 < l.length := by omega
  rw [List.getElem?_eq_getElem this]
  rfl

/-! ### A soft hyphen more -/
theorem take_drop_shown (s : List UInt8) (i : Nat) : shown (s.take i ++ [126] ++ s.drop i) = shown s := by
  rw [shown_append, shown_append]
  have : shown [126] = [] := by decide
  rw [this, List.append_nil, ← shown_append, List.take_append_drop]
theorem take_drop_tv {s : List UInt8} (i : Nat) (h : tv s = true) (hl : s.length ≤ 300) : tv (s.take i ++ [126] ++ s.drop i) = true := by
  unfold tv at *
  rw [decide_eq_true_eq] at *
  refine ⟨fun c hc => ?_, by simp; omega⟩
  rcases List.mem_append.1 hc with hc | hc
  · rcases List.mem_append.1 hc with hc | hc
    · exact h.1 c (List.mem_of_mem_take hc)
    · simp at hc; subst hc; decide
  · exact h.1 c (List.mem_of_mem_drop hc)
theorem take_drop_has (gs : List Gl) (s : List UInt8) (i : Nat) : hasB gs (s.take i ++ [126] ++ s.drop i) = hasB gs s := by
  rw [hasB_append, hasB_append]
  have : hasB gs [126] = true := by simp [hasB]
  rw [this, Bool.and_true, ← hasB_append, List.take_append_drop]
theorem hyphen_w {gs : List Gl} {ks : List Kn} {s : List UInt8} (i : Nat) (k : Int) (h1 : fok gs ks = true) (h : tv s = true) (hl : s.length ≤ 300) (hk : 50 ≤ k ∧ k ≤ 300) :
    wVal gs ks (s.take i ++ [126] ++ s.drop i) k = wVal gs ks s k ∧ wErr gs ks (s.take i ++ [126] ++ s.drop i) k = wErr gs ks s k ∧ wErr gs ks s k = (if hasB gs s = true then 0 else 20) := by
  have h2 := take_drop_tv i h hl
  unfold wVal wErr rawVal
  rw [take_drop_shown, take_drop_has, h2, h, h1]
  refine ⟨rfl, rfl, ?_⟩
  simp [hk]
end Go.Proofs.Ytllimenhdemgoaa
