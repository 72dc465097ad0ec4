/- Plain facts of fonts: sorted lists, what is found in them, what a valid font is. -/
import Derived.Test.YtllimenhdemgoaaFa
namespace Go.Proofs.Ytllimenhdemgoaa
open Go Go.RowKit
set_option linter.unusedSimpArgs false
set_option linter.unusedVariables false

def gsorted (gs : List Gl) : Prop := ∀ i j, i < j → j < gs.length → (gat gs i).1 < (gat gs j).1
def klt (a b : Int × Int) : Prop := a.1 < b.1 ∨ (a.1 = b.1 ∧ a.2 < b.2)
def kp (k : Kn) : Int × Int := (k.1, k.2.1)
def ksorted (ks : List Kn) : Prop := ∀ i j, i < j → j < ks.length → klt (kp (kat ks i)) (kp (kat ks j))

theorem icmp_lt {x y : Int} : icmp x y < 0 ↔ x < y := by unfold icmp; split <;> (try split) <;> omega
theorem icmp_eq {x y : Int} : icmp x y = 0 ↔ x = y := by unfold icmp; split <;> (try split) <;> omega
theorem icmp_ge {x y : Int} : 0 ≤ icmp x y ↔ y ≤ x := by unfold icmp; split <;> (try split) <;> omega
theorem kcmp_eq' (k : Kn) (p : Int × Int) : kcmp k p = if icmp k.1 p.1 = 0 then icmp k.2.1 p.2 else icmp k.1 p.1 := by
  unfold kcmp ior
  by_cases h : icmp k.1 p.1 = 0
  · rw [if_pos h]
    by_cases h2 : icmp k.2.1 p.2 = 0 <;> simp [List.find?, h, h2]
  · rw [if_neg h]
    simp [List.find?, h]
theorem kcmp_lt {k : Kn} {p : Int × Int} : kcmp k p < 0 ↔ klt (kp k) p := by
  rw [kcmp_eq']; unfold klt kp icmp
  simp only []
  repeat' split
  all_goals omega
theorem kcmp_zero {k : Kn} {p : Int × Int} : kcmp k p = 0 ↔ kp k = p := by
  rw [kcmp_eq', Prod.ext_iff]; unfold kp icmp
  simp only []
  repeat' split
  all_goals omega
theorem klt_irrefl {a : Int × Int} : ¬ klt a a := by unfold klt; omega
theorem klt_trans {a b c : Int × Int} (h : klt a b) (h' : klt b c) : klt a c := by unfold klt at *; omega
theorem klt_total (a b : Int × Int) : klt a b ∨ a = b ∨ klt b a := by rw [Prod.ext_iff]; unfold klt; omega

/-- Neighbours in order: all in order. -/
theorem chain_lt {α : Type} {lt : α → α → Prop} (ht : ∀ a b c, lt a b → lt b c → lt a c) {f : Nat → α} {n : Nat} (h : ∀ i, 0 < i → i < n → lt (f (i - 1)) (f i)) : ∀ j i, i < j → j < n → lt (f i) (f j)
  | 0, _, hi, _ => by omega
  | j + 1, i, hi, hj => by
    have h1 := h (j + 1) (by omega) hj
    rw [Nat.add_sub_cancel] at h1
    rcases Nat.lt_or_ge i j with hlt | hge
    · exact ht _ _ _ (chain_lt ht h j i hlt (by omega)) h1
    · have : i = j := by omega
      subst this; exact h1

theorem low_m (q : Nat → Bool) (n : Nat) (hmono : ∀ i j, i < j → j < n → q j = true → q i = true) : ∃ m, m ≤ n ∧ (∀ k, k < m → q k = true) ∧ ∀ k, m ≤ k → k < n → q k = false := by
  induction n with
  | zero => exact ⟨0, by omega, by omega, by omega⟩
  | succ n ih =>
    obtain ⟨m, h1, h2, h3⟩ := ih fun i j hi hj => hmono i j hi (by omega)
    cases hq : q n with
    | true => exact ⟨n + 1, by omega, fun k hk => by
        rcases Nat.lt_or_ge k n with h | h
        · exact hmono k n h (by omega) hq
        · rwa [show k = n by omega], by omega⟩
    | false => exact ⟨m, by omega, h2, fun k hk hk2 => by
        rcases Nat.lt_or_ge k n with h | h
        · exact h3 k hk h
        · rwa [show k = n by omega]⟩

theorem gm {gs : List Gl} (hs : gsorted gs) (b : Int) : ∃ m, m ≤ gs.length ∧ (∀ k, k < m → icmp (gat gs k).1 b < 0) ∧ ∀ k, m ≤ k → k < gs.length → 0 ≤ icmp (gat gs k).1 b := by
  obtain ⟨m, h1, h2, h3⟩ := low_m (fun k => decide ((gat gs k).1 < b)) gs.length fun i j hi hj h => by
    have := hs i j hi hj
    simp only [decide_eq_true_eq] at h ⊢
    omega
  refine ⟨m, h1, fun k hk => icmp_lt.2 (of_decide_eq_true (h2 k hk)), fun k hk hk2 => icmp_ge.2 ?_⟩
  have := of_decide_eq_false (h3 k hk hk2)
  omega
theorem km {ks : List Kn} (hs : ksorted ks) (p : Int × Int) : ∃ m, m ≤ ks.length ∧ (∀ k, k < m → kcmp (kat ks k) p < 0) ∧ ∀ k, m ≤ k → k < ks.length → 0 ≤ kcmp (kat ks k) p := by
  haveI : ∀ k, Decidable (kcmp (kat ks k) p < 0) := fun k => inferInstance
  obtain ⟨m, h1, h2, h3⟩ := low_m (fun k => decide (kcmp (kat ks k) p < 0)) ks.length fun i j hi hj h => by
    have := hs i j hi hj
    simp only [decide_eq_true_eq] at h ⊢
    exact kcmp_lt.2 (klt_trans this (kcmp_lt.1 h))
  refine ⟨m, h1, fun k hk => of_decide_eq_true (h2 k hk), fun k hk hk2 => ?_⟩
  have := of_decide_eq_false (h3 k hk hk2)
  omega

theorem gidx_cases (gs : List Gl) (b : Int) : (∃ i, i < gs.length ∧ (gat gs i).1 = b ∧ gidx gs b = i) ∨ ((∀ j, j < gs.length → (gat gs j).1 ≠ b) ∧ gidx gs b = -1) := by
  by_cases h : ∀ j, j < gs.length → (gat gs j).1 ≠ b
  · exact .inr ⟨h, gidx_none h⟩
  · have : ∃ j, j < gs.length ∧ (gat gs j).1 = b := by
      refine Classical.byContradiction fun hn => h fun j hj e => hn ⟨j, hj, e⟩
    obtain ⟨j, hj, e⟩ := this
    obtain ⟨m, h1, h2, h3⟩ : ∃ m, m ≤ j ∧ (gat gs m).1 = b ∧ ∀ k, k < m → (gat gs k).1 ≠ b := by
      clear h
      induction j using Nat.strongRecOn with
      | _ j ih =>
        by_cases hk : ∃ k, k < j ∧ (gat gs k).1 = b
        · obtain ⟨k, hk1, hk2⟩ := hk
          obtain ⟨m, a1, a2, a3⟩ := ih k hk1 (by omega) hk2
          exact ⟨m, by omega, a2, a3⟩
        · exact ⟨j, Nat.le_refl _, e, fun k hk1 hk2 => hk ⟨k, hk1, hk2⟩⟩
    exact .inl ⟨m, by omega, h2, gidx_some (by omega) h2 h3⟩

def gget (gs : List Gl) (b : Int) : Gl := if 0 ≤ gidx gs b then gat gs (gidx gs b).toNat else (0, 0)

theorem glyph_s {gs : List Gl} {ks : List Kn} {tg tk : Tok} {b : Int} (hn : gs.length ≤ 1000) (hs : gsorted gs) :
    PCall Try.prog (.func 26) [.ag [.sl 2 (gs.map grow) tg, .sl 3 (ks.map krow) tk], .int .u8 b] (.tup [.ag (grow (gget gs b)), .bool (decide (0 ≤ gidx gs b))]) := by
  obtain ⟨m, h1, h2, h3⟩ := gm hs b
  have h := glyph_w gs ks tg tk b hn m h1 h2 h3
  rcases gidx_cases gs b with ⟨i, hi, e, hg⟩ | ⟨hn, hg⟩
  · have hm : m = i := by
      rcases Nat.lt_trichotomy m i with hlt | rfl | hgt
      · have a := h3 m (Nat.le_refl _) (by omega)
        have c := hs m i hlt hi
        rw [icmp_ge] at a; omega
      · rfl
      · have a := h2 i hgt
        rw [icmp_lt] at a; omega
    subst hm
    rw [if_pos ⟨hi, icmp_eq.2 e⟩, decide_eq_true (And.intro hi (icmp_eq.2 e))] at h
    unfold gget
    rw [hg, if_pos (by omega), decide_eq_true (by omega), Int.toNat_natCast]
    exact h
  · have hP : ¬ (m < gs.length ∧ icmp (gat gs m).1 b = 0) := fun hh => hn m hh.1 (icmp_eq.1 hh.2)
    rw [if_neg hP, decide_eq_false hP] at h
    unfold gget
    rw [hg, if_neg (by omega), decide_eq_false (by omega)]
    exact h

def kget (ks : List Kn) (p : Int × Int) : Kn := (ks.find? fun k => decide (k.1 = p.1 ∧ k.2.1 = p.2)).getD (0, 0, 0)
theorem kget_by (ks : List Kn) (p : Int × Int) : (kget ks p).2.2 = kfind ks p.1 p.2 := by
  unfold kget kfind
  cases ks.find? fun k => decide (k.1 = p.1 ∧ k.2.1 = p.2) <;> rfl
theorem kget_some {ks : List Kn} {p : Int × Int} {i : Nat} (h : i < ks.length) (h1 : kp (kat ks i) = p) (h2 : ∀ j, j < i → kp (kat ks j) ≠ p) : kget ks p = kat ks i := by
  unfold kget
  have : ks.find? (fun k => decide (k.1 = p.1 ∧ k.2.1 = p.2)) = some (kat ks i) := by
    rw [List.find?_eq_some_iff_getElem]
    refine ⟨by subst h1; simp [kp], i, h, by simp [kat, h], fun j hj => ?_⟩
    have := h2 j hj
    rw [ne_eq, Prod.ext_iff] at this
    simp only [kp, kat, List.getD_eq_getElem?_getD, List.getElem?_eq_getElem (show j < ks.length from by omega), Option.getD_some] at this
    simp only [Bool.not_eq_true', decide_eq_false_iff_not]
    exact this
  rw [this]; rfl
theorem kget_none {ks : List Kn} {p : Int × Int} (h2 : ∀ j, j < ks.length → kp (kat ks j) ≠ p) : kget ks p = (0, 0, 0) := by
  unfold kget
  have : ks.find? (fun k => decide (k.1 = p.1 ∧ k.2.1 = p.2)) = none := by
    rw [List.find?_eq_none]
    intro k hk
    obtain ⟨j, hj, rfl⟩ := List.getElem_of_mem hk
    have := h2 j hj
    rw [ne_eq, Prod.ext_iff] at this
    simp only [kp, kat, List.getD_eq_getElem?_getD, List.getElem?_eq_getElem hj, Option.getD_some] at this
    simp only [decide_eq_true_eq]
    exact this
  rw [this]; rfl

theorem findk_s {ks : List Kn} {t : Tok} {p : Int × Int} (hn : ks.length ≤ 1000) (hs : ksorted ks) : ∃ ok,
    PCall Try.prog (.func 30) [.sl 3 (ks.map krow) t, .ag (prow p), .fn (.func 28) [] []] (.tup [.ag (krow (kget ks p)), .bool ok]) := by
  obtain ⟨m, h1, h2, h3⟩ := km hs p
  have h := findk_w ks t p hn m h1 h2 h3
  by_cases hP : m < ks.length ∧ kcmp (kat ks m) p = 0
  · rw [if_pos hP] at h
    rw [kget_some hP.1 (kcmp_zero.1 hP.2) fun j hj e => by have := kcmp_lt.1 (h2 j hj); rw [e] at this; exact klt_irrefl this]
    exact ⟨_, h⟩
  · rw [if_neg hP] at h
    rw [kget_none fun j hj e => ?_]
    · exact ⟨_, h⟩
    · rcases Nat.lt_trichotomy j m with hlt | rfl | hgt
      · have := kcmp_lt.1 (h2 j hlt); rw [e] at this; exact klt_irrefl this
      · exact hP ⟨hj, kcmp_zero.2 e⟩
      · have a := h3 m (Nat.le_refl _) (by omega)
        have c := hs m j hgt hj
        rw [e] at c
        have := kcmp_lt.2 c
        omega

/-! ### Valid fonts -/
def gok (gs : List Gl) (i : Nat) : Prop := 32 ≤ (gat gs i).1 ∧ (gat gs i).1 < 126 ∧ 0 ≤ (gat gs i).2 ∧ (gat gs i).2 ≤ 1000 ∧ (0 < i → (gat gs (i - 1)).1 < (gat gs i).1)
def kok (gs : List Gl) (ks : List Kn) (i : Nat) : Prop := 0 ≤ gidx gs (kat ks i).1 ∧ 0 ≤ gidx gs (kat ks i).2.1 ∧ (kat ks i).2.2 ≤ 1000 ∧ -(gget gs (kat ks i).1).2 ≤ (kat ks i).2.2 ∧ (0 < i → klt (kp (kat ks (i - 1))) (kp (kat ks i)))
def fokP (gs : List Gl) (ks : List Kn) : Prop := (gs.length ≤ 94 ∧ ks.length ≤ 200) ∧ (∀ i, i < gs.length → gok gs i) ∧ ∀ i, i < ks.length → kok gs ks i
noncomputable def fok (gs : List Gl) (ks : List Kn) : Bool := @decide (fokP gs ks) (Classical.propDecidable _)
theorem fok_true {gs : List Gl} {ks : List Kn} : fok gs ks = true ↔ fokP gs ks := by unfold fok; exact @decide_eq_true_iff _ (Classical.propDecidable _)
theorem fok_false {gs : List Gl} {ks : List Kn} : fok gs ks = false ↔ ¬ fokP gs ks := by unfold fok; exact @decide_eq_false_iff_not _ (Classical.propDecidable _)
theorem fok_sorted {gs : List Gl} (h : ∀ i, i < gs.length → gok gs i) : gsorted gs := fun i j hi hj =>
  chain_lt (lt := fun a b : Gl => a.1 < b.1) (fun _ _ _ h h' => Int.lt_trans h h') (f := gat gs) (n := gs.length) (fun i hi hn => (h i hn).2.2.2.2 hi) j i hi hj
theorem fok_ksorted {gs : List Gl} {ks : List Kn} (h : ∀ i, i < ks.length → kok gs ks i) : ksorted ks := fun i j hi hj =>
  chain_lt (lt := fun a b : Kn => klt (kp a) (kp b)) (fun _ _ _ h h' => klt_trans h h') (f := kat ks) (n := ks.length) (fun i hi hn => (h i hn).2.2.2.2 hi) j i hi hj

/-! ### Texts -/
def sat (s : List UInt8) (i : Nat) : Int := ((s.getD i 0).toNat : Int)
theorem tv_at {s : List UInt8} (h : tv s = true) {i : Nat} (hi : i < s.length) : cls (sat s i) ≠ 0 := by
  unfold tv at h
  have := (of_decide_eq_true h).1 (s.getD i 0) (by simp [hi])
  exact this
theorem cls_bounds {c : Int} (h : cls c ≠ 0) : 32 ≤ c ∧ c ≤ 126 := by
  unfold cls at h
  by_cases h1 : c = 32
  · omega
  · by_cases h2 : c = 126
    · omega
    · rw [if_neg h1, if_neg h2] at h
      by_cases h3 : c < 32 ∨ 126 < c
      · rw [if_pos h3] at h; exact absurd rfl h
      · omega
theorem dec_ascii {s : List UInt8} {p : Nat} (h : p < s.length) (ha : sat s p < 128) : Utf8.decode ⟨s.toArray⟩ p = ((s.getD p 0).toNat, 1) := by
  have e : s.getD p 0 = s[p] := by simp [h]
  unfold sat at ha
  rw [e] at ha ⊢
  have := decode_ascii ⟨s.toArray⟩ p (by simpa [ByteArray.size] using h) (by
    have : (ByteArray.mk s.toArray)[p]'(by simpa [ByteArray.size] using h) = s[p] := rfl
    rw [this]; omega)
  exact this
theorem dec_high {s : List UInt8} {p : Nat} (h : p < s.length) (ha : 128 ≤ sat s p) : 128 ≤ (Utf8.decode ⟨s.toArray⟩ p).1 := by
  have e : s.getD p 0 = s[p] := by simp [h]
  unfold sat at ha
  rw [e] at ha
  exact (decode_high ⟨s.toArray⟩ p (by simpa [ByteArray.size] using h) (by
    have : (ByteArray.mk s.toArray)[p]'(by simpa [ByteArray.size] using h) = s[p] := rfl
    rw [this]; omega)).1

end Go.Proofs.Ytllimenhdemgoaa
