/- Joined. -/
import Derived.Test.YtinhjbnljbmbcaaGreatQ04
namespace Go.Proofs.YtinhjbnljbmbcaaGreat
open Go Go.RowKit
set_option linter.unusedSimpArgs false
set_option linter.unusedVariables false
set_option maxHeartbeats 4000000
set_option maxRecDepth 100000
def cls (c : Int) : Int := if c = 32 then 4 else if c = 126 then 6 else if c < 32 ∨ 126 < c then 0 else if 97 ≤ c ∧ c ≤ 122 then 1 else if 65 ≤ c ∧ c ≤ 90 then 2 else if 48 ≤ c ∧ c ≤ 57 then 3 else 5
def tv (s : List UInt8) : Bool := decide ((∀ c ∈ s, cls c.toNat ≠ 0) ∧ s.length ≤ 2000)
def sat (s : List UInt8) (i : Nat) : Int := ((s.getD i 0).toNat : Int)
theorem tv_at {s : List UInt8} (h : tv s = true) {i : Nat} (hi : i < s.length) : cls (sat s i) ≠ 0 := by
 unfold tv at h
 have := (of_decide_eq_true h).1 (s.getD i 0) (by simp [hi])
 exact this
theorem cls_bounds {c : Int} (h : cls c ≠ 0) : 32 ≤ c ∧ c ≤ 126 := by
 unfold cls at h
 by_cases h1 : c = 32
 ·omega
 ·by_cases h2 : c = 126
  ·omega
  ·rw [if_neg h1, if_neg h2] at h
   by_cases h3 : c < 32 ∨ 126 < c
   ·rw [if_pos h3] at h; exact absurd rfl h
   ·omega
theorem dec_ascii {s : List UInt8} {p : Nat} (h : p < s.length) (ha : sat s p < 128) : Utf8.decode ⟨s.toArray⟩ p = ((s.getD p 0).toNat, 1) := by
 have e : s.getD p 0 = s[p] := by simp [h]
 unfold sat at ha
 rw [e] at ha ⊢
 have := decode_ascii ⟨s.toArray⟩ p (by simpa [ByteArray.size] using h) (by
   have : (ByteArray.mk s.toArray)[p]'(by simpa [ByteArray.size] using h) = s[p] := rfl
   rw [this]; omega)
 exact this
theorem dec_high {s : List UInt8} {p : Nat} (h : p < s.length) (ha : 128 ≤ sat s p) : 128 ≤ (Utf8.decode ⟨s.toArray⟩ p).1 := by
 have e : s.getD p 0 = s[p] := by simp [h]
 unfold sat at ha
 rw [e] at ha
 exact (decode_high ⟨s.toArray⟩ p (by simpa [ByteArray.size] using h) (by
   have : (ByteArray.mk s.toArray)[p]'(by simpa [ByteArray.size] using h) = s[p] := rfl
   rw [this]; omega)).1
theorem sat_range (s : List UInt8) (i : Nat) : 0 ≤ sat s i ∧ sat s i ≤ 255 := by
 unfold sat
 have := (s.getD i 0).toNat_lt
 omega
theorem tv_false {s : List UInt8} {i : Nat} (hi : i < s.length) (h : cls (sat s i) = 0) : tv s = false := by
 cases e : tv s with
 | false => rfl
 | true => exact absurd h (tv_at e hi)
theorem tv_all {s : List UInt8} (h : ∀ j, j < s.length → cls (sat s j) ≠ 0) : tv s = decide (s.length ≤ 2000) := by
 unfold tv
 rw [decide_eq_decide]
 refine ⟨fun h => h.2, fun h2 => ⟨fun c hc => ?_, h2⟩⟩
 obtain ⟨j, hj, rfl⟩ := List.getElem_of_mem hc
 have := h j hj
 unfold sat at this
 simpa [hj] using this
theorem rowAt_map {α : Type} (f : α → List D) (d : α) {l : List α} {i : Nat} (h : (i : Int) < (l.length : Int)) : rowAt (l.map f) i = f (l.getD i d) := by
 have h' : i < l.length := by omega
 simp [rowAt, h']
structure Nd where
 id : Int
 par : Int
 kind : Int
 cls : Int
 txt : List UInt8
 deriving DecidableEq
structure Ts where
 kind : Int
 cls : Int
 id : Int
 child : Bool
 deriving DecidableEq
def nd0 : Nd := ⟨0, 0, 0, 0, []⟩
def ts0 : Ts := ⟨0, 0, 0, false⟩
def nrow (n : Nd) : List D := [.int .i64 n.id, .int .i64 n.par, .int .i64 n.kind, .int .i64 n.cls, .str n.txt]
def trow (t : Ts) : List D := [.int .i64 t.kind, .int .i64 t.cls, .int .i64 t.id, .bool t.child]
def irow (v : Int) : List D := [.int .i64 v]
def nat (l : List Nd) (i : Nat) : Nd := l.getD i nd0
def tat (l : List Ts) (i : Nat) : Ts := l.getD i ts0
def iat (l : List Int) (i : Nat) : Int := l.getD i 0
theorem rowAt_n {l : List Nd} {i : Nat} (h : (i : Int) < (l.length : Int)) : rowAt (l.map nrow) i = nrow (nat l i) := rowAt_map nrow _ h
theorem rowAt_t {l : List Ts} {i : Nat} (h : (i : Int) < (l.length : Int)) : rowAt (l.map trow) i = trow (tat l i) := rowAt_map trow _ h
theorem rowAt_i {l : List Int} {i : Nat} (h : (i : Int) < (l.length : Int)) : rowAt (l.map irow) i = irow (iat l i) := rowAt_map irow _ h
def idB (n : Int) : Bool := decide (1 ≤ n ∧ n ≤ 1000000)
def stP (k i : Int) : Bool := if i = 7 then decide (k = 8) else if i = 8 then decide (k = 9) else if i = 2 ∨ i = 11 ∨ i = 10 then false else decide (k ≠ 8 ∧ k ≠ 9)
def stR (k i : Int) : Bool := if k = 8 then decide (i = 7) else if k = 9 then decide (i = 8) else decide (i = 1 ∨ i = 3 ∨ i = 4 ∨ i = 5 ∨ i = 6 ∨ i = 9)
theorem stP_eq {k i : Int} (h : 1 ≤ i ∧ i ≤ 11) : stP k i = stR k i := by
 unfold stP stR
 rw [Bool.eq_iff_iff]
 by_cases k8 : k = 8 <;> by_cases k9 : k = 9 <;> by_cases i7 : i = 7 <;> by_cases i8 : i = 8 <;> by_cases i2 : i = 2 ∨ i = 11 ∨ i = 10 <;> simp [k8, k9, i7, i8, i2] <;> omega
def fmB (n : Nd) : Bool := decide (1 ≤ n.id ∧ n.id ≤ 1000000 ∧ 0 ≤ n.par ∧ n.par ≤ 1000000 ∧ 1 ≤ n.kind ∧ n.kind ≤ 11 ∧ 0 ≤ n.cls ∧ n.cls ≤ 100) && tv n.txt && decide (n.txt = [] ∨ n.kind = 2 ∨ n.kind = 11)
def tsB (t : Ts) : Bool := decide (0 ≤ t.kind ∧ t.kind ≤ 11 ∧ 0 ≤ t.cls ∧ t.cls ≤ 100 ∧ 0 ≤ t.id ∧ t.id ≤ 1000000)
def fuB (n : Nd) (t : Ts) : Bool := decide ((t.kind = 0 ∨ t.kind = n.kind) ∧ (t.cls = 0 ∨ t.cls = n.cls) ∧ (t.id = 0 ∨ t.id = n.id))
attribute [local go_sem] List.length_map rowAt_n nrow rowAt_t trow rowAt_i irow
theorem class_w (c : Int) : PCall Tryz.prog (.func 198) [.int .u8 c] (.int .i64 (cls c)) := by
 refine PCall.le ?_
 refine fn_ Tryz.func198 (by rfl) (by rfl) (rs := [.tmp 2]) (by rfl) (by simp [Tryz.f198]) ?_
 refine sr_ [0] [] [] fun κ ξ hκ hξ => ?_
 simp +decide only [go_sem]
 refine hκ _ _ ?_
 refine sq ?_
 refine bl ?_
 refine sr_ [0, 3] [] [] fun κ ξ hκ hξ => ?_
 simp +decide only [go_sem]
 refine hκ _ _ ?_
 refine cd_ (fun c0 => ?_) (fun c0 => ?_)
 ·try simp only [go_sem] at c0
  refine sr_ [2] [] [] fun κ ξ hκ hξ => ?_
  simp +decide only [go_sem, c0]
  refine hκ _ _ ?_
  refine rt ?_
  refine retE ?_
  simp +decide only [go_sem, resD, resV, c0]
  all_goals congr 1; all_goals unfold cls; all_goals repeat (first | rw [if_pos (by omega)] | rw [if_neg (by omega)])
 ·try simp only [go_sem] at c0
  refine sr_ [0, 6] [] [] fun κ ξ hκ hξ => ?_
  simp +decide only [go_sem, c0]
  refine hκ _ _ ?_
  refine cd_ (fun c1 => ?_) (fun c1 => ?_)
  ·try simp only [go_sem] at c1
   refine sr_ [2] [] [] fun κ ξ hκ hξ => ?_
   simp +decide only [go_sem, c1]
   refine hκ _ _ ?_
   refine rt ?_
   refine retE ?_
   simp +decide only [go_sem, resD, resV, c0, c1]
   all_goals congr 1; all_goals unfold cls; all_goals repeat (first | rw [if_pos (by omega)] | rw [if_neg (by omega)])
  ·try simp only [go_sem] at c1
   refine sr_ [0, 9] [] [(2, 12)] fun κ ξ hκ hξ => ?_
   simp +decide only [go_sem, c1]
   refine hκ _ _ ?_
   refine cd_ (fun c2 => ?_) (fun c2 => ?_)
   ·try simp only [go_sem] at c2
    refine sr_ [2] [] [] fun κ ξ hκ hξ => ?_
    simp +decide only [go_sem]
    refine hκ _ _ ?_
    refine rt ?_
    refine retE ?_
    simp +decide only [go_sem, resD, resV, c0, c1, c2]
    all_goals congr 1; all_goals unfold cls; all_goals repeat (first | rw [if_pos (by omega)] | rw [if_neg (by omega)])
   ·try simp only [go_sem] at c2
    refine sr_ [0, 16] [] [(2, 19)] fun κ ξ hκ hξ => ?_
    simp +decide only [go_sem, c2]
    refine hκ _ _ ?_
    refine cd_ (fun c3 => ?_) (fun c3 => ?_)
    ·try simp only [go_sem] at c3
     refine sr_ [2] [] [] fun κ ξ hκ hξ => ?_
     simp +decide only [go_sem, c3]
     refine hκ _ _ ?_
     refine rt ?_
     refine retE ?_
     simp +decide only [go_sem, resD, resV, c0, c1, c2, c3]
     all_goals congr 1; all_goals unfold cls; all_goals repeat (first | rw [if_pos (by omega)] | rw [if_neg (by omega)])
    ·try simp only [go_sem] at c3
     refine sr_ [0, 23] [] [(2, 26)] fun κ ξ hκ hξ => ?_
     simp +decide only [go_sem]
     refine hκ _ _ ?_
     refine cd_ (fun c4 => ?_) (fun c4 => ?_)
     ·try simp only [go_sem] at c4
      refine sr_ [2] [] [] fun κ ξ hκ hξ => ?_
      simp +decide only [go_sem, c4]
      refine hκ _ _ ?_
      refine rt ?_
      refine retE ?_
      simp +decide only [go_sem, resD, resV, c0, c1, c2, c3, c4]
      all_goals congr 1; all_goals unfold cls; all_goals repeat (first | rw [if_pos (by omega)] | rw [if_neg (by omega)])
     ·try simp only [go_sem] at c4
      refine sr_ [30] [] [(2, 33)] fun κ ξ hκ hξ => ?_
      simp +decide only [go_sem]
      refine hκ _ _ ?_
      refine cd_ (fun c5 => ?_) (fun c5 => ?_)
      ·try simp only [go_sem] at c5
       refine sr_ [2] [] [] fun κ ξ hκ hξ => ?_
       simp +decide only [go_sem, c5]
       refine hκ _ _ ?_
       refine rt ?_
       refine retE ?_
       simp +decide only [go_sem, resD, resV, c0, c1, c2, c3, c4, c5]
       all_goals congr 1; all_goals unfold cls; all_goals repeat (first | rw [if_pos (by omega)] | rw [if_neg (by omega)])
      ·try simp only [go_sem] at c5
       refine sk ?_
       refine sr_ [2] [] [] fun κ ξ hκ hξ => ?_
       simp +decide only [go_sem]
       refine hκ _ _ ?_
       refine rt ?_
       refine retE ?_
       simp +decide only [go_sem, resD, resV, c0, c1, c2, c3, c4, c5]
       all_goals congr 1; all_goals unfold cls; all_goals repeat (first | rw [if_pos (by omega)] | rw [if_neg (by omega)])
theorem rclass_w (c : Int) : PCall Tryz.prog (.func 171) [.int .u8 c] (.int .i64 (cls c)) := by
 refine PCall.le ?_
 refine fn_ Tryz.func171 (by rfl) (by rfl) (rs := [.tmp 2]) (by rfl) (by simp [Tryz.f171]) ?_
 refine sr_ [0] [] [] fun κ ξ hκ hξ => ?_
 simp +decide only [go_sem]
 refine hκ _ _ ?_
 refine sq ?_
 refine sr_ [0, 8] [] [(2, 5)] fun κ ξ hκ hξ => ?_
 simp +decide only [go_sem]
 refine hκ _ _ ?_
 refine cd_ (fun c0 => ?_) (fun c0 => ?_)
 ·try simp only [go_sem] at c0
  refine sr_ [2] [] [] fun κ ξ hκ hξ => ?_
  simp +decide only [go_sem, c0]
  refine hκ _ _ ?_
  refine rt ?_
  refine retE ?_
  simp +decide only [go_sem, resD, resV, c0]
  all_goals congr 1; all_goals unfold cls; all_goals repeat (first | rw [if_pos (by omega)] | rw [if_neg (by omega)])
 ·try simp only [go_sem] at c0
  refine sk ?_
  refine sq ?_
  refine sr_ [0, 14] [] [(2, 11)] fun κ ξ hκ hξ => ?_
  simp +decide only [go_sem]
  refine hκ _ _ ?_
  refine cd_ (fun c1 => ?_) (fun c1 => ?_)
  ·try simp only [go_sem] at c1
   refine sr_ [2] [] [] fun κ ξ hκ hξ => ?_
   simp +decide only [go_sem, c1]
   refine hκ _ _ ?_
   refine rt ?_
   refine retE ?_
   simp +decide only [go_sem, resD, resV, c0, c1]
   all_goals congr 1; all_goals unfold cls; all_goals repeat (first | rw [if_pos (by omega)] | rw [if_neg (by omega)])
  ·try simp only [go_sem] at c1
   refine sk ?_
   refine sq ?_
   refine sr_ [0, 20] [] [(2, 17)] fun κ ξ hκ hξ => ?_
   simp +decide only [go_sem]
   refine hκ _ _ ?_
   refine cd_ (fun c2 => ?_) (fun c2 => ?_)
   ·try simp only [go_sem] at c2
    refine sr_ [2] [] [] fun κ ξ hκ hξ => ?_
    simp +decide only [go_sem, c2]
    refine hκ _ _ ?_
    refine rt ?_
    refine retE ?_
    simp +decide only [go_sem, resD, resV, c0, c1, c2]
    all_goals congr 1; all_goals unfold cls; all_goals repeat (first | rw [if_pos (by omega)] | rw [if_neg (by omega)])
   ·try simp only [go_sem] at c2
    refine sk ?_
    refine sq ?_
    refine sr_ [0, 22] [] [] fun κ ξ hκ hξ => ?_
    simp +decide only [go_sem]
    refine hκ _ _ ?_
    refine cd_ (fun c3 => ?_) (fun c3 => ?_)
    ·try simp only [go_sem] at c3
     refine sr_ [2] [] [] fun κ ξ hκ hξ => ?_
     simp +decide only [go_sem, c3]
     refine hκ _ _ ?_
     refine rt ?_
     refine retE ?_
     simp +decide only [go_sem, resD, resV, c0, c1, c2, c3]
     all_goals congr 1; all_goals unfold cls; all_goals repeat (first | rw [if_pos (by omega)] | rw [if_neg (by omega)])
    ·try simp only [go_sem] at c3
     refine sk ?_
     refine sq ?_
     refine sr_ [0, 24] [] [] fun κ ξ hκ hξ => ?_
     simp +decide only [go_sem, c3]
     refine hκ _ _ ?_
     refine cd_ (fun c4 => ?_) (fun c4 => ?_)
     ·try simp only [go_sem] at c4
      refine sr_ [2] [] [] fun κ ξ hκ hξ => ?_
      simp +decide only [go_sem, c4]
      refine hκ _ _ ?_
      refine rt ?_
      refine retE ?_
      simp +decide only [go_sem, resD, resV, c0, c1, c2, c3, c4]
      all_goals congr 1; all_goals unfold cls; all_goals repeat (first | rw [if_pos (by omega)] | rw [if_neg (by omega)])
     ·try simp only [go_sem] at c4
      refine sk ?_
      refine sq ?_
      refine sr_ [30] [] [(2, 27)] fun κ ξ hκ hξ => ?_
      simp +decide only [go_sem, c4]
      refine hκ _ _ ?_
      refine cd_ (fun c5 => ?_) (fun c5 => ?_)
      ·try simp only [go_sem] at c5
       refine sr_ [2] [] [] fun κ ξ hκ hξ => ?_
       simp +decide only [go_sem, c5]
       refine hκ _ _ ?_
       refine rt ?_
       refine retE ?_
       simp +decide only [go_sem, resD, resV, c0, c1, c2, c3, c4, c5]
       all_goals congr 1; all_goals unfold cls; all_goals repeat (first | rw [if_pos (by omega)] | rw [if_neg (by omega)])
      ·try simp only [go_sem] at c5
       refine sk ?_
       refine sr_ [2] [] [] fun κ ξ hκ hξ => ?_
       simp +decide only [go_sem]
       refine hκ _ _ ?_
       refine rt ?_
       refine retE ?_
       simp +decide only [go_sem, resD, resV, c0, c1, c2, c3, c4, c5]
       all_goals congr 1; all_goals unfold cls; all_goals repeat (first | rw [if_pos (by omega)] | rw [if_neg (by omega)])
theorem rtv_w (s : List UInt8) : PCall Tryz.prog (.func 119) [.str s] (.bool (tv s)) := by
 refine PCall.ok fun hok => ?_
 simp only [okAll, D.ok, okRows, and_true, true_and, lim_eq, inR_i64', inR_i32', inR_u8', inR_u16', inR_u64'] at hok
 refine PCall.le ?_
 refine fn_ Tryz.func119 (by rfl) (by rfl) (rs := [.tmp 2]) (by rfl) (by simp [Tryz.f119]) ?_
 refine sr_ [0] [] [] fun κ ξ hκ hξ => ?_
 simp +decide only [go_sem]
 refine hκ _ _ ?_
 refine sq ?_
 refine sr_ [0, 3] [] [] fun κ ξ hκ hξ => ?_
 simp +decide only [go_sem]
 refine hκ _ _ ?_
 refine bl ?_
 refine lp (α := Nat) (fun i => mk [(0, .str s), (3, .int .i64 i)]) (fun _ => []) (fun i => i ≤ s.length ∧ ∀ j, j < i → cls (s.getD j 0).toNat ≠ 0) (fun i => s.length - i) 0 ⟨⟨by omega, by intro j hj; omega⟩, EnvLe.of_eq rfl, .refl _⟩ ?_
 rintro i ⟨hi, hj⟩
 refine sq ?_
 refine sr_ [0, 3, 7] [] [] fun κ ξ hκ hξ => ?_
 simp +decide only [go_sem]
 refine hκ _ _ ?_
 refine cd_ (fun c0 => ?_) (fun c0 => ?_)
 ·try simp only [go_sem] at c0
  refine sk ?_
  refine sq ?_
  refine bl ?_
  refine sr_ [0, 3, 14] [] [] fun κ ξ hκ hξ => ?_
  simp +decide only [go_sem, c0]
  repeat with_reducible refine an_ ?_
  refine callF (rclass_w _) ?_
  simp +decide only [go_sem]
  refine hκ _ _ ?_
  refine cd_ (fun c1 => ?_) (fun c1 => ?_)
  ·try simp only [go_sem] at c1
   refine sr_ [2] [] [] fun κ ξ hκ hξ => ?_
   simp +decide only [go_sem, c1]
   refine hκ _ _ ?_
   refine rt ?_
   refine retE ?_
   simp +decide only [go_sem, resD, resV, c0, c1]
   congr 1
   unfold tv
   symm
   rw [decide_eq_false_iff_not]
   rintro ⟨h, _⟩
   refine h (s.getD i 0) ?_ (by assumption)
   rw [List.getD_eq_getElem?_getD, List.getElem?_eq_getElem (by omega)]
   exact List.getElem_mem _
  ·try simp only [go_sem] at c1
   refine sk ?_
   refine rr_ [0, 3] [] [] fun κ ξ hκ hξ => ?_
   simp +decide only [go_sem, c1]
   refine hκ _ _ ?_
   refine ⟨i + 1, ⟨⟨by omega, ?_⟩, by omega⟩, EnvLe.of_eq (by rw [w64 (by omega)]; rfl), .refl _⟩
   intro j h
   rcases Nat.lt_succ_iff_lt_or_eq.1 h with h | rfl
   ·exact hj j h
   ·assumption
 ·try simp only [go_sem] at c0
  refine ex ?_
  refine sr_ [2] [] [] fun κ ξ hκ hξ => ?_
  simp +decide only [go_sem, c0]
  refine hκ _ _ ?_
  refine rt ?_
  refine retE ?_
  simp +decide only [go_sem, resD, resV, c0]
  congr 1
  unfold tv
  rw [decide_eq_decide]
  have e : i = s.length := by omega
  subst e
  refine ⟨fun h => ⟨fun c hc => ?_, by omega⟩, fun h => by omega⟩
  obtain ⟨j, hj', rfl⟩ := List.getElem_of_mem hc
  simpa [hj'] using hj j hj'
theorem tv_w (s : List UInt8) : PCall Tryz.prog (.func 162) [.str s] (.bool (tv s)) := by
 refine PCall.ok fun hok => ?_
 simp only [okAll, D.ok, okRows, and_true, true_and, lim_eq, inR_i64', inR_i32', inR_u8', inR_u16', inR_u64'] at hok
 refine PCall.le ?_
 refine fn_ Tryz.func162 (by rfl) (by rfl) (rs := [.tmp 2]) (by rfl) (by simp [Tryz.f162]) ?_
 refine sr_ [0] [] [] fun κ ξ hκ hξ => ?_
 simp +decide only [go_sem]
 refine hκ _ _ ?_
 refine sq ?_
 refine sr_ [0, 6] [] [] fun κ ξ hκ hξ => ?_
 simp +decide only [go_sem]
 intro b6 hb6
 refine hκ _ _ ?_
 refine bl ?_
 refine lp (α := Nat) (fun p => mk [(0, .str s), (6, .ptr b6 0)]) (fun p => [(b6, .siter s p)]) (fun p => p ≤ s.length ∧ ∀ j, j < p → cls (sat s j) ≠ 0) (fun p => s.length - p) 0 ⟨⟨by omega, by intro j hj; omega⟩, EnvLe.of_eq rfl, .refl _⟩ ?_
 rintro p ⟨hi, hj⟩
 refine sr_ [0, 6, 7, 8] [] [] fun κ ξ hκ hξ => ?_
 simp +decide only [go_sem]
 repeat with_reducible refine an_ ?_
 refine ⟨?_, ?_⟩ <;> intro hp7
 ·refine hκ _ _ ?_
  refine sq ?_
  refine cdt (by rfl) ?_
  refine sk ?_
  refine bl ?_
  refine sr_ [0, 4, 6] [] [] fun κ ξ hκ hξ => ?_
  simp +decide only [go_sem]
  have hdec : sat s p < 128 → Utf8.decode ⟨s.toArray⟩ p = ((s.getD p 0).toNat, 1) := dec_ascii hp7
  have hhigh : 128 ≤ sat s p → 128 ≤ (Utf8.decode ⟨s.toArray⟩ p).1 := dec_high hp7
  have hsr := sat_range s p
  have hrn : ((Utf8.decode ⟨s.toArray⟩ p).1 : Int) ≤ 2147483647 := by have := decode_le ⟨s.toArray⟩ p; omega
  refine hκ _ _ ?_
  refine sr_ [0, 6, 17] [] [(2, 12)] fun κ ξ hκ hξ => ?_
  simp +decide only [go_sem]
  refine vo_gc ?_
  simp +decide only [go_sem]
  refine gcF (class_w _) ?_
  simp +decide only [go_sem]
  refine hκ _ _ ?_
  refine cd_ (fun c0 => ?_) (fun c0 => ?_)
  ·try simp only [go_sem] at c0
   refine sr_ [2] [] [] fun κ ξ hκ hξ => ?_
   simp +decide only [go_sem]
   refine hκ _ _ ?_
   refine rt ?_
   refine retE ?_
   simp +decide only [go_sem, resD, resV, hb6, hp7, c0]
   rw [tv_false hp7 ?_]
   rcases Int.lt_or_le (sat s p) 128 with ha | ha
   ·rw [hdec ha] at c0
    rw [wu8 (by unfold sat at ha; omega)] at c0
    rcases c0 with c0 | c0
    ·exact Classical.byContradiction fun hh => by have := cls_bounds hh; unfold sat at this; omega
    ·exact c0
   ·exact Classical.byContradiction fun hh => by have := cls_bounds hh; omega
  ·try simp only [go_sem] at c0
   refine sk ?_
   have ha : sat s p < 128 := by rcases c0 with ⟨c0, _⟩; omega
   rw [hdec ha]
   have hc : cls (sat s p) ≠ 0 := by
    rcases c0 with ⟨_, c0⟩
    rw [hdec ha, wu8 (by unfold sat at ha; omega)] at c0
    exact c0
   refine ⟨p + 1, ⟨⟨by omega, ?_⟩, by omega⟩, EnvLe.of_l ⟨rfl, rfl, trivial⟩, .refl _⟩
   intro j h
   rcases Nat.lt_succ_iff_lt_or_eq.1 h with h | rfl
   ·exact hj j h
   ·exact hc
 ·refine hκ _ _ ?_
  refine sq ?_
  refine cdf (by rfl) ?_
  refine ex ?_
  refine sr_ [2] [] [] fun κ ξ hκ hξ => ?_
  simp +decide only [go_sem]
  refine hκ _ _ ?_
  refine rt ?_
  refine retE ?_
  simp +decide only [go_sem, resD, resV, hb6, hp7]
  rw [tv_all fun j h => hj j (by omega)]
  congr 1
  rw [decide_eq_decide]
  omega
theorem isid_w (n : Int) : PCall Tryz.prog (.func 81) [.int .i64 n] (.bool (idB n)) := by
 refine PCall.le ?_
 refine fn_ Tryz.func81 (by rfl) (by rfl) (rs := [.tmp 2]) (by rfl) (by simp [Tryz.f81]) ?_
 refine sr_ [0] [] [] fun κ ξ hκ hξ => ?_
 simp +decide only [go_sem]
 refine hκ _ _ ?_
 refine sr_ [2] [] [(2, 5)] fun κ ξ hκ hξ => ?_
 simp +decide only [go_sem]
 refine hκ _ _ ?_
 refine rt ?_
 refine retE ?_
 simp +decide only [go_sem, resD, resV]
 all_goals congr 1
 all_goals rw [Bool.eq_iff_iff]
 all_goals simp [idB]
 all_goals omega
theorem rid_w (n : Int) : PCall Tryz.prog (.func 62) [.int .i64 n] (.bool (idB n)) := by
 refine PCall.le ?_
 refine fn_ Tryz.func62 (by rfl) (by rfl) (rs := [.tmp 2]) (by rfl) (by simp [Tryz.f62]) ?_
 refine sr_ [0] [] [] fun κ ξ hκ hξ => ?_
 simp +decide only [go_sem]
 refine hκ _ _ ?_
 refine sr_ [2] [] [(2, 5)] fun κ ξ hκ hξ => ?_
 simp +decide only [go_sem]
 refine hκ _ _ ?_
 refine rt ?_
 refine retE ?_
 simp +decide only [go_sem, resD, resV]
 all_goals congr 1
 all_goals rw [Bool.eq_iff_iff]
 all_goals simp [idB]
 all_goals omega
theorem stands_w (k i : Int) : PCall Tryz.prog (.func 105) [.int .i64 k, .int .i64 i] (.bool (stP k i)) := by
 refine PCall.le ?_
 refine fn_ Tryz.func105 (by rfl) (by rfl) (rs := [.tmp 4]) (by rfl) (by simp [Tryz.f105]) ?_
 refine sr_ [0, 1] [] [] fun κ ξ hκ hξ => ?_
 simp +decide only [go_sem]
 refine hκ _ _ ?_
 refine sq ?_
 refine sr_ [0, 5] [] [] fun κ ξ hκ hξ => ?_
 simp +decide only [go_sem]
 refine hκ _ _ ?_
 refine bl ?_
 refine sr_ [0, 5, 6] [] [] fun κ ξ hκ hξ => ?_
 simp +decide only [go_sem]
 refine hκ _ _ ?_
 refine cd_ (fun c0 => ?_) (fun c0 => ?_)
 ·try simp only [go_sem] at c0
  refine sr_ [4] [] [] fun κ ξ hκ hξ => ?_
  simp +decide only [go_sem, c0]
  refine hκ _ _ ?_
  refine rt ?_
  refine retE ?_
  simp +decide only [go_sem, resD, resV, c0]
  all_goals congr 1
  all_goals unfold stP
  all_goals (repeat (first | rw [if_pos (by omega)] | rw [if_neg (by omega)]))
  all_goals (first | rfl | (rw [Bool.eq_iff_iff]; simp; done) | (rw [Bool.eq_iff_iff]; simp; omega))
 ·try simp only [go_sem] at c0
  refine sr_ [0, 5, 10] [] [] fun κ ξ hκ hξ => ?_
  simp +decide only [go_sem, c0]
  refine hκ _ _ ?_
  refine cd_ (fun c1 => ?_) (fun c1 => ?_)
  ·try simp only [go_sem] at c1
   refine sr_ [4] [] [] fun κ ξ hκ hξ => ?_
   simp +decide only [go_sem, c1]
   refine hκ _ _ ?_
   refine rt ?_
   refine retE ?_
   simp +decide only [go_sem, resD, resV, c0, c1]
   all_goals congr 1
   all_goals unfold stP
   all_goals (repeat (first | rw [if_pos (by omega)] | rw [if_neg (by omega)]))
   all_goals (first | rfl | (rw [Bool.eq_iff_iff]; simp; done) | (rw [Bool.eq_iff_iff]; simp; omega))
  ·try simp only [go_sem] at c1
   refine sq ?_
   refine sr_ [0, 5, 14] [] [] fun κ ξ hκ hξ => ?_
   simp +decide only [go_sem, c1]
   refine hκ _ _ ?_
   refine cd_ (fun c2 => ?_) (fun c2 => ?_)
   ·try simp only [go_sem] at c2
    refine sk ?_
    refine cd_ (fun c3 => ?_) (fun c3 => ?_)
    ·try simp only [go_sem] at c3
     refine sr_ [4] [] [] fun κ ξ hκ hξ => ?_
     simp +decide only [go_sem, c2]
     refine hκ _ _ ?_
     refine rt ?_
     refine retE ?_
     simp +decide only [go_sem, resD, resV, c0, c1, c2, c3]
     all_goals congr 1
     all_goals unfold stP
     all_goals (repeat (first | rw [if_pos (by omega)] | rw [if_neg (by omega)]))
     all_goals (first | rfl | (rw [Bool.eq_iff_iff]; simp; done) | (rw [Bool.eq_iff_iff]; simp; omega))
    ·try simp only [go_sem] at c3
     refine sk ?_
     refine sr_ [4] [] [(2, 20)] fun κ ξ hκ hξ => ?_
     simp +decide only [go_sem, c2]
     refine hκ _ _ ?_
     refine rt ?_
     refine retE ?_
     simp +decide only [go_sem, resD, resV, c0, c1, c2, c3]
     all_goals congr 1
     all_goals unfold stP
     all_goals (repeat (first | rw [if_pos (by omega)] | rw [if_neg (by omega)]))
     all_goals (first | rfl | (rw [Bool.eq_iff_iff]; simp; done) | (rw [Bool.eq_iff_iff]; simp; omega))
   ·try simp only [go_sem] at c2
    refine sr_ [0, 5, 14] [] [] fun κ ξ hκ hξ => ?_
    simp +decide only [go_sem, c2]
    refine hκ _ _ ?_
    refine cd_ (fun c4 => ?_) (fun c4 => ?_)
    ·try simp only [go_sem] at c4
     refine sk ?_
     refine cd_ (fun c5 => ?_) (fun c5 => ?_)
     ·try simp only [go_sem] at c5
      refine sr_ [4] [] [] fun κ ξ hκ hξ => ?_
      simp +decide only [go_sem, c4]
      refine hκ _ _ ?_
      refine rt ?_
      refine retE ?_
      simp +decide only [go_sem, resD, resV, c0, c1, c2, c4, c5]
      all_goals congr 1
      all_goals unfold stP
      all_goals (repeat (first | rw [if_pos (by omega)] | rw [if_neg (by omega)]))
      all_goals (first | rfl | (rw [Bool.eq_iff_iff]; simp; done) | (rw [Bool.eq_iff_iff]; simp; omega))
     ·try simp only [go_sem] at c5
      refine sk ?_
      refine sr_ [4] [] [(2, 20)] fun κ ξ hκ hξ => ?_
      simp +decide only [go_sem, c4]
      refine hκ _ _ ?_
      refine rt ?_
      refine retE ?_
      simp +decide only [go_sem, resD, resV, c0, c1, c2, c4, c5]
      all_goals congr 1
      all_goals unfold stP
      all_goals (repeat (first | rw [if_pos (by omega)] | rw [if_neg (by omega)]))
      all_goals (first | rfl | (rw [Bool.eq_iff_iff]; simp; done) | (rw [Bool.eq_iff_iff]; simp; omega))
    ·try simp only [go_sem] at c4
     refine rr_ [0, 14] [] [] fun κ ξ hκ hξ => ?_
     simp +decide only [go_sem, c4]
     refine hκ _ _ ?_
     refine cd_ (fun c6 => ?_) (fun c6 => ?_)
     ·try simp only [go_sem] at c6
      refine sr_ [4] [] [] fun κ ξ hκ hξ => ?_
      simp +decide only [go_sem, c6]
      refine hκ _ _ ?_
      refine rt ?_
      refine retE ?_
      simp +decide only [go_sem, resD, resV, c0, c1, c2, c4, c6]
      all_goals congr 1
      all_goals unfold stP
      all_goals (repeat (first | rw [if_pos (by omega)] | rw [if_neg (by omega)]))
      all_goals (first | rfl | (rw [Bool.eq_iff_iff]; simp; done) | (rw [Bool.eq_iff_iff]; simp; omega))
     ·try simp only [go_sem] at c6
      refine sk ?_
      refine sr_ [4] [] [(2, 20)] fun κ ξ hκ hξ => ?_
      simp +decide only [go_sem, c6]
      refine hκ _ _ ?_
      refine rt ?_
      refine retE ?_
      simp +decide only [go_sem, resD, resV, c0, c1, c2, c4, c6]
      all_goals congr 1
      all_goals unfold stP
      all_goals (repeat (first | rw [if_pos (by omega)] | rw [if_neg (by omega)]))
      all_goals (first | rfl | (rw [Bool.eq_iff_iff]; simp; done) | (rw [Bool.eq_iff_iff]; simp; omega))
theorem rstands_w (k i : Int) : PCall Tryz.prog (.func 120) [.int .i64 k, .int .i64 i] (.bool (stR k i)) := by
 refine PCall.le ?_
 refine fn_ Tryz.func120 (by rfl) (by rfl) (rs := [.tmp 4]) (by rfl) (by simp [Tryz.f120]) ?_
 refine sr_ [0, 1] [] [] fun κ ξ hκ hξ => ?_
 simp +decide only [go_sem]
 refine hκ _ _ ?_
 refine sq ?_
 refine sr_ [0, 1, 6] [] [] fun κ ξ hκ hξ => ?_
 simp +decide only [go_sem]
 refine hκ _ _ ?_
 refine cd_ (fun c0 => ?_) (fun c0 => ?_)
 ·try simp only [go_sem] at c0
  refine sr_ [4] [] [] fun κ ξ hκ hξ => ?_
  simp +decide only [go_sem, c0]
  refine hκ _ _ ?_
  refine rt ?_
  refine retE ?_
  simp +decide only [go_sem, resD, resV, c0]
  all_goals congr 1
  all_goals unfold stR
  all_goals (repeat (first | rw [if_pos (by omega)] | rw [if_neg (by omega)]))
  all_goals (first | rfl | (rw [Bool.eq_iff_iff]; simp; done) | (rw [Bool.eq_iff_iff]; simp; omega))
 ·try simp only [go_sem] at c0
  refine sk ?_
  refine sq ?_
  refine sr_ [1, 10] [] [] fun κ ξ hκ hξ => ?_
  simp +decide only [go_sem, c0]
  refine hκ _ _ ?_
  refine cd_ (fun c1 => ?_) (fun c1 => ?_)
  ·try simp only [go_sem] at c1
   refine sr_ [4] [] [] fun κ ξ hκ hξ => ?_
   simp +decide only [go_sem, c1]
   refine hκ _ _ ?_
   refine rt ?_
   refine retE ?_
   simp +decide only [go_sem, resD, resV, c0, c1]
   all_goals congr 1
   all_goals unfold stR
   all_goals (repeat (first | rw [if_pos (by omega)] | rw [if_neg (by omega)]))
   all_goals (first | rfl | (rw [Bool.eq_iff_iff]; simp; done) | (rw [Bool.eq_iff_iff]; simp; omega))
  ·try simp only [go_sem] at c1
   refine sk ?_
   refine sr_ [4] [] [(2, 15), (6, 19), (10, 23), (14, 27), (18, 31)] fun κ ξ hκ hξ => ?_
   simp +decide only [go_sem, c1]
   refine hκ _ _ ?_
   refine rt ?_
   refine retE ?_
   simp +decide only [go_sem, resD, resV, c0, c1]
   all_goals congr 1
   all_goals unfold stR
   all_goals (repeat (first | rw [if_pos (by omega)] | rw [if_neg (by omega)]))
   all_goals (first | rfl | (rw [Bool.eq_iff_iff]; simp; done) | (rw [Bool.eq_iff_iff]; simp; omega))
theorem formed_w (n : Nd) : PCall Tryz.prog (.func 104) [.ag (nrow n)] (.bool (fmB n)) := by
 refine PCall.le ?_
 refine fn_ Tryz.func104 (by rfl) (by rfl) (rs := [.tmp 2]) (by rfl) (by simp [Tryz.f104]) ?_
 refine sr_ [1] [1] [] fun κ ξ hκ hξ => ?_
 simp +decide only [go_sem]
 refine hκ _ _ ?_
 refine sr_ [1, 3] [] [(3, 7)] fun κ ξ hκ hξ => ?_
 simp +decide only [go_sem]
 refine hκ _ _ ?_
 refine sr_ [2] [] [(3, 15), (7, 19), (13, 25), (18, 30), (23, 35), (28, 40), (33, 45), (38, 50), (40, 52)] fun κ ξ hκ hξ => ?_
 simp +decide only [go_sem]
 refine callF (isid_w _) ?_
 simp +decide only [go_sem]
 refine vo_gc ?_
 simp +decide only [go_sem]
 refine gcF (isid_w _) ?_
 simp +decide only [go_sem]
 repeat with_reducible refine an_ ?_
 refine vo_gc ?_
 simp +decide only [go_sem]
 refine gcF (tv_w _) ?_
 simp +decide only [go_sem]
 repeat with_reducible refine an_ ?_
 refine hκ _ _ ?_
 refine rt ?_
 refine retE ?_
 simp +decide only [go_sem, resD, resV]
 all_goals congr 1
 all_goals rw [Bool.eq_iff_iff]
 all_goals simp [fmB, idB]
 all_goals cases tv n.txt <;> by_cases ht : n.txt = [] <;> simp [ht] <;> omega
theorem rnode_w (n : Nd) : PCall Tryz.prog (.func 76) [.ag (nrow n)] (.bool (fmB n)) := by
 refine PCall.le ?_
 refine fn_ Tryz.func76 (by rfl) (by rfl) (rs := [.tmp 2]) (by rfl) (by simp [Tryz.f76]) ?_
 refine sr_ [1] [1] [] fun κ ξ hκ hξ => ?_
 simp +decide only [go_sem]
 refine hκ _ _ ?_
 refine sr_ [1, 3] [] [] fun κ ξ hκ hξ => ?_
 simp +decide only [go_sem]
 refine callF (rtv_w _) ?_
 simp +decide only [go_sem]
 refine hκ _ _ ?_
 refine sq ?_
 refine sr_ [1, 44] [] [(2, 9), (8, 15), (13, 20), (18, 25), (23, 30), (28, 35), (33, 40)] fun κ ξ hκ hξ => ?_
 simp +decide only [go_sem]
 refine vo_gc ?_
 simp +decide only [go_sem]
 refine gcF (rid_w _) ?_
 simp +decide only [go_sem]
 refine hκ _ _ ?_
 refine cd_ (fun c0 => ?_) (fun c0 => ?_)
 ·try simp only [go_sem] at c0
  refine sr_ [2] [] [] fun κ ξ hκ hξ => ?_
  simp +decide only [go_sem]
  refine hκ _ _ ?_
  refine rt ?_
  refine retE ?_
  simp +decide only [go_sem, resD, resV, c0]
  all_goals congr 1
  all_goals rw [Bool.eq_iff_iff]
  all_goals simp [idB] at c0
  all_goals simp [fmB]
  all_goals (cases htv : tv n.txt <;> simp only [htv] at c0 ⊢ <;> by_cases ht : n.txt = [] <;> simp [ht] at c0 ⊢ <;> omega)
 ·try simp only [go_sem] at c0
  refine sk ?_
  refine sr_ [2] [] [(3, 48), (8, 53)] fun κ ξ hκ hξ => ?_
  simp +decide only [go_sem, c0]
  refine hκ _ _ ?_
  refine rt ?_
  refine retE ?_
  simp +decide only [go_sem, resD, resV, c0]
  all_goals congr 1
  all_goals rw [Bool.eq_iff_iff]
  all_goals simp [idB] at c0
  all_goals simp [fmB]
  all_goals (cases htv : tv n.txt <;> simp only [htv] at c0 ⊢ <;> by_cases ht : n.txt = [] <;> simp [ht] at c0 ⊢ <;> omega)
theorem within_w (n m : Int) : PCall Tryz.prog (.func 200) [.int .i64 n, .int .i64 m] (.bool (decide (0 ≤ n ∧ n ≤ m))) := by
 refine PCall.le ?_
 refine fn_ Tryz.func200 (by rfl) (by rfl) (rs := [.tmp 4]) (by rfl) (by simp [Tryz.f200]) ?_
 refine sr_ [0, 1] [] [] fun κ ξ hκ hξ => ?_
 simp +decide only [go_sem]
 refine hκ _ _ ?_
 refine sr_ [4] [] [(2, 7)] fun κ ξ hκ hξ => ?_
 simp +decide only [go_sem]
 refine hκ _ _ ?_
 refine rt ?_
 refine retE ?_
 simp +decide only [go_sem, resD, resV]
 all_goals congr 1
 all_goals rw [Bool.eq_iff_iff]
 all_goals simp []
 all_goals omega
theorem wrong_w (t : Ts) : PCall Tryz.prog (.func 164) [.ag (trow t)] (.bool (!tsB t)) := by
 refine PCall.le ?_
 refine fn_ Tryz.func164 (by rfl) (by rfl) (rs := [.tmp 2]) (by rfl) (by simp [Tryz.f164]) ?_
 refine sr_ [1] [1] [] fun κ ξ hκ hξ => ?_
 simp +decide only [go_sem]
 refine hκ _ _ ?_
 refine sr_ [2] [] [(4, 7), (10, 13)] fun κ ξ hκ hξ => ?_
 simp +decide only [go_sem]
 refine callF (within_w _ _) ?_
 simp +decide only [go_sem]
 refine vo_gc ?_
 simp +decide only [go_sem]
 refine gcF (within_w _ _) ?_
 simp +decide only [go_sem]
 refine vo_gc ?_
 simp +decide only [go_sem]
 refine gcF (within_w _ _) ?_
 simp +decide only [go_sem]
 refine hκ _ _ ?_
 refine rt ?_
 refine retE ?_
 simp +decide only [go_sem, resD, resV]
 all_goals congr 1
 all_goals rw [Bool.eq_iff_iff]
 all_goals simp [tsB]
 all_goals omega
theorem rtest_w (t : Ts) : PCall Tryz.prog (.func 172) [.ag (trow t)] (.bool (tsB t)) := by
 refine PCall.le ?_
 refine fn_ Tryz.func172 (by rfl) (by rfl) (rs := [.tmp 2]) (by rfl) (by simp [Tryz.f172]) ?_
 refine sr_ [1] [1] [] fun κ ξ hκ hξ => ?_
 simp +decide only [go_sem]
 refine hκ _ _ ?_
 refine sr_ [2] [] [(3, 6), (8, 11), (13, 16), (18, 21), (23, 26)] fun κ ξ hκ hξ => ?_
 simp +decide only [go_sem]
 refine hκ _ _ ?_
 refine rt ?_
 refine retE ?_
 simp +decide only [go_sem, resD, resV]
 all_goals congr 1
 all_goals rw [Bool.eq_iff_iff]
 all_goals simp [tsB]
 all_goals omega
theorem rful_w (n : Nd) (t : Ts) : PCall Tryz.prog (.func 204) [.ag (nrow n), .ag (trow t)] (.bool (fuB n t)) := by
 refine PCall.le ?_
 refine fn_ Tryz.func204 (by rfl) (by rfl) (rs := [.tmp 4]) (by rfl) (by simp [Tryz.f204]) ?_
 refine sr_ [2, 3] [2, 3] [] fun κ ξ hκ hξ => ?_
 simp +decide only [go_sem]
 refine hκ _ _ ?_
 refine sq ?_
 refine sr_ [2, 3, 26] [] [(3, 8), (10, 15), (14, 19)] fun κ ξ hκ hξ => ?_
 simp +decide only [go_sem]
 repeat with_reducible refine an_ ?_
 refine hκ _ _ ?_
 refine cd_ (fun c0 => ?_) (fun c0 => ?_)
 ·try simp only [go_sem] at c0
  refine sr_ [4] [] [] fun κ ξ hκ hξ => ?_
  simp +decide only [go_sem]
  refine hκ _ _ ?_
  refine rt ?_
  refine retE ?_
  simp +decide only [go_sem, resD, resV, c0]
  all_goals congr 1
  all_goals unfold fuB
  all_goals symm
  all_goals rw [decide_eq_false_iff_not]
  all_goals omega
 ·try simp only [go_sem] at c0
  refine sk ?_
  refine sr_ [4] [] [(3, 30)] fun κ ξ hκ hξ => ?_
  simp +decide only [go_sem]
  refine hκ _ _ ?_
  refine rt ?_
  refine retE ?_
  simp +decide only [go_sem, resD, resV, c0]
  all_goals congr 1
  all_goals rw [Bool.eq_iff_iff]
  all_goals simp [fuB]
  all_goals omega
end Go.Proofs.YtinhjbnljbmbcaaGreat
/- Joined. -/
namespace Go.Proofs.YtinhjbnljbmbcaaGreat
open Go Go.RowKit
set_option linter.unusedSimpArgs false
set_option linter.unusedVariables false
set_option maxHeartbeats 4000000
set_option maxRecDepth 100000
def fixI {α : Type} (p : α → Bool) (l : List α) : Int := match l.findIdx? p with
 | some i => (i : Int)
 | none => -1
theorem fixI_some {α : Type} {p : α → Bool} {l : List α} {d : α} {i : Nat} (h : i < l.length) (h1 : p (l.getD i d) = true) (h2 : ∀ j, j < i → p (l.getD j d) = false) : fixI p l = i := by
 unfold fixI
 rw [List.findIdx?_eq_some_iff_getElem.2 ⟨h, by simpa [h] using h1, fun j hj => by have := h2 j hj; simpa [show j < l.length from by omega] using this⟩]
theorem fixI_none {α : Type} {p : α → Bool} {l : List α} {d : α} (h2 : ∀ j, j < l.length → p (l.getD j d) = false) : fixI p l = -1 := by
 unfold fixI
 rw [List.findIdx?_eq_none_iff.2 fun g hg => by
   obtain ⟨j, hj, rfl⟩ := List.getElem_of_mem hg
   simpa [hj] using h2 j hj]
theorem fixI_cases {α : Type} (p : α → Bool) (l : List α) (d : α) : (∃ i, i < l.length ∧ p (l.getD i d) = true ∧ (∀ j, j < i → p (l.getD j d) = false) ∧ fixI p l = i) ∨ ((∀ j, j < l.length → p (l.getD j d) = false) ∧ fixI p l = -1) := by
 unfold fixI
 cases h : l.findIdx? p with
 | some i =>
  obtain ⟨h1, h2, h3⟩ := List.findIdx?_eq_some_iff_getElem.1 h
  refine .inl ⟨i, h1, by simpa [h1] using h2, fun j hj => ?_, rfl⟩
  have := h3 j hj
  simpa [show j < l.length from by omega] using this
 | none =>
  rw [List.findIdx?_eq_none_iff] at h
  exact .inr ⟨fun j hj => by simpa [hj] using h l[j] (List.getElem_mem hj), rfl⟩
def idx (l : List Nd) (x : Int) : Int := fixI (fun n => decide (n.id = x)) l
theorem list_ext {α : Type} {a b : List α} {d : α} (hl : a.length = b.length) (h : ∀ j, j < a.length → a.getD j d = b.getD j d) : a = b := by
 apply List.ext_getElem hl
 intro i h1 h2
 have := h i h1
 simpa [h1, h2] using this
def selB (l : List Ts) : Bool := decide (0 < l.length ∧ l.length ≤ 8) && !(tat l 0).child && l.all tsB
theorem sel_true {l : List Ts} : selB l = true ↔ (0 < l.length ∧ l.length ≤ 8) ∧ (tat l 0).child = false ∧ ∀ j, j < l.length → tsB (tat l j) = true := by
 unfold selB
 simp only [Bool.and_eq_true, decide_eq_true_eq, Bool.not_eq_true', List.all_eq_true, and_assoc]
 refine and_congr_right fun _ => and_congr_right fun _ => and_congr_right fun _ => ⟨fun h j hj => ?_, fun h t ht => ?_⟩
 ·exact h _ (by simp [tat, hj])
 ·obtain ⟨j, hj, rfl⟩ := List.getElem_of_mem ht
  simpa [tat, hj] using h j hj
theorem all_ts {l : List Ts} : l.all tsB = true ↔ ∀ j, j < l.length → tsB (tat l j) = true := by
 rw [List.all_eq_true]
 refine ⟨fun h j hj => h _ (by simp [tat, hj]), fun h t ht => ?_⟩
 obtain ⟨j, hj, rfl⟩ := List.getElem_of_mem ht
 simpa [tat, hj] using h j hj
attribute [local go_sem] List.length_map rowAt_n nrow rowAt_t trow rowAt_i irow
theorem ridx_w (l : List Nd) (t : Tok) (x : Int) : PCall Tryz.prog (.func 58) [.sl 5 (l.map nrow) t, .int .i64 x] (.int .i64 (idx l x)) := by
 refine PCall.ok fun hok => ?_
 simp only [okAll, D.ok, okRows, and_true, true_and, lim_eq, inR_i64', inR_i32', inR_u8', inR_u16', inR_u64'] at hok
 obtain ⟨⟨hl, hr⟩, _⟩ := hok; rw [List.length_map] at hl
 refine PCall.le ?_
 refine fn_ Tryz.func58 (by rfl) (by rfl) (rs := [.tmp 4]) (by rfl) (by simp [Tryz.f58]) ?_
 refine sr_ [0, 1] [] [] fun κ ξ hκ hξ => ?_
 simp +decide only [go_sem]
 refine hκ _ _ ?_
 refine sq ?_
 refine sr_ [0, 1, 5] [] [] fun κ ξ hκ hξ => ?_
 simp +decide only [go_sem]
 refine hκ _ _ ?_
 refine bl ?_
 refine lp (α := Nat) (fun i => mk [(0, .sl 5 (l.map nrow) t), (1, .int .i64 x), (5, .int .i64 i)]) (fun _ => []) (fun i => i ≤ l.length ∧ ∀ j, j < i → (nat l j).id ≠ x) (fun i => l.length - i) 0 ⟨⟨by omega, by intro j hj; omega⟩, EnvLe.of_eq rfl, .refl _⟩ ?_
 rintro i ⟨hi, hj⟩
 refine sq ?_
 refine sr_ [0, 1, 5, 9] [] [] fun κ ξ hκ hξ => ?_
 simp +decide only [go_sem]
 refine hκ _ _ ?_
 refine cd_ (fun c0 => ?_) (fun c0 => ?_)
 ·try simp only [go_sem] at c0
  refine sk ?_
  refine sq ?_
  refine bl ?_
  refine sr_ [0, 1, 5, 18] [] [] fun κ ξ hκ hξ => ?_
  simp +decide only [go_sem, c0]
  repeat with_reducible refine an_ ?_
  refine hκ _ _ ?_
  refine cd_ (fun c1 => ?_) (fun c1 => ?_)
  ·try simp only [go_sem] at c1
   refine sr_ [4] [] [] fun κ ξ hκ hξ => ?_
   simp +decide only [go_sem, c1]
   refine hκ _ _ ?_
   refine rt ?_
   refine retE ?_
   simp +decide only [go_sem, resD, resV, c0, c1]
   congr 1
   unfold idx
   rw [fixI_some (d := nd0) (i := i) (by omega) (by simpa [nat] using c1) fun j h => by simpa [nat] using hj j h]
  ·try simp only [go_sem] at c1
   refine sk ?_
   refine rr_ [0, 1, 5] [] [] fun κ ξ hκ hξ => ?_
   simp +decide only [go_sem, c1]
   refine hκ _ _ ?_
   refine ⟨i + 1, ⟨⟨by omega, ?_⟩, by omega⟩, EnvLe.of_eq (by rw [w64 (by omega)]; rfl), List.nil_sublist _⟩
   intro j h
   rcases Nat.lt_succ_iff_lt_or_eq.1 h with h | rfl
   ·exact hj j h
   ·first | assumption | omega | simpa using c1 | (simp at c1 ⊢; omega)
 ·try simp only [go_sem] at c0
  refine ex ?_
  refine sr_ [4] [] [] fun κ ξ hκ hξ => ?_
  simp +decide only [go_sem, c0]
  refine hκ _ _ ?_
  refine rt ?_
  refine retE ?_
  simp +decide only [go_sem, resD, resV, c0]
  congr 1
  unfold idx
  rw [fixI_none (d := nd0) fun j h => by simpa [nat] using hj j (by omega)]
theorem ridx2_w (l : List Nd) (t : Tok) (x : Int) : PCall Tryz.prog (.func 190) [.sl 5 (l.map nrow) t, .int .i64 x] (.int .i64 (idx l x)) := by
 refine PCall.ok fun hok => ?_
 simp only [okAll, D.ok, okRows, and_true, true_and, lim_eq, inR_i64', inR_i32', inR_u8', inR_u16', inR_u64'] at hok
 obtain ⟨⟨hl, hr⟩, _⟩ := hok; rw [List.length_map] at hl
 refine PCall.le ?_
 refine fn_ Tryz.func190 (by rfl) (by rfl) (rs := [.tmp 4]) (by rfl) (by simp [Tryz.f190]) ?_
 refine sr_ [0, 1] [] [] fun κ ξ hκ hξ => ?_
 simp +decide only [go_sem]
 refine hκ _ _ ?_
 refine sq ?_
 refine sr_ [0, 1, 5] [] [] fun κ ξ hκ hξ => ?_
 simp +decide only [go_sem]
 refine hκ _ _ ?_
 refine bl ?_
 refine lp (α := Nat) (fun i => mk [(0, .sl 5 (l.map nrow) t), (1, .int .i64 x), (5, .int .i64 i)]) (fun _ => []) (fun i => i ≤ l.length ∧ ∀ j, j < i → (nat l j).id ≠ x) (fun i => l.length - i) 0 ⟨⟨by omega, by intro j hj; omega⟩, EnvLe.of_eq rfl, .refl _⟩ ?_
 rintro i ⟨hi, hj⟩
 refine sq ?_
 refine sr_ [0, 1, 5, 9] [] [] fun κ ξ hκ hξ => ?_
 simp +decide only [go_sem]
 refine hκ _ _ ?_
 refine cd_ (fun c0 => ?_) (fun c0 => ?_)
 ·try simp only [go_sem] at c0
  refine sk ?_
  refine sq ?_
  refine bl ?_
  refine sr_ [0, 1, 5, 18] [] [] fun κ ξ hκ hξ => ?_
  simp +decide only [go_sem, c0]
  repeat with_reducible refine an_ ?_
  refine hκ _ _ ?_
  refine cd_ (fun c1 => ?_) (fun c1 => ?_)
  ·try simp only [go_sem] at c1
   refine sr_ [4] [] [] fun κ ξ hκ hξ => ?_
   simp +decide only [go_sem, c1]
   refine hκ _ _ ?_
   refine rt ?_
   refine retE ?_
   simp +decide only [go_sem, resD, resV, c0, c1]
   congr 1
   unfold idx
   rw [fixI_some (d := nd0) (i := i) (by omega) (by simpa [nat] using c1) fun j h => by simpa [nat] using hj j h]
  ·try simp only [go_sem] at c1
   refine sk ?_
   refine rr_ [0, 1, 5] [] [] fun κ ξ hκ hξ => ?_
   simp +decide only [go_sem, c1]
   refine hκ _ _ ?_
   refine ⟨i + 1, ⟨⟨by omega, ?_⟩, by omega⟩, EnvLe.of_eq (by rw [w64 (by omega)]; rfl), List.nil_sublist _⟩
   intro j h
   rcases Nat.lt_succ_iff_lt_or_eq.1 h with h | rfl
   ·exact hj j h
   ·first | assumption | omega | simpa using c1 | (simp at c1 ⊢; omega)
 ·try simp only [go_sem] at c0
  refine ex ?_
  refine sr_ [4] [] [] fun κ ξ hκ hξ => ?_
  simp +decide only [go_sem, c0]
  refine hκ _ _ ?_
  refine rt ?_
  refine retE ?_
  simp +decide only [go_sem, resD, resV, c0]
  congr 1
  unfold idx
  rw [fixI_none (d := nd0) fun j h => by simpa [nat] using hj j (by omega)]
theorem sixf_w (l : List Ts) (t : Tok) : PCall Tryz.prog (.func 199) [.sl 4 (l.map trow) t, .fn (.func 164) [] []] (.int .i64 (fixI (fun x => !tsB x) l)) := by
 refine PCall.ok fun hok => ?_
 simp only [okAll, D.ok, okRows, and_true, true_and, lim_eq, inR_i64', inR_i32', inR_u8', inR_u16', inR_u64'] at hok
 obtain ⟨hl, hr⟩ := hok; rw [List.length_map] at hl
 refine PCall.le ?_
 refine fn_ Tryz.func199 (by rfl) (by rfl) (rs := [.tmp 4]) (by rfl) (by simp [Tryz.f199]) ?_
 refine sr_ [0, 1] [] [] fun κ ξ hκ hξ => ?_
 simp +decide only [go_sem]
 refine hκ _ _ ?_
 refine sq ?_
 refine sr_ [0, 1, 7, 8] [] [] fun κ ξ hκ hξ => ?_
 simp +decide only [go_sem]
 refine hκ _ _ ?_
 refine bl ?_
 refine lp (α := Nat) (fun i => mk [(0, .sl 4 (l.map trow) t), (1, .fn (.func 164) [] []), (7, .int .i64 l.length), (8, .int .i64 i)]) (fun _ => []) (fun i => i ≤ l.length ∧ ∀ j, j < i → tsB (tat l j) = true) (fun i => l.length - i) 0 ⟨⟨by omega, by intro j hj; omega⟩, EnvLe.of_eq rfl, .refl _⟩ ?_
 rintro i ⟨hi, hj⟩
 refine sr_ [0, 1, 7, 8, 9] [] [] fun κ ξ hκ hξ => ?_
 simp +decide only [go_sem]
 refine hκ _ _ ?_
 refine sq ?_
 refine cd_ (fun c0 => ?_) (fun c0 => ?_)
 ·try simp only [go_sem] at c0
  refine sk ?_
  refine sq ?_
  refine bl ?_
  refine sr_ [0, 1, 5, 7, 8] [] [] fun κ ξ hκ hξ => ?_
  simp +decide only [go_sem, c0]
  refine hκ _ _ ?_
  refine sr_ [0, 1, 5, 7, 8, 16] [] [] fun κ ξ hκ hξ => ?_
  simp +decide only [go_sem, c0]
  repeat with_reducible refine an_ ?_
  refine callF (wrong_w _) ?_
  simp +decide only [go_sem]
  refine hκ _ _ ?_
  refine cd_ (fun c1 => ?_) (fun c1 => ?_)
  ·try simp only [go_sem] at c1
   refine sr_ [4] [] [] fun κ ξ hκ hξ => ?_
   simp +decide only [go_sem, c1]
   refine hκ _ _ ?_
   refine rt ?_
   refine retE ?_
   simp +decide only [go_sem, resD, resV, c0, c1]
   congr 1
   rw [fixI_some (p := fun x => !tsB x) (d := ts0) (i := i) (by omega) (by simpa [tat] using c1) fun j h => by simpa [tat] using hj j h]
  ·try simp only [go_sem] at c1
   refine sk ?_
   refine rr_ [0, 1, 7, 8] [] [] fun κ ξ hκ hξ => ?_
   simp +decide only [go_sem, c1]
   refine hκ _ _ ?_
   refine ⟨i + 1, ⟨⟨by omega, ?_⟩, by omega⟩, EnvLe.of_eq (by rw [w64 (by omega)]; rfl), List.nil_sublist _⟩
   intro j h
   rcases Nat.lt_succ_iff_lt_or_eq.1 h with h | rfl
   ·exact hj j h
   ·first | assumption | simpa using c1
 ·try simp only [go_sem] at c0
  refine ex ?_
  refine sr_ [4] [] [] fun κ ξ hκ hξ => ?_
  simp +decide only [go_sem, c0]
  refine hκ _ _ ?_
  refine rt ?_
  refine retE ?_
  simp +decide only [go_sem, resD, resV, c0]
  congr 1
  rw [fixI_none (p := fun x => !tsB x) (d := ts0) fun j h => by simpa [tat] using hj j (by omega)]
theorem sconf_w (l : List Ts) (t : Tok) : PCall Tryz.prog (.func 163) [.sl 4 (l.map trow) t, .fn (.func 164) [] []] (.bool (!l.all tsB)) := by
 refine PCall.le ?_
 refine fn_ Tryz.func163 (by rfl) (by rfl) (rs := [.tmp 4]) (by rfl) (by simp [Tryz.f163]) ?_
 refine sr_ [0, 1] [] [] fun κ ξ hκ hξ => ?_
 simp +decide only [go_sem]
 refine hκ _ _ ?_
 refine sr_ [4] [] [] fun κ ξ hκ hξ => ?_
 simp +decide only [go_sem]
 refine callF (sixf_w _ _) ?_
 simp +decide only [go_sem]
 refine hκ _ _ ?_
 refine rt ?_
 refine retE ?_
 simp +decide only [go_sem, resD, resV]
 all_goals congr 1
 all_goals rcases fixI_cases (fun x => !tsB x) l ts0 with ⟨i, h1, h2, _, h3⟩ | ⟨h1, h2⟩
 ·rw [h3]
  have : l.all tsB = false := by rw [← Bool.not_eq_true, all_ts]; exact fun h => by have := h i h1; simp [tat] at this h2; rw [h2] at this; cases this
  rw [this]; simp
 ·rw [h2, all_ts.2 fun j hj => by simpa [tat] using h1 j hj]; rfl
theorem sel_w (l : List Ts) (t : Tok) : PCall Tryz.prog (.func 108) [.sl 4 (l.map trow) t] (.bool (selB l)) := by
 refine PCall.ok fun hok => ?_
 simp only [okAll, D.ok, okRows, and_true, true_and, lim_eq, inR_i64', inR_i32', inR_u8', inR_u16', inR_u64'] at hok
 obtain ⟨hl, hr⟩ := hok; rw [List.length_map] at hl
 refine PCall.le ?_
 refine fn_ Tryz.func108 (by rfl) (by rfl) (rs := [.tmp 2]) (by rfl) (by simp [Tryz.f108]) ?_
 refine sr_ [0] [] [] fun κ ξ hκ hξ => ?_
 simp +decide only [go_sem]
 refine hκ _ _ ?_
 by_cases hl0 : 0 < l.length
 ·have hl1 : (0 : Int) < (l.length : Int) := by omega
  have hl2 : ((0 : Nat) : Int) < (l.length : Int) := by omega
  refine sr_ [2] [] [(3, 6), (8, 11), (15, 18)] fun κ ξ hκ hξ => ?_
  simp +decide only [go_sem, hl1, hl2]
  refine vo_gc ?_
  simp +decide only [go_sem]
  refine gcF (sconf_w _ _) ?_
  simp +decide only [go_sem]
  refine hκ _ _ ?_
  refine rt ?_
  refine retE ?_
  simp +decide only [go_sem, resD, resV, hl1, hl2]
  congr 1
  unfold selB
  have e : ((l.length : Int) ≤ 8) ↔ l.length ≤ 8 := by omega
  rw [Bool.eq_iff_iff]
  simp [hl0, e]
 ·have hl1 : ¬ (0 : Int) < (l.length : Int) := by omega
  refine sr_ [2] [] [(3, 6), (8, 11), (15, 18)] fun κ ξ hκ hξ => ?_
  simp +decide only [go_sem, hl1]
  refine vo_gc ?_
  simp +decide only [go_sem]
  refine gcF (sconf_w _ _) ?_
  simp +decide only [go_sem]
  refine hκ _ _ ?_
  refine rt ?_
  refine retE ?_
  simp +decide only [go_sem, resD, resV, hl1]
  congr 1
  unfold selB
  simp [hl0]
theorem rsel_w (l : List Ts) (t : Tok) : PCall Tryz.prog (.func 122) [.sl 4 (l.map trow) t] (.bool (selB l)) := by
 refine PCall.ok fun hok => ?_
 simp only [okAll, D.ok, okRows, and_true, true_and, lim_eq, inR_i64', inR_i32', inR_u8', inR_u16', inR_u64'] at hok
 obtain ⟨hl, hr⟩ := hok; rw [List.length_map] at hl
 refine PCall.le ?_
 refine fn_ Tryz.func122 (by rfl) (by rfl) (rs := [.tmp 2]) (by rfl) (by simp [Tryz.f122]) ?_
 refine sr_ [0] [] [] fun κ ξ hκ hξ => ?_
 simp +decide only [go_sem]
 refine hκ _ _ ?_
 refine sq ?_
 by_cases hl0 : 0 < l.length
 ·have hl1 : ¬ (l.length : Int) < 1 := by omega
  have hl2 : ((0 : Nat) : Int) < (l.length : Int) := by omega
  have hl3 : (0 : Int) < (l.length : Int) := by omega
  refine sr_ [0, 18] [] [(3, 8), (8, 13)] fun κ ξ hκ hξ => ?_
  simp +decide only [go_sem, hl1, hl2, hl3]
  refine hκ _ _ ?_
  refine cd_ (fun c0 => ?_) (fun c0 => ?_)
  ·try simp only [go_sem] at c0
   refine sr_ [2] [] [] fun κ ξ hκ hξ => ?_
   simp +decide only [go_sem]
   refine hκ _ _ ?_
   refine rt ?_
   refine retE ?_
   simp +decide only [go_sem, resD, resV, hl1, hl2, hl3, c0]
   congr 1
   symm
   rw [← Bool.not_eq_true, sel_true]
   rintro ⟨h1, h2, h3⟩
   rcases c0 with c0 | c0
   ·omega
   ·rw [h2] at c0; cases c0
  ·try simp only [go_sem] at c0
   refine sk ?_
   refine sq ?_
   refine sr_ [0, 3] [] [] fun κ ξ hκ hξ => ?_
   simp +decide only [go_sem, c0]
   refine hκ _ _ ?_
   refine bl ?_
   refine lp (α := Nat) (fun i => mk [(0, .sl 4 (l.map trow) t), (3, .int .i64 i)]) (fun _ => []) (fun i => i ≤ l.length ∧ ∀ j, j < i → tsB (tat l j) = true) (fun i => l.length - i) 0 ⟨⟨by omega, by intro j hj; omega⟩, EnvLe.of_eq rfl, .refl _⟩ ?_
   rintro i ⟨hi, hj⟩
   refine sq ?_
   refine sr_ [0, 3, 22] [] [] fun κ ξ hκ hξ => ?_
   simp +decide only [go_sem]
   refine hκ _ _ ?_
   refine cd_ (fun c1 => ?_) (fun c1 => ?_)
   ·try simp only [go_sem] at c1
    refine sk ?_
    refine sq ?_
    refine bl ?_
    refine sr_ [0, 3, 4] [] [] fun κ ξ hκ hξ => ?_
    simp +decide only [go_sem, c1]
    repeat with_reducible refine an_ ?_
    refine callF (rtest_w _) ?_
    simp +decide only [go_sem]
    refine hκ _ _ ?_
    refine sr_ [0, 3, 31] [] [] fun κ ξ hκ hξ => ?_
    simp +decide only [go_sem]
    refine hκ _ _ ?_
    refine cd_ (fun c2 => ?_) (fun c2 => ?_)
    ·try simp only [go_sem] at c2
     refine sr_ [2] [] [] fun κ ξ hκ hξ => ?_
     simp +decide only [go_sem, c2]
     refine hκ _ _ ?_
     refine rt ?_
     refine retE ?_
     simp +decide only [go_sem, resD, resV, hl1, hl2, hl3, c0, c1, c2]
     congr 1
     symm
     rw [← Bool.not_eq_true, sel_true]
     rintro ⟨_, _, h3⟩
     rw [h3 i (by omega)] at c2
     cases c2
    ·try simp only [go_sem] at c2
     refine sk ?_
     refine rr_ [0, 3] [] [] fun κ ξ hκ hξ => ?_
     simp +decide only [go_sem, c2]
     refine hκ _ _ ?_
     refine ⟨i + 1, ⟨⟨by omega, ?_⟩, by omega⟩, EnvLe.of_eq (by rw [w64 (by omega)]; rfl), List.nil_sublist _⟩
     intro j h
     rcases Nat.lt_succ_iff_lt_or_eq.1 h with h | rfl
     ·exact hj j h
     ·first | assumption | simpa using c2
   ·try simp only [go_sem] at c1
    refine ex ?_
    refine sr_ [2] [] [] fun κ ξ hκ hξ => ?_
    simp +decide only [go_sem, c1]
    refine hκ _ _ ?_
    refine rt ?_
    refine retE ?_
    simp +decide only [go_sem, resD, resV, hl1, hl2, hl3, c0, c1]
    rw [sel_true.2 ⟨by omega, c0.2, fun j h => hj j (by omega)⟩]
 ·have hl1 : (l.length : Int) < 1 := by omega
  refine sr_ [0, 18] [] [(3, 8), (8, 13)] fun κ ξ hκ hξ => ?_
  simp +decide only [go_sem, hl1]
  refine hκ _ _ ?_
  refine cdt (by rfl) ?_
  refine sr_ [2] [] [] fun κ ξ hκ hξ => ?_
  simp +decide only [go_sem]
  refine hκ _ _ ?_
  refine rt ?_
  refine retE ?_
  simp +decide only [go_sem, resD, resV, hl1]
  congr 1
  symm
  rw [← Bool.not_eq_true, sel_true]
  rintro ⟨h1, _⟩
  omega
end Go.Proofs.YtinhjbnljbmbcaaGreat
/- Plain facts of trees: depths, what a tree is. -/
namespace Go.Proofs.YtinhjbnljbmbcaaGreat
open Go Go.RowKit
set_option linter.unusedSimpArgs false
set_option linter.unusedVariables false
theorem idx_lt (l : List Nd) (x : Int) : idx l x < l.length := by
 unfold idx
 rcases fixI_cases (fun n => decide (n.id = x)) l nd0 with ⟨i, h1, _, _, h3⟩ | ⟨_, h2⟩
 ·rw [h3]; omega
 ·rw [h2]; omega
theorem idx_ge (l : List Nd) (x : Int) : -1 ≤ idx l x := by
 unfold idx
 rcases fixI_cases (fun n => decide (n.id = x)) l nd0 with ⟨i, h1, _, _, h3⟩ | ⟨_, h2⟩
 ·rw [h3]; omega
 ·rw [h2]; omega
def pix (l : List Nd) (i : Nat) : Int := idx (l.take i) (nat l i).par
theorem pix_lt (l : List Nd) (i : Nat) : pix l i < i := by
 have := idx_lt (l.take i) (nat l i).par
 have h2 := List.length_take_le i l
 unfold pix
 omega
theorem pix_ge (l : List Nd) (i : Nat) : -1 ≤ pix l i := idx_ge _ _
def dpt (l : List Nd) (i : Nat) : Int :=
 if 0 ≤ pix l i then dpt l (pix l i).toNat + 1 else 1
termination_by i
decreasing_by
 have := pix_lt l i
 omega
theorem dpt_eq (l : List Nd) (i : Nat) : dpt l i = if 0 ≤ pix l i then dpt l (pix l i).toNat + 1 else 1 := by rw [dpt]
theorem dpt_pos (l : List Nd) : ∀ i, 1 ≤ dpt l i := by
 intro i
 induction i using Nat.strongRecOn with
 | ind i ih =>
  rw [dpt_eq]
  split
  ·have := ih (pix l i).toNat (by have := pix_lt l i; omega)
   omega
  ·omega
theorem idx_cases (l : List Nd) (x : Int) : (∃ i, i < l.length ∧ (nat l i).id = x ∧ (∀ j, j < i → (nat l j).id ≠ x) ∧ idx l x = i) ∨ ((∀ j, j < l.length → (nat l j).id ≠ x) ∧ idx l x = -1) := by
 unfold idx
 rcases fixI_cases (fun n => decide (n.id = x)) l nd0 with ⟨i, h1, h2, h4, h3⟩ | ⟨h1, h2⟩
 ·exact .inl ⟨i, h1, by simpa [nat] using h2, fun j hj => by simpa [nat] using h4 j hj, h3⟩
 ·exact .inr ⟨fun j hj => by simpa [nat] using h1 j hj, h2⟩
theorem idx_is {l : List Nd} {x : Int} {i : Nat} (h : i < l.length) (h1 : (nat l i).id = x) (h2 : ∀ j, j < i → (nat l j).id ≠ x) : idx l x = i := by
 unfold idx
 exact fixI_some (d := nd0) h (by simpa [nat] using h1) fun j hj => by simpa [nat] using h2 j hj
theorem idx_no {l : List Nd} {x : Int} (h2 : ∀ j, j < l.length → (nat l j).id ≠ x) : idx l x = -1 := by
 unfold idx
 exact fixI_none (d := nd0) fun j hj => by simpa [nat] using h2 j hj
theorem nat_take {l : List Nd} {i j : Nat} (h : j < i) : nat (l.take i) j = nat l j := by
 unfold nat
 simp only [List.getD_eq_getElem?_getD, List.getElem?_take, h, if_true]
def okAt (l : List Nd) (i : Nat) : Bool :=
 fmB (nat l i) && decide (idx (l.take i) (nat l i).id = -1) && (decide (i = 0) || (decide (0 ≤ pix l i) && stR (nat l i).kind (nat l (pix l i).toNat).kind)) && decide (dpt l i ≤ 30)
def treB (l : List Nd) : Bool := decide (1 ≤ l.length ∧ l.length ≤ 4000) && decide ((nat l 0).par = 0) && decide ((nat l 0).kind = 1) && (List.range l.length).all (okAt l)
structure Tree (l : List Nd) : Prop where
 len : 1 ≤ l.length ∧ l.length ≤ 4000
 root : (nat l 0).par = 0 ∧ (nat l 0).kind = 1
 form : ∀ i, i < l.length → fmB (nat l i) = true
 once : ∀ i, i < l.length → idx (l.take i) (nat l i).id = -1
 up : ∀ i, 0 < i → i < l.length → 0 ≤ pix l i ∧ stR (nat l i).kind (nat l (pix l i).toNat).kind = true
 deep : ∀ i, i < l.length → dpt l i ≤ 30
theorem okAt_true {l : List Nd} {i : Nat} : okAt l i = true ↔ fmB (nat l i) = true ∧ idx (l.take i) (nat l i).id = -1 ∧ (0 < i → 0 ≤ pix l i ∧ stR (nat l i).kind (nat l (pix l i).toNat).kind = true) ∧ dpt l i ≤ 30 := by
 unfold okAt
 simp only [Bool.and_eq_true, Bool.or_eq_true, decide_eq_true_eq, and_assoc]
 refine and_congr_right fun _ => and_congr_right fun _ => and_congr_left fun _ => ?_
 constructor
 ·rintro (h | h) h0
  ·omega
  ·exact h
 ·intro h
  rcases Nat.eq_zero_or_pos i with h0 | h0
  ·exact .inl h0
  ·exact .inr (h h0)
theorem treB_true {l : List Nd} : treB l = true ↔ Tree l := by
 unfold treB
 simp only [Bool.and_eq_true, decide_eq_true_eq, List.all_eq_true, List.mem_range]
 constructor
 ·rintro ⟨⟨⟨h1, h2⟩, h3⟩, h4⟩
  exact ⟨h1, ⟨h2, h3⟩, fun i hi => (okAt_true.1 (h4 i hi)).1, fun i hi => (okAt_true.1 (h4 i hi)).2.1, fun i h0 hi => (okAt_true.1 (h4 i hi)).2.2.1 h0, fun i hi => (okAt_true.1 (h4 i hi)).2.2.2⟩
 ·intro h
  exact ⟨⟨⟨h.len, h.root.1⟩, h.root.2⟩, fun i hi => okAt_true.2 ⟨h.form i hi, h.once i hi, fun h0 => h.up i h0 hi, h.deep i hi⟩⟩
theorem treB_false {l : List Nd} {i : Nat} (hi : i < l.length) (h : okAt l i = false) : treB l = false := by
 cases e : treB l with
 | false => rfl
 | true =>
  have t := treB_true.1 e
  have := okAt_true.2 ⟨t.form i hi, t.once i hi, fun h0 => t.up i h0 hi, t.deep i hi⟩
  rw [h] at this; cases this
theorem treB_all {l : List Nd} (h1 : 1 ≤ l.length ∧ l.length ≤ 4000) (h2 : (nat l 0).par = 0) (h3 : (nat l 0).kind = 1) (h : ∀ j, j < l.length → okAt l j = true) : treB l = true := by
 unfold treB
 simp only [Bool.and_eq_true, decide_eq_true_eq, List.all_eq_true, List.mem_range]
 exact ⟨⟨⟨h1, h2⟩, h3⟩, h⟩
theorem fm_kind {n : Nd} (h : fmB n = true) : 1 ≤ n.kind ∧ n.kind ≤ 11 := by
 unfold fmB at h
 simp only [Bool.and_eq_true, decide_eq_true_eq] at h
 omega
theorem fm_id {n : Nd} (h : fmB n = true) : 1 ≤ n.id ∧ n.id ≤ 1000000 ∧ 0 ≤ n.par ∧ n.par ≤ 1000000 := by
 unfold fmB at h
 simp only [Bool.and_eq_true, decide_eq_true_eq] at h
 omega
def plD (p : Int × Int) : D := .ag [.int .i64 p.1, .int .i64 p.2]
def plM (l : List Nd) (i : Nat) : List (Int × Int × Int) := (List.range i).map fun j => ((nat l j).id, (j : Int), dpt l j)
def plE (l : List Nd) (i : Nat) : List (D × D) := (plM l i).map fun x => (.int .i64 x.1, plD x.2)
def plk (l : List Nd) (i : Nat) (k : Int) : Int × Int := if 0 ≤ idx (l.take i) k then (idx (l.take i) k, dpt l (idx (l.take i) k).toNat) else (0, 0)
theorem keq_int (a b : Int) : keqD (.int .i64 a) (.int .i64 b) = some (decide (a = b)) := by simp [keqD]
theorem pl_find (l : List Nd) {i : Nat} (hi : i ≤ l.length) (k : Int) : ((plM l i).find? fun x => decide (k = x.1)) = if 0 ≤ idx (l.take i) k then some (k, plk l i k) else none := by
 have htl : (l.take i).length = i := by rw [List.length_take]; omega
 rcases idx_cases (l.take i) k with ⟨j, h1, h2, h3, h4⟩ | ⟨h1, h2⟩
 ·rw [htl] at h1
  rw [if_pos (by omega), List.find?_eq_some_iff_getElem]
  rw [nat_take h1] at h2
  unfold plk
  rw [if_pos (by omega), h4]
  refine ⟨by simp, j, by simpa [plM] using h1, by simp [plM, h2], fun m hm => ?_⟩
  have := h3 m hm
  rw [nat_take (by omega)] at this
  simp [plM]
  exact fun e => this e.symm
 ·rw [htl] at h1
  rw [if_neg (by omega), List.find?_eq_none]
  intro x hx
  unfold plM at hx
  obtain ⟨j, hj, rfl⟩ := List.mem_map.1 hx
  have hj' := List.mem_range.1 hj
  have := h1 j hj'
  rw [nat_take hj'] at this
  simpa using fun e => this e.symm
theorem pl_get (l : List Nd) {i : Nat} (hi : i ≤ l.length) (k : Int) : mget (.int .i64 k) (plE l i) = some (if 0 ≤ idx (l.take i) k then some (.ag [.int .i64 (plk l i k).1, .int .i64 (plk l i k).2]) else none) := by
 unfold plE
 rw [mget_map (fun k => .int .i64 k) plD keq_int k, pl_find l hi k]
 split <;> rfl
theorem pl_look (l : List Nd) (i : Nat) (k : Int) : lookD true (.ag [.int .i64 0, .int .i64 0]) (if 0 ≤ idx (l.take i) k then some (.ag [.int .i64 (plk l i k).1, .int .i64 (plk l i k).2]) else none) = .tup [.ag [.int .i64 (plk l i k).1, .int .i64 (plk l i k).2], .bool (decide (0 ≤ idx (l.take i) k))] := by
 by_cases h : 0 ≤ idx (l.take i) k
 ·rw [if_pos h, lookD_s, decide_eq_true h]
 ·rw [if_neg h, lookD_n, decide_eq_false h]
  unfold plk
  rw [if_neg h]
theorem pl_look' (l : List Nd) (i : Nat) (k : Int) : lookD false (.ag [.int .i64 0, .int .i64 0]) (if 0 ≤ idx (l.take i) k then some (.ag [.int .i64 (plk l i k).1, .int .i64 (plk l i k).2]) else none) = .ag [.int .i64 (plk l i k).1, .int .i64 (plk l i k).2] := by
 by_cases h : 0 ≤ idx (l.take i) k
 ·rw [if_pos h, lookD_fs]
 ·rw [if_neg h, lookD_fn]
  unfold plk
  rw [if_neg h]
theorem pl_put (l : List Nd) {i : Nat} (hi : i < l.length) (h : idx (l.take i) (nat l i).id = -1) : mput (.int .i64 (nat l i).id) (.ag [.int .i64 (i : Int), .int .i64 (dpt l i)]) (plE l i) = some (plE l (i + 1)) := by
 unfold plE
 have htl : (l.take i).length = i := by rw [List.length_take]; omega
 rw [show (D.ag [.int .i64 (i : Int), .int .i64 (dpt l i)]) = plD ((i : Int), dpt l i) from rfl, mput_map (fun k => .int .i64 k) plD keq_int]
 ·unfold plM
  simp [List.range_succ]
 ·intro x hx e
  unfold plM at hx
  obtain ⟨j, hj, rfl⟩ := List.mem_map.1 hx
  have hj' := List.mem_range.1 hj
  rcases idx_cases (l.take i) (nat l i).id with ⟨m, h1, _, _, h4⟩ | ⟨h1, _⟩
  ·omega
  ·exact h1 j (by omega) (by rw [nat_take hj']; exact e.symm)
theorem plk_bounds (l : List Nd) {i : Nat} (hi : i ≤ l.length) (k : Int) : 0 ≤ (plk l i k).1 ∧ (0 ≤ idx (l.take i) k → (plk l i k).1 < i ∧ (plk l i k).1 = idx (l.take i) k) := by
 have h1 := idx_lt (l.take i) k
 have h2 := List.length_take_le i l
 unfold plk
 split
 ·exact ⟨by assumption, fun _ => ⟨by omega, rfl⟩⟩
 ·exact ⟨Int.le_refl _, fun h => by omega⟩
theorem plk_there (l : List Nd) (i : Nat) (k : Int) : ((plk l i k).1 = 0 ∧ (plk l i k).2 = 0) ↔ idx (l.take i) k = -1 := by
 unfold plk
 have h2 := idx_ge (l.take i) k
 split
 ·rename_i h
  have := dpt_pos l (idx (l.take i) k).toNat
  constructor
  ·rintro ⟨_, e⟩; simp only at e; omega
  ·intro e; omega
 ·exact ⟨fun _ => by omega, fun _ => ⟨rfl, rfl⟩⟩
theorem plk_dpt (l : List Nd) (i : Nat) : dpt l i = (plk l i (nat l i).par).2 + 1 := by
 rw [dpt_eq]
 unfold plk pix
 split <;> rfl
theorem ok_prog {l : List Nd} {i k : Nat} (hi : i < l.length) (hj : ∀ j, j < i → okAt l j = true) (hpk : (plk l i (nat l i).par).1 = (k : Int)) :
  okAt l i = true ↔ fmB (nat l i) = true ∧ ((plk l i (nat l i).id).1 = 0 ∧ (plk l i (nat l i).id).2 = 0) ∧ (0 < i → 0 ≤ idx (l.take i) (nat l i).par ∧ stP (nat l i).kind (nat l k).kind = true) ∧ (plk l i (nat l i).par).2 ≠ 30 := by
 rw [okAt_true, plk_there, plk_dpt l i]
 refine and_congr_right fun _ => and_congr_right fun _ => ?_
 have hlt := idx_lt (l.take i) (nat l i).par
 have htl := List.length_take_le i l
 by_cases h : 0 ≤ idx (l.take i) (nat l i).par
 ·have e : plk l i (nat l i).par = (idx (l.take i) (nat l i).par, dpt l (idx (l.take i) (nat l i).par).toNat) := by unfold plk; rw [if_pos h]
  rw [e] at hpk ⊢
  simp only at hpk ⊢
  have hk : (pix l i).toNat = k := by unfold pix; omega
  have hk2 : (idx (l.take i) (nat l i).par).toNat = k := by omega
  have hok := okAt_true.1 (hj k (by omega))
  have hpi : 0 ≤ pix l i := h
  rw [hk, hk2, stP_eq (fm_kind hok.1)]
  have := hok.2.2.2
  constructor
  ·rintro ⟨a, b⟩; exact ⟨fun h0 => ⟨h, (a h0).2⟩, by omega⟩
  ·rintro ⟨a, b⟩; exact ⟨fun h0 => ⟨hpi, (a h0).2⟩, by omega⟩
 ·have e : plk l i (nat l i).par = (0, 0) := by unfold plk; rw [if_neg h]
  rw [e]
  have hpi : ¬ 0 ≤ pix l i := h
  simp only
  constructor
  ·rintro ⟨a, b⟩; exact ⟨fun h0 => absurd (a h0).1 hpi, by decide⟩
  ·rintro ⟨a, b⟩; exact ⟨fun h0 => absurd (a h0).1 h, by decide⟩
theorem plk_two (l : List Nd) {i : Nat} (hj : ∀ j, j < i → okAt l j = true) (k : Int) : 0 ≤ (plk l i k).2 ∧ (plk l i k).2 ≤ 30 := by
 have hlt := idx_lt (l.take i) k
 have htl := List.length_take_le i l
 unfold plk
 split
 ·have h1 := dpt_pos l (idx (l.take i) k).toNat
  have h2 := (okAt_true.1 (hj (idx (l.take i) k).toNat (by omega))).2.2.2
  exact ⟨by omega, h2⟩
 ·exact ⟨Int.le_refl _, by decide⟩
def fi (l : List Nd) (k : Int) : Int := if 0 ≤ idx l k then idx l k else 0
def fd (l : List Nd) (k : Int) : Int := if 0 ≤ idx l k then dpt l (idx l k).toNat else 0
theorem plk_full (l : List Nd) (k : Int) : plk l l.length k = (fi l k, fd l k) := by
 unfold plk fi fd
 rw [List.take_length]
 split <;> rfl
theorem pl_getF (l : List Nd) (k : Int) : mget (.int .i64 k) (plE l l.length) = some (if 0 ≤ idx l k then some (.ag [.int .i64 (fi l k), .int .i64 (fd l k)]) else none) := by
 have := pl_get l (Nat.le_refl l.length) k
 rwa [plk_full, List.take_length] at this
theorem pl_lookF (l : List Nd) (k : Int) : lookD true (.ag [.int .i64 0, .int .i64 0]) (if 0 ≤ idx l k then some (.ag [.int .i64 (fi l k), .int .i64 (fd l k)]) else none) = .tup [.ag [.int .i64 (fi l k), .int .i64 (fd l k)], .bool (decide (0 ≤ idx l k))] := by
 have := pl_look l l.length k
 rwa [plk_full, List.take_length] at this
theorem pl_lookF' (l : List Nd) (k : Int) : lookD false (.ag [.int .i64 0, .int .i64 0]) (if 0 ≤ idx l k then some (.ag [.int .i64 (fi l k), .int .i64 (fd l k)]) else none) = .ag [.int .i64 (fi l k), .int .i64 (fd l k)] := by
 have := pl_look' l l.length k
 rwa [plk_full, List.take_length] at this
def depB (l : List Nd) : Bool := decide (l.length = 0 ∨ ((nat l 0).par = 0 ∧ (nat l 0).kind = 1)) && (List.range l.length).all fun i => decide (i = 0) || (decide (0 ≤ pix l i) && stR (nat l i).kind (nat l (pix l i).toNat).kind)
def depL (l : List Nd) (i : Nat) : List Int := (List.range i).map (dpt l)
theorem depL_len (l : List Nd) (i : Nat) : (depL l i).length = i := by simp [depL]
theorem depL_at {l : List Nd} {i j : Nat} (h : j < i) : iat (depL l i) j = dpt l j := by simp [iat, depL, h]
theorem depL_succ (l : List Nd) (i : Nat) : depL l (i + 1) = depL l i ++ [dpt l i] := by simp [depL, List.range_succ]
theorem pix_zero (l : List Nd) : pix l 0 = -1 := by
 unfold pix
 rw [List.take_zero]
 rfl
theorem dpt_zero (l : List Nd) : dpt l 0 = 1 := by rw [dpt_eq, pix_zero]; rfl
theorem dpt_le (l : List Nd) : ∀ i : Nat, dpt l i ≤ (i : Int) + 1 := by
 intro i
 induction i using Nat.strongRecOn with
 | ind i ih =>
  rw [dpt_eq]
  have h1 := pix_lt l i
  split
  ·have := ih (pix l i).toNat (by omega)
   omega
  ·omega
theorem depB_true {l : List Nd} : depB l = true ↔ (l.length = 0 ∨ ((nat l 0).par = 0 ∧ (nat l 0).kind = 1)) ∧ ∀ i, 0 < i → i < l.length → 0 ≤ pix l i ∧ stR (nat l i).kind (nat l (pix l i).toNat).kind = true := by
 unfold depB
 simp only [Bool.and_eq_true, decide_eq_true_eq, List.all_eq_true, List.mem_range, Bool.or_eq_true]
 refine and_congr_right fun _ => ⟨fun h i h0 hi => ?_, fun h i hi => ?_⟩
 ·rcases h i hi with h | h
  ·omega
  ·exact h
 ·rcases Nat.eq_zero_or_pos i with h0 | h0
  ·exact .inl h0
  ·exact .inr (h i h0 hi)
theorem tre_dep {l : List Nd} (h1 : 1 ≤ l.length ∧ l.length ≤ 4000) (h2 : ∀ j, j < l.length → fmB (nat l j) = true ∧ idx (l.take j) (nat l j).id = -1) : treB l = (depB l && decide (∀ j, j < l.length → dpt l j ≤ 30)) := by
 rw [Bool.eq_iff_iff, treB_true]
 simp only [Bool.and_eq_true, decide_eq_true_eq, depB_true]
 constructor
 ·intro t
  exact ⟨⟨.inr t.root, t.up⟩, t.deep⟩
 ·rintro ⟨⟨a, b⟩, c⟩
  exact ⟨h1, a.resolve_left (by omega), fun i hi => (h2 i hi).1, fun i hi => (h2 i hi).2, b, c⟩
end Go.Proofs.YtinhjbnljbmbcaaGreat
