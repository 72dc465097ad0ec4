/- The walks of texts, nodes and tests. Printed by a tool of our own. -/
import Derived.Test.YtjjkgeeafjagkaaGreatJF
namespace Go.Proofs.YtjjkgeeafjagkaaGreat
open Go Go.RowKit
set_option linter.unusedSimpArgs false
set_option linter.unusedVariables false
set_option maxHeartbeats 4000000
set_option maxRecDepth 100000
def cls (c : Int) : Int := if c = 32 then 4 else if c = 126 then 6 else if c < 32 ∨ 126 < c then 0 else if 97 ≤ c ∧ c ≤ 122 then 1 else if 65 ≤ c ∧ c ≤ 90 then 2 else if 48 ≤ c ∧ c ≤ 57 then 3 else 5
def tv (s : List UInt8) : Bool := decide ((∀ c ∈ s, cls c.toNat ≠ 0) ∧ s.length ≤ 2000)
def sat (s : List UInt8) (i : Nat) : Int := ((s.getD i 0).toNat : Int)
theorem tv_at {s : List UInt8} (h : tv s = true) {i : Nat} (hi : i < s.length) : cls (sat s i) ≠ 0 := by
  unfold tv at h
  have := (of_decide_eq_true h).1 (s.getD i 0) (by simp [hi])
  exact this
theorem cls_bounds {c : Int} (h : cls c ≠ 0) : 32 ≤ c ∧ c ≤ 126 := by
  unfold cls at h
  by_cases h1 : c = 32
  · omega
  · by_cases h2 : c = 126
    · omega
    · rw [if_neg h1, if_neg h2] at h
      by_cases h3 : c < 32 ∨ 126 < c
      · rw [if_pos h3] at h; exact absurd rfl h
      · omega
theorem dec_ascii {s : List UInt8} {p : Nat} (h : p < s.length) (ha : sat s p < 128) : Utf8.decode ⟨s.toArray⟩ p = ((s.getD p 0).toNat, 1) := by
  have e : s.getD p 0 = s[p] := by simp [h]
  unfold sat at ha
  rw [e] at ha ⊢
  have := decode_ascii ⟨s.toArray⟩ p (by simpa [ByteArray.size] using h) (by
    have : (ByteArray.mk s.toArray)[p]'(by simpa [ByteArray.size] using h) = s[p] := rfl
    rw [this]; omega)
  exact this
theorem dec_high {s : List UInt8} {p : Nat} (h : p < s.length) (ha : 128 ≤ sat s p) : 128 ≤ (Utf8.decode ⟨s.toArray⟩ p).1 := by
  have e : s.getD p 0 = s[p] := by simp [h]
  unfold sat at ha
  rw [e] at ha
  exact (decode_high ⟨s.toArray⟩ p (by simpa [ByteArray.size] using h) (by
    have : (ByteArray.mk s.toArray)[p]'(by simpa [ByteArray.size] using h) = s[p] := rfl
    rw [this]; omega)).1

theorem sat_range (s : List UInt8) (i : Nat) : 0 ≤ sat s i ∧ sat s i ≤ 255 := by
  unfold sat
  have := (s.getD i 0).toNat_lt
  omega
theorem tv_false {s : List UInt8} {i : Nat} (hi : i < s.length) (h : cls (sat s i) = 0) : tv s = false := by
  cases e : tv s with
  | false => rfl
  | true => exact absurd h (tv_at e hi)
theorem tv_all {s : List UInt8} (h : ∀ j, j < s.length → cls (sat s j) ≠ 0) : tv s = decide (s.length ≤ 2000) := by
  unfold tv
  rw [decide_eq_decide]
  refine ⟨fun h => h.2, fun h2 => ⟨fun c hc => ?_, h2⟩⟩
  obtain ⟨j, hj, rfl⟩ := List.getElem_of_mem hc
  have := h j hj
  unfold sat at this
  simpa [hj] using this
theorem rowAt_map {α : Type} (f : α → List D) (d : α) {l : List α} {i : Nat} (h : (i : Int) < (l.length : Int)) : rowAt (l.map f) i = f (l.getD i d) := by
  have h' : i < l.length := by omega
  simp [rowAt, h']
structure Nd where
  id : Int
  par : Int
  kind : Int
  cls : Int
  txt : List UInt8
  deriving DecidableEq
structure Ts where
  kind : Int
  cls : Int
  id : Int
  child : Bool
  deriving DecidableEq
def nd0 : Nd := ⟨0, 0, 0, 0, []⟩
def ts0 : Ts := ⟨0, 0, 0, false⟩
def nrow (n : Nd) : List D := [.int .i64 n.id, .int .i64 n.par, .int .i64 n.kind, .int .i64 n.cls, .str n.txt]
def trow (t : Ts) : List D := [.int .i64 t.kind, .int .i64 t.cls, .int .i64 t.id, .bool t.child]
def irow (v : Int) : List D := [.int .i64 v]
def nat (l : List Nd) (i : Nat) : Nd := l.getD i nd0
def tat (l : List Ts) (i : Nat) : Ts := l.getD i ts0
def iat (l : List Int) (i : Nat) : Int := l.getD i 0
theorem rowAt_n {l : List Nd} {i : Nat} (h : (i : Int) < (l.length : Int)) : rowAt (l.map nrow) i = nrow (nat l i) := rowAt_map nrow _ h
theorem rowAt_t {l : List Ts} {i : Nat} (h : (i : Int) < (l.length : Int)) : rowAt (l.map trow) i = trow (tat l i) := rowAt_map trow _ h
theorem rowAt_i {l : List Int} {i : Nat} (h : (i : Int) < (l.length : Int)) : rowAt (l.map irow) i = irow (iat l i) := rowAt_map irow _ h
def idB (n : Int) : Bool := decide (1 ≤ n ∧ n ≤ 1000000)
def stP (k i : Int) : Bool := if i = 7 then decide (k = 8) else if i = 8 then decide (k = 9) else if i = 2 ∨ i = 11 ∨ i = 10 then false else decide (k ≠ 8 ∧ k ≠ 9)
def stR (k i : Int) : Bool := if k = 8 then decide (i = 7) else if k = 9 then decide (i = 8) else decide (i = 1 ∨ i = 3 ∨ i = 4 ∨ i = 5 ∨ i = 6 ∨ i = 9)
theorem stP_eq {k i : Int} (h : 1 ≤ i ∧ i ≤ 11) : stP k i = stR k i := by
  unfold stP stR
  rw [Bool.eq_iff_iff]
  by_cases k8 : k = 8 <;> by_cases k9 : k = 9 <;> by_cases i7 : i = 7 <;> by_cases i8 : i = 8 <;> by_cases i2 : i = 2 ∨ i = 11 ∨ i = 10 <;> simp [k8, k9, i7, i8, i2] <;> omega
def fmB (n : Nd) : Bool := decide (1 ≤ n.id ∧ n.id ≤ 1000000 ∧ 0 ≤ n.par ∧ n.par ≤ 1000000 ∧ 1 ≤ n.kind ∧ n.kind ≤ 11 ∧ 0 ≤ n.cls ∧ n.cls ≤ 100) && tv n.txt && decide (n.txt = [] ∨ n.kind = 2 ∨ n.kind = 11)
def tsB (t : Ts) : Bool := decide (0 ≤ t.kind ∧ t.kind ≤ 11 ∧ 0 ≤ t.cls ∧ t.cls ≤ 100 ∧ 0 ≤ t.id ∧ t.id ≤ 1000000)
def fuB (n : Nd) (t : Ts) : Bool := decide ((t.kind = 0 ∨ t.kind = n.kind) ∧ (t.cls = 0 ∨ t.cls = n.cls) ∧ (t.id = 0 ∨ t.id = n.id))
attribute [local go_sem] List.length_map rowAt_n nrow rowAt_t trow rowAt_i irow
theorem class_w (c : Int) : PCall Tryz.prog (.func 112) [.int .u8 c] (.int .i64 (cls c)) := by
  refine PCall.le ?_
  refine fn_ Tryz.func112 (by rfl) (by rfl) (rs := [.tmp 2]) (by rfl) (by simp [Tryz.f112]) ?_
  refine sq ?_
  refine rg [0] [] [] (by kernel_rfl) ?_; intro κ ξ hκ hξ
  try simp +decide only [go_sem, Nat.reduceMul, Nat.reduceAdd, Nat.reduceBEq, cond_false]
  repeat with_reducible refine And.intro (by first | assumption | omega | (simp; done) | (simp; omega) | (intro hg; simp +decide only [go_sem, hg]; done) | (intro hg; simp +decide only [go_sem, hg]; omega)) ?_
  refine hκ _ _ ?_; clear hκ hξ ξ κ
  refine sq ?_
  refine bl ?_
  refine sq ?_
  refine rg [0, 3] [] [] (by kernel_rfl) ?_; intro κ ξ hκ hξ
  try simp +decide only [go_sem, Nat.reduceMul, Nat.reduceAdd, Nat.reduceBEq, cond_false]
  repeat with_reducible refine And.intro (by first | assumption | omega | (simp; done) | (simp; omega) | (intro hg; simp +decide only [go_sem, hg]; done) | (intro hg; simp +decide only [go_sem, hg]; omega)) ?_
  refine hκ _ _ ?_; clear hκ hξ ξ κ
  refine cd (by rfl) (fun c0 => ?_) (fun c0 => ?_)
  · try simp only [go_sem] at c0
    refine sq ?_
    refine rg [2] [] [] (by kernel_rfl) ?_; intro κ ξ hκ hξ
    try simp +decide only [go_sem, Nat.reduceMul, Nat.reduceAdd, Nat.reduceBEq, cond_false, c0]
    repeat with_reducible refine And.intro (by first | assumption | omega | (simp; done) | (simp; omega) | (intro hg; simp +decide only [go_sem, hg]; done) | (intro hg; simp +decide only [go_sem, hg]; omega)) ?_
    refine hκ _ _ ?_; clear hκ hξ ξ κ
    refine rt ?_
    refine retE ?_
    simp +decide only [go_sem, resD, resV, c0]
    all_goals congr 1; all_goals unfold cls; all_goals repeat (first | rw [if_pos (by omega)] | rw [if_neg (by omega)])
  · try simp only [go_sem] at c0
    refine sq ?_
    refine rg [0, 6] [] [] (by kernel_rfl) ?_; intro κ ξ hκ hξ
    try simp +decide only [go_sem, Nat.reduceMul, Nat.reduceAdd, Nat.reduceBEq, cond_false, c0]
    repeat with_reducible refine And.intro (by first | assumption | omega | (simp; done) | (simp; omega) | (intro hg; simp +decide only [go_sem, hg]; done) | (intro hg; simp +decide only [go_sem, hg]; omega)) ?_
    refine hκ _ _ ?_; clear hκ hξ ξ κ
    refine cd (by rfl) (fun c1 => ?_) (fun c1 => ?_)
    · try simp only [go_sem] at c1
      refine sq ?_
      refine rg [2] [] [] (by kernel_rfl) ?_; intro κ ξ hκ hξ
      try simp +decide only [go_sem, Nat.reduceMul, Nat.reduceAdd, Nat.reduceBEq, cond_false, c0, c1]
      repeat with_reducible refine And.intro (by first | assumption | omega | (simp; done) | (simp; omega) | (intro hg; simp +decide only [go_sem, hg]; done) | (intro hg; simp +decide only [go_sem, hg]; omega)) ?_
      refine hκ _ _ ?_; clear hκ hξ ξ κ
      refine rt ?_
      refine retE ?_
      simp +decide only [go_sem, resD, resV, c0, c1]
      all_goals congr 1; all_goals unfold cls; all_goals repeat (first | rw [if_pos (by omega)] | rw [if_neg (by omega)])
    · try simp only [go_sem] at c1
      refine sq ?_
      refine rg [0, 9] [] [(2, 12)] (by kernel_rfl) ?_; intro κ ξ hκ hξ
      try simp +decide only [go_sem, Nat.reduceMul, Nat.reduceAdd, Nat.reduceBEq, cond_false, c0, c1]
      repeat with_reducible refine And.intro (by first | assumption | omega | (simp; done) | (simp; omega) | (intro hg; simp +decide only [go_sem, hg]; done) | (intro hg; simp +decide only [go_sem, hg]; omega)) ?_
      refine hκ _ _ ?_; clear hκ hξ ξ κ
      refine cd (by rfl) (fun c2 => ?_) (fun c2 => ?_)
      · try simp only [go_sem] at c2
        refine sq ?_
        refine rg [2] [] [] (by kernel_rfl) ?_; intro κ ξ hκ hξ
        try simp +decide only [go_sem, Nat.reduceMul, Nat.reduceAdd, Nat.reduceBEq, cond_false, c0, c1, c2]
        repeat with_reducible refine And.intro (by first | assumption | omega | (simp; done) | (simp; omega) | (intro hg; simp +decide only [go_sem, hg]; done) | (intro hg; simp +decide only [go_sem, hg]; omega)) ?_
        refine hκ _ _ ?_; clear hκ hξ ξ κ
        refine rt ?_
        refine retE ?_
        simp +decide only [go_sem, resD, resV, c0, c1, c2]
        all_goals congr 1; all_goals unfold cls; all_goals repeat (first | rw [if_pos (by omega)] | rw [if_neg (by omega)])
      · try simp only [go_sem] at c2
        refine sq ?_
        refine rg [0, 16] [] [(2, 19)] (by kernel_rfl) ?_; intro κ ξ hκ hξ
        try simp +decide only [go_sem, Nat.reduceMul, Nat.reduceAdd, Nat.reduceBEq, cond_false, c0, c1, c2]
        repeat with_reducible refine And.intro (by first | assumption | omega | (simp; done) | (simp; omega) | (intro hg; simp +decide only [go_sem, hg]; done) | (intro hg; simp +decide only [go_sem, hg]; omega)) ?_
        refine hκ _ _ ?_; clear hκ hξ ξ κ
        refine cd (by rfl) (fun c3 => ?_) (fun c3 => ?_)
        · try simp only [go_sem] at c3
          refine sq ?_
          refine rg [2] [] [] (by kernel_rfl) ?_; intro κ ξ hκ hξ
          try simp +decide only [go_sem, Nat.reduceMul, Nat.reduceAdd, Nat.reduceBEq, cond_false, c0, c1, c2, c3]
          repeat with_reducible refine And.intro (by first | assumption | omega | (simp; done) | (simp; omega) | (intro hg; simp +decide only [go_sem, hg]; done) | (intro hg; simp +decide only [go_sem, hg]; omega)) ?_
          refine hκ _ _ ?_; clear hκ hξ ξ κ
          refine rt ?_
          refine retE ?_
          simp +decide only [go_sem, resD, resV, c0, c1, c2, c3]
          all_goals congr 1; all_goals unfold cls; all_goals repeat (first | rw [if_pos (by omega)] | rw [if_neg (by omega)])
        · try simp only [go_sem] at c3
          refine sq ?_
          refine rg [0, 23] [] [(2, 26)] (by kernel_rfl) ?_; intro κ ξ hκ hξ
          try simp +decide only [go_sem, Nat.reduceMul, Nat.reduceAdd, Nat.reduceBEq, cond_false, c0, c1, c2, c3]
          repeat with_reducible refine And.intro (by first | assumption | omega | (simp; done) | (simp; omega) | (intro hg; simp +decide only [go_sem, hg]; done) | (intro hg; simp +decide only [go_sem, hg]; omega)) ?_
          refine hκ _ _ ?_; clear hκ hξ ξ κ
          refine cd (by rfl) (fun c4 => ?_) (fun c4 => ?_)
          · try simp only [go_sem] at c4
            refine sq ?_
            refine rg [2] [] [] (by kernel_rfl) ?_; intro κ ξ hκ hξ
            try simp +decide only [go_sem, Nat.reduceMul, Nat.reduceAdd, Nat.reduceBEq, cond_false, c0, c1, c2, c3, c4]
            repeat with_reducible refine And.intro (by first | assumption | omega | (simp; done) | (simp; omega) | (intro hg; simp +decide only [go_sem, hg]; done) | (intro hg; simp +decide only [go_sem, hg]; omega)) ?_
            refine hκ _ _ ?_; clear hκ hξ ξ κ
            refine rt ?_
            refine retE ?_
            simp +decide only [go_sem, resD, resV, c0, c1, c2, c3, c4]
            all_goals congr 1; all_goals unfold cls; all_goals repeat (first | rw [if_pos (by omega)] | rw [if_neg (by omega)])
          · try simp only [go_sem] at c4
            refine sq ?_
            refine rg [30] [] [(2, 33)] (by kernel_rfl) ?_; intro κ ξ hκ hξ
            try simp +decide only [go_sem, Nat.reduceMul, Nat.reduceAdd, Nat.reduceBEq, cond_false, c0, c1, c2, c3, c4]
            repeat with_reducible refine And.intro (by first | assumption | omega | (simp; done) | (simp; omega) | (intro hg; simp +decide only [go_sem, hg]; done) | (intro hg; simp +decide only [go_sem, hg]; omega)) ?_
            refine hκ _ _ ?_; clear hκ hξ ξ κ
            refine cd (by rfl) (fun c5 => ?_) (fun c5 => ?_)
            · try simp only [go_sem] at c5
              refine sq ?_
              refine rg [2] [] [] (by kernel_rfl) ?_; intro κ ξ hκ hξ
              try simp +decide only [go_sem, Nat.reduceMul, Nat.reduceAdd, Nat.reduceBEq, cond_false, c0, c1, c2, c3, c4, c5]
              repeat with_reducible refine And.intro (by first | assumption | omega | (simp; done) | (simp; omega) | (intro hg; simp +decide only [go_sem, hg]; done) | (intro hg; simp +decide only [go_sem, hg]; omega)) ?_
              refine hκ _ _ ?_; clear hκ hξ ξ κ
              refine rt ?_
              refine retE ?_
              simp +decide only [go_sem, resD, resV, c0, c1, c2, c3, c4, c5]
              all_goals congr 1; all_goals unfold cls; all_goals repeat (first | rw [if_pos (by omega)] | rw [if_neg (by omega)])
            · try simp only [go_sem] at c5
              refine sk ?_
              refine sq ?_
              refine rg [2] [] [] (by kernel_rfl) ?_; intro κ ξ hκ hξ
              try simp +decide only [go_sem, Nat.reduceMul, Nat.reduceAdd, Nat.reduceBEq, cond_false, c0, c1, c2, c3, c4, c5]
              repeat with_reducible refine And.intro (by first | assumption | omega | (simp; done) | (simp; omega) | (intro hg; simp +decide only [go_sem, hg]; done) | (intro hg; simp +decide only [go_sem, hg]; omega)) ?_
              refine hκ _ _ ?_; clear hκ hξ ξ κ
              refine rt ?_
              refine retE ?_
              simp +decide only [go_sem, resD, resV, c0, c1, c2, c3, c4, c5]
              all_goals congr 1; all_goals unfold cls; all_goals repeat (first | rw [if_pos (by omega)] | rw [if_neg (by omega)])

theorem rclass_w (c : Int) : PCall Tryz.prog (.func 99) [.int .u8 c] (.int .i64 (cls c)) := by
  refine PCall.le ?_
  refine fn_ Tryz.func99 (by rfl) (by rfl) (rs := [.tmp 2]) (by rfl) (by simp [Tryz.f99]) ?_
  refine sq ?_
  refine rg [0] [] [] (by kernel_rfl) ?_; intro κ ξ hκ hξ
  try simp +decide only [go_sem, Nat.reduceMul, Nat.reduceAdd, Nat.reduceBEq, cond_false]
  repeat with_reducible refine And.intro (by first | assumption | omega | (simp; done) | (simp; omega) | (intro hg; simp +decide only [go_sem, hg]; done) | (intro hg; simp +decide only [go_sem, hg]; omega)) ?_
  refine hκ _ _ ?_; clear hκ hξ ξ κ
  refine sq ?_
  refine sq ?_
  refine rg [0, 8] [] [(2, 5)] (by kernel_rfl) ?_; intro κ ξ hκ hξ
  try simp +decide only [go_sem, Nat.reduceMul, Nat.reduceAdd, Nat.reduceBEq, cond_false]
  repeat with_reducible refine And.intro (by first | assumption | omega | (simp; done) | (simp; omega) | (intro hg; simp +decide only [go_sem, hg]; done) | (intro hg; simp +decide only [go_sem, hg]; omega)) ?_
  refine hκ _ _ ?_; clear hκ hξ ξ κ
  refine cd (by rfl) (fun c0 => ?_) (fun c0 => ?_)
  · try simp only [go_sem] at c0
    refine sq ?_
    refine rg [2] [] [] (by kernel_rfl) ?_; intro κ ξ hκ hξ
    try simp +decide only [go_sem, Nat.reduceMul, Nat.reduceAdd, Nat.reduceBEq, cond_false, c0]
    repeat with_reducible refine And.intro (by first | assumption | omega | (simp; done) | (simp; omega) | (intro hg; simp +decide only [go_sem, hg]; done) | (intro hg; simp +decide only [go_sem, hg]; omega)) ?_
    refine hκ _ _ ?_; clear hκ hξ ξ κ
    refine rt ?_
    refine retE ?_
    simp +decide only [go_sem, resD, resV, c0]
    all_goals congr 1; all_goals unfold cls; all_goals repeat (first | rw [if_pos (by omega)] | rw [if_neg (by omega)])
  · try simp only [go_sem] at c0
    refine sk ?_
    refine sq ?_
    refine sq ?_
    refine rg [0, 14] [] [(2, 11)] (by kernel_rfl) ?_; intro κ ξ hκ hξ
    try simp +decide only [go_sem, Nat.reduceMul, Nat.reduceAdd, Nat.reduceBEq, cond_false, c0]
    repeat with_reducible refine And.intro (by first | assumption | omega | (simp; done) | (simp; omega) | (intro hg; simp +decide only [go_sem, hg]; done) | (intro hg; simp +decide only [go_sem, hg]; omega)) ?_
    refine hκ _ _ ?_; clear hκ hξ ξ κ
    refine cd (by rfl) (fun c1 => ?_) (fun c1 => ?_)
    · try simp only [go_sem] at c1
      refine sq ?_
      refine rg [2] [] [] (by kernel_rfl) ?_; intro κ ξ hκ hξ
      try simp +decide only [go_sem, Nat.reduceMul, Nat.reduceAdd, Nat.reduceBEq, cond_false, c0, c1]
      repeat with_reducible refine And.intro (by first | assumption | omega | (simp; done) | (simp; omega) | (intro hg; simp +decide only [go_sem, hg]; done) | (intro hg; simp +decide only [go_sem, hg]; omega)) ?_
      refine hκ _ _ ?_; clear hκ hξ ξ κ
      refine rt ?_
      refine retE ?_
      simp +decide only [go_sem, resD, resV, c0, c1]
      all_goals congr 1; all_goals unfold cls; all_goals repeat (first | rw [if_pos (by omega)] | rw [if_neg (by omega)])
    · try simp only [go_sem] at c1
      refine sk ?_
      refine sq ?_
      refine sq ?_
      refine rg [0, 20] [] [(2, 17)] (by kernel_rfl) ?_; intro κ ξ hκ hξ
      try simp +decide only [go_sem, Nat.reduceMul, Nat.reduceAdd, Nat.reduceBEq, cond_false, c0, c1]
      repeat with_reducible refine And.intro (by first | assumption | omega | (simp; done) | (simp; omega) | (intro hg; simp +decide only [go_sem, hg]; done) | (intro hg; simp +decide only [go_sem, hg]; omega)) ?_
      refine hκ _ _ ?_; clear hκ hξ ξ κ
      refine cd (by rfl) (fun c2 => ?_) (fun c2 => ?_)
      · try simp only [go_sem] at c2
        refine sq ?_
        refine rg [2] [] [] (by kernel_rfl) ?_; intro κ ξ hκ hξ
        try simp +decide only [go_sem, Nat.reduceMul, Nat.reduceAdd, Nat.reduceBEq, cond_false, c0, c1, c2]
        repeat with_reducible refine And.intro (by first | assumption | omega | (simp; done) | (simp; omega) | (intro hg; simp +decide only [go_sem, hg]; done) | (intro hg; simp +decide only [go_sem, hg]; omega)) ?_
        refine hκ _ _ ?_; clear hκ hξ ξ κ
        refine rt ?_
        refine retE ?_
        simp +decide only [go_sem, resD, resV, c0, c1, c2]
        all_goals congr 1; all_goals unfold cls; all_goals repeat (first | rw [if_pos (by omega)] | rw [if_neg (by omega)])
      · try simp only [go_sem] at c2
        refine sk ?_
        refine sq ?_
        refine sq ?_
        refine rg [0, 22] [] [] (by kernel_rfl) ?_; intro κ ξ hκ hξ
        try simp +decide only [go_sem, Nat.reduceMul, Nat.reduceAdd, Nat.reduceBEq, cond_false, c0, c1, c2]
        repeat with_reducible refine And.intro (by first | assumption | omega | (simp; done) | (simp; omega) | (intro hg; simp +decide only [go_sem, hg]; done) | (intro hg; simp +decide only [go_sem, hg]; omega)) ?_
        refine hκ _ _ ?_; clear hκ hξ ξ κ
        refine cd (by rfl) (fun c3 => ?_) (fun c3 => ?_)
        · try simp only [go_sem] at c3
          refine sq ?_
          refine rg [2] [] [] (by kernel_rfl) ?_; intro κ ξ hκ hξ
          try simp +decide only [go_sem, Nat.reduceMul, Nat.reduceAdd, Nat.reduceBEq, cond_false, c0, c1, c2, c3]
          repeat with_reducible refine And.intro (by first | assumption | omega | (simp; done) | (simp; omega) | (intro hg; simp +decide only [go_sem, hg]; done) | (intro hg; simp +decide only [go_sem, hg]; omega)) ?_
          refine hκ _ _ ?_; clear hκ hξ ξ κ
          refine rt ?_
          refine retE ?_
          simp +decide only [go_sem, resD, resV, c0, c1, c2, c3]
          all_goals congr 1; all_goals unfold cls; all_goals repeat (first | rw [if_pos (by omega)] | rw [if_neg (by omega)])
        · try simp only [go_sem] at c3
          refine sk ?_
          refine sq ?_
          refine sq ?_
          refine rg [0, 24] [] [] (by kernel_rfl) ?_; intro κ ξ hκ hξ
          try simp +decide only [go_sem, Nat.reduceMul, Nat.reduceAdd, Nat.reduceBEq, cond_false, c0, c1, c2, c3]
          repeat with_reducible refine And.intro (by first | assumption | omega | (simp; done) | (simp; omega) | (intro hg; simp +decide only [go_sem, hg]; done) | (intro hg; simp +decide only [go_sem, hg]; omega)) ?_
          refine hκ _ _ ?_; clear hκ hξ ξ κ
          refine cd (by rfl) (fun c4 => ?_) (fun c4 => ?_)
          · try simp only [go_sem] at c4
            refine sq ?_
            refine rg [2] [] [] (by kernel_rfl) ?_; intro κ ξ hκ hξ
            try simp +decide only [go_sem, Nat.reduceMul, Nat.reduceAdd, Nat.reduceBEq, cond_false, c0, c1, c2, c3, c4]
            repeat with_reducible refine And.intro (by first | assumption | omega | (simp; done) | (simp; omega) | (intro hg; simp +decide only [go_sem, hg]; done) | (intro hg; simp +decide only [go_sem, hg]; omega)) ?_
            refine hκ _ _ ?_; clear hκ hξ ξ κ
            refine rt ?_
            refine retE ?_
            simp +decide only [go_sem, resD, resV, c0, c1, c2, c3, c4]
            all_goals congr 1; all_goals unfold cls; all_goals repeat (first | rw [if_pos (by omega)] | rw [if_neg (by omega)])
          · try simp only [go_sem] at c4
            refine sk ?_
            refine sq ?_
            refine sq ?_
            refine rg [30] [] [(2, 27)] (by kernel_rfl) ?_; intro κ ξ hκ hξ
            try simp +decide only [go_sem, Nat.reduceMul, Nat.reduceAdd, Nat.reduceBEq, cond_false, c0, c1, c2, c3, c4]
            repeat with_reducible refine And.intro (by first | assumption | omega | (simp; done) | (simp; omega) | (intro hg; simp +decide only [go_sem, hg]; done) | (intro hg; simp +decide only [go_sem, hg]; omega)) ?_
            refine hκ _ _ ?_; clear hκ hξ ξ κ
            refine cd (by rfl) (fun c5 => ?_) (fun c5 => ?_)
            · try simp only [go_sem] at c5
              refine sq ?_
              refine rg [2] [] [] (by kernel_rfl) ?_; intro κ ξ hκ hξ
              try simp +decide only [go_sem, Nat.reduceMul, Nat.reduceAdd, Nat.reduceBEq, cond_false, c0, c1, c2, c3, c4, c5]
              repeat with_reducible refine And.intro (by first | assumption | omega | (simp; done) | (simp; omega) | (intro hg; simp +decide only [go_sem, hg]; done) | (intro hg; simp +decide only [go_sem, hg]; omega)) ?_
              refine hκ _ _ ?_; clear hκ hξ ξ κ
              refine rt ?_
              refine retE ?_
              simp +decide only [go_sem, resD, resV, c0, c1, c2, c3, c4, c5]
              all_goals congr 1; all_goals unfold cls; all_goals repeat (first | rw [if_pos (by omega)] | rw [if_neg (by omega)])
            · try simp only [go_sem] at c5
              refine sk ?_
              refine sq ?_
              refine rg [2] [] [] (by kernel_rfl) ?_; intro κ ξ hκ hξ
              try simp +decide only [go_sem, Nat.reduceMul, Nat.reduceAdd, Nat.reduceBEq, cond_false, c0, c1, c2, c3, c4, c5]
              repeat with_reducible refine And.intro (by first | assumption | omega | (simp; done) | (simp; omega) | (intro hg; simp +decide only [go_sem, hg]; done) | (intro hg; simp +decide only [go_sem, hg]; omega)) ?_
              refine hκ _ _ ?_; clear hκ hξ ξ κ
              refine rt ?_
              refine retE ?_
              simp +decide only [go_sem, resD, resV, c0, c1, c2, c3, c4, c5]
              all_goals congr 1; all_goals unfold cls; all_goals repeat (first | rw [if_pos (by omega)] | rw [if_neg (by omega)])

theorem rtv_w (s : List UInt8) : PCall Tryz.prog (.func 76) [.str s] (.bool (tv s)) := by
  refine PCall.ok fun hok => ?_
  simp only [okAll, D.ok, okRows, and_true, true_and, lim_eq, inR_i64', inR_i32', inR_u8', inR_u16', inR_u64'] at hok
  refine PCall.le ?_
  refine fn_ Tryz.func76 (by rfl) (by rfl) (rs := [.tmp 2]) (by rfl) (by simp [Tryz.f76]) ?_
  refine sq ?_
  refine rg [0] [] [] (by kernel_rfl) ?_; intro κ ξ hκ hξ
  try simp +decide only [go_sem, Nat.reduceMul, Nat.reduceAdd, Nat.reduceBEq, cond_false]
  repeat with_reducible refine And.intro (by first | assumption | omega | (simp; done) | (simp; omega) | (intro hg; simp +decide only [go_sem, hg]; done) | (intro hg; simp +decide only [go_sem, hg]; omega)) ?_
  refine hκ _ _ ?_; clear hκ hξ ξ κ
  refine sq ?_
  refine sq ?_
  refine rg [0, 3] [] [] (by kernel_rfl) ?_; intro κ ξ hκ hξ
  try simp +decide only [go_sem, Nat.reduceMul, Nat.reduceAdd, Nat.reduceBEq, cond_false]
  repeat with_reducible refine And.intro (by first | assumption | omega | (simp; done) | (simp; omega) | (intro hg; simp +decide only [go_sem, hg]; done) | (intro hg; simp +decide only [go_sem, hg]; omega)) ?_
  refine hκ _ _ ?_; clear hκ hξ ξ κ
  refine bl ?_
  refine lp (α := Nat) (fun i => mk [(0, .str s), (3, .int .i64 i)]) (fun _ => []) (fun i => i ≤ s.length ∧ ∀ j, j < i → cls (s.getD j 0).toNat ≠ 0) (fun i => s.length - i) 0 ⟨⟨by omega, by intro j hj; omega⟩, EnvLe.of_eq rfl, .refl _⟩ ?_
  rintro i ⟨hi, hj⟩
  refine sq ?_
  refine sq ?_
  refine rg [0, 3, 7] [] [] (by kernel_rfl) ?_; intro κ ξ hκ hξ
  try simp +decide only [go_sem, Nat.reduceMul, Nat.reduceAdd, Nat.reduceBEq, cond_false]
  repeat with_reducible refine And.intro (by first | assumption | omega | (simp; done) | (simp; omega) | (intro hg; simp +decide only [go_sem, hg]; done) | (intro hg; simp +decide only [go_sem, hg]; omega)) ?_
  refine hκ _ _ ?_; clear hκ hξ ξ κ
  refine cd (by rfl) (fun c0 => ?_) (fun c0 => ?_)
  · try simp only [go_sem] at c0
    refine sk ?_
    refine sq ?_
    refine bl ?_
    refine sq ?_
    refine rg [0, 3, 14] [] [] (by kernel_rfl) ?_; intro κ ξ hκ hξ
    try simp +decide only [go_sem, Nat.reduceMul, Nat.reduceAdd, Nat.reduceBEq, cond_false, c0]
    repeat with_reducible refine And.intro (by first | assumption | omega | (simp; done) | (simp; omega) | (intro hg; simp +decide only [go_sem, hg]; done) | (intro hg; simp +decide only [go_sem, hg]; omega)) ?_
    refine callF (rclass_w _) ?_
    try simp +decide only [go_sem, Nat.reduceMul, Nat.reduceAdd, Nat.reduceBEq, cond_false, c0]
    repeat with_reducible refine And.intro (by first | assumption | omega | (simp; done) | (simp; omega) | (intro hg; simp +decide only [go_sem, hg]; done) | (intro hg; simp +decide only [go_sem, hg]; omega)) ?_
    refine hκ _ _ ?_; clear hκ hξ ξ κ
    refine cd (by rfl) (fun c1 => ?_) (fun c1 => ?_)
    · try simp only [go_sem] at c1
      refine sq ?_
      refine rg [2] [] [] (by kernel_rfl) ?_; intro κ ξ hκ hξ
      try simp +decide only [go_sem, Nat.reduceMul, Nat.reduceAdd, Nat.reduceBEq, cond_false, c0, c1]
      repeat with_reducible refine And.intro (by first | assumption | omega | (simp; done) | (simp; omega) | (intro hg; simp +decide only [go_sem, hg]; done) | (intro hg; simp +decide only [go_sem, hg]; omega)) ?_
      refine hκ _ _ ?_; clear hκ hξ ξ κ
      refine rt ?_
      refine retE ?_
      simp +decide only [go_sem, resD, resV, c0, c1]
      congr 1
      unfold tv
      symm
      rw [decide_eq_false_iff_not]
      rintro ⟨h, _⟩
      refine h (s.getD i 0) ?_ (by assumption)
      rw [List.getD_eq_getElem?_getD, List.getElem?_eq_getElem (by omega)]
      exact List.getElem_mem _
    · try simp only [go_sem] at c1
      refine sk ?_
      refine rg [0, 3] [] [] (by kernel_rfl) ?_; intro κ ξ hκ hξ
      try simp +decide only [go_sem, Nat.reduceMul, Nat.reduceAdd, Nat.reduceBEq, cond_false, c0, c1]
      repeat with_reducible refine And.intro (by first | assumption | omega | (simp; done) | (simp; omega) | (intro hg; simp +decide only [go_sem, hg]; done) | (intro hg; simp +decide only [go_sem, hg]; omega)) ?_
      refine hκ _ _ ?_; clear hκ hξ ξ κ
      refine ⟨i + 1, ⟨⟨by omega, ?_⟩, by omega⟩, EnvLe.of_eq (by rw [w64 (by omega)]; rfl), .refl _⟩
      intro j h
      rcases Nat.lt_succ_iff_lt_or_eq.1 h with h | rfl
      · exact hj j h
      · assumption
  · try simp only [go_sem] at c0
    refine ex ?_
    refine sq ?_
    refine rg [2] [] [] (by kernel_rfl) ?_; intro κ ξ hκ hξ
    try simp +decide only [go_sem, Nat.reduceMul, Nat.reduceAdd, Nat.reduceBEq, cond_false, c0]
    repeat with_reducible refine And.intro (by first | assumption | omega | (simp; done) | (simp; omega) | (intro hg; simp +decide only [go_sem, hg]; done) | (intro hg; simp +decide only [go_sem, hg]; omega)) ?_
    refine hκ _ _ ?_; clear hκ hξ ξ κ
    refine rt ?_
    refine retE ?_
    simp +decide only [go_sem, resD, resV, c0]
    congr 1
    unfold tv
    rw [decide_eq_decide]
    have e : i = s.length := by omega
    subst e
    refine ⟨fun h => ⟨fun c hc => ?_, by omega⟩, fun h => by omega⟩
    obtain ⟨j, hj', rfl⟩ := List.getElem_of_mem hc
    simpa [hj'] using hj j hj'

theorem tv_w (s : List UInt8) : PCall Tryz.prog (.func 103) [.str s] (.bool (tv s)) := by
  refine PCall.ok fun hok => ?_
  simp only [okAll, D.ok, okRows, and_true, true_and, lim_eq, inR_i64', inR_i32', inR_u8', inR_u16', inR_u64'] at hok
  refine PCall.le ?_
  refine fn_ Tryz.func103 (by rfl) (by rfl) (rs := [.tmp 2]) (by rfl) (by simp [Tryz.f103]) ?_
  refine sq ?_
  refine rg [0] [] [] (by kernel_rfl) ?_; intro κ ξ hκ hξ
  try simp +decide only [go_sem, Nat.reduceMul, Nat.reduceAdd, Nat.reduceBEq, cond_false]
  repeat with_reducible refine And.intro (by first | assumption | omega | (simp; done) | (simp; omega) | (intro hg; simp +decide only [go_sem, hg]; done) | (intro hg; simp +decide only [go_sem, hg]; omega)) ?_
  refine hκ _ _ ?_; clear hκ hξ ξ κ
  refine sq ?_
  refine sq ?_
  refine rg [0, 6] [] [] (by kernel_rfl) ?_; intro κ ξ hκ hξ
  try simp +decide only [go_sem, Nat.reduceMul, Nat.reduceAdd, Nat.reduceBEq, cond_false]
  repeat with_reducible refine And.intro (by first | assumption | omega | (simp; done) | (simp; omega) | (intro hg; simp +decide only [go_sem, hg]; done) | (intro hg; simp +decide only [go_sem, hg]; omega)) ?_
  intro b6 hb6
  try simp +decide only [go_sem, Nat.reduceMul, Nat.reduceAdd, Nat.reduceBEq, cond_false, hb6]
  repeat with_reducible refine And.intro (by first | assumption | omega | (simp; done) | (simp; omega) | (intro hg; simp +decide only [go_sem, hg]; done) | (intro hg; simp +decide only [go_sem, hg]; omega)) ?_
  refine hκ _ _ ?_; clear hκ hξ ξ κ
  refine bl ?_
  refine lp (α := Nat) (fun p => mk [(0, .str s), (6, .ptr b6 0)]) (fun p => [(b6, .siter s p)]) (fun p => p ≤ s.length ∧ ∀ j, j < p → cls (sat s j) ≠ 0) (fun p => s.length - p) 0 ⟨⟨by omega, by intro j hj; omega⟩, EnvLe.of_eq rfl, .refl _⟩ ?_
  rintro p ⟨hi, hj⟩
  refine sq ?_
  refine rg [0, 6, 7, 8] [] [] (by kernel_rfl) ?_; intro κ ξ hκ hξ
  try simp +decide only [go_sem, Nat.reduceMul, Nat.reduceAdd, Nat.reduceBEq, cond_false, hb6]
  repeat with_reducible refine And.intro (by first | assumption | omega | (simp; done) | (simp; omega) | (intro hg; simp +decide only [go_sem, hg]; done) | (intro hg; simp +decide only [go_sem, hg]; omega)) ?_
  refine ⟨?_, ?_⟩ <;> intro hp7
  · refine hκ _ _ ?_; clear hκ hξ ξ κ
    refine sq ?_
    refine cdt (by rfl) ?_
    refine sk ?_
    refine bl ?_
    refine sq ?_
    refine rg [0, 4, 6] [] [] (by kernel_rfl) ?_; intro κ ξ hκ hξ
    try simp +decide only [go_sem, Nat.reduceMul, Nat.reduceAdd, Nat.reduceBEq, cond_false, hb6, hp7]
    repeat with_reducible refine And.intro (by first | assumption | omega | (simp; done) | (simp; omega) | (intro hg; simp +decide only [go_sem, hg]; done) | (intro hg; simp +decide only [go_sem, hg]; omega)) ?_
    have hdec : sat s p < 128 → Utf8.decode ⟨s.toArray⟩ p = ((s.getD p 0).toNat, 1) := dec_ascii hp7
    have hhigh : 128 ≤ sat s p → 128 ≤ (Utf8.decode ⟨s.toArray⟩ p).1 := dec_high hp7
    have hsr := sat_range s p
    have hrn : ((Utf8.decode ⟨s.toArray⟩ p).1 : Int) ≤ 2147483647 := by have := decode_le ⟨s.toArray⟩ p; omega
    refine hκ _ _ ?_; clear hκ hξ ξ κ
    refine sq ?_
    refine rg [0, 6, 17] [] [(2, 12)] (by kernel_rfl) ?_; intro κ ξ hκ hξ
    try simp +decide only [go_sem, Nat.reduceMul, Nat.reduceAdd, Nat.reduceBEq, cond_false, hb6, hp7]
    repeat with_reducible refine And.intro (by first | assumption | omega | (simp; done) | (simp; omega) | (intro hg; simp +decide only [go_sem, hg]; done) | (intro hg; simp +decide only [go_sem, hg]; omega)) ?_
    refine vo_gc ?_; simp +decide only [go_sem, hb6, hp7]; refine gcallF (fun hg => ⟨by first | rfl | (simp +decide only [go_sem, hg, hb6, hp7]; done) | exact hg | simpa using hg, class_w _⟩) ?_
    try simp +decide only [go_sem, Nat.reduceMul, Nat.reduceAdd, Nat.reduceBEq, cond_false, hb6, hp7]
    repeat with_reducible refine And.intro (by first | assumption | omega | (simp; done) | (simp; omega) | (intro hg; simp +decide only [go_sem, hg]; done) | (intro hg; simp +decide only [go_sem, hg]; omega)) ?_
    refine hκ _ _ ?_; clear hκ hξ ξ κ
    refine cd (by rfl) (fun c0 => ?_) (fun c0 => ?_)
    · try simp only [go_sem] at c0
      refine sq ?_
      refine rg [2] [] [] (by kernel_rfl) ?_; intro κ ξ hκ hξ
      try simp +decide only [go_sem, Nat.reduceMul, Nat.reduceAdd, Nat.reduceBEq, cond_false, hb6, hp7, c0]
      repeat with_reducible refine And.intro (by first | assumption | omega | (simp; done) | (simp; omega) | (intro hg; simp +decide only [go_sem, hg]; done) | (intro hg; simp +decide only [go_sem, hg]; omega)) ?_
      refine hκ _ _ ?_; clear hκ hξ ξ κ
      refine rt ?_
      refine retE ?_
      simp +decide only [go_sem, resD, resV, hb6, hp7, c0]
      rw [tv_false hp7 ?_]
      rcases Int.lt_or_le (sat s p) 128 with ha | ha
      · rw [hdec ha] at c0
        rw [wu8 (by unfold sat at ha; omega)] at c0
        rcases c0 with c0 | c0
        · exact Classical.byContradiction fun hh => by have := cls_bounds hh; unfold sat at this; omega
        · exact c0
      · exact Classical.byContradiction fun hh => by have := cls_bounds hh; omega
    · try simp only [go_sem] at c0
      refine sk ?_
      have ha : sat s p < 128 := by rcases c0 with ⟨c0, _⟩; omega
      rw [hdec ha]
      have hc : cls (sat s p) ≠ 0 := by
        rcases c0 with ⟨_, c0⟩
        rw [hdec ha, wu8 (by unfold sat at ha; omega)] at c0
        exact c0
      refine ⟨p + 1, ⟨⟨by omega, ?_⟩, by omega⟩, EnvLe.of_l ⟨rfl, rfl, trivial⟩, .refl _⟩
      intro j h
      rcases Nat.lt_succ_iff_lt_or_eq.1 h with h | rfl
      · exact hj j h
      · exact hc
  · refine hκ _ _ ?_; clear hκ hξ ξ κ
    refine sq ?_
    refine cdf (by rfl) ?_
    refine ex ?_
    refine sq ?_
    refine rg [2] [] [] (by kernel_rfl) ?_; intro κ ξ hκ hξ
    try simp +decide only [go_sem, Nat.reduceMul, Nat.reduceAdd, Nat.reduceBEq, cond_false, hb6, hp7]
    repeat with_reducible refine And.intro (by first | assumption | omega | (simp; done) | (simp; omega) | (intro hg; simp +decide only [go_sem, hg]; done) | (intro hg; simp +decide only [go_sem, hg]; omega)) ?_
    refine hκ _ _ ?_; clear hκ hξ ξ κ
    refine rt ?_
    refine retE ?_
    simp +decide only [go_sem, resD, resV, hb6, hp7]
    rw [tv_all fun j h => hj j (by omega)]
    congr 1
    rw [decide_eq_decide]
    omega

theorem isid_w (n : Int) : PCall Tryz.prog (.func 102) [.int .i64 n] (.bool (idB n)) := by
  refine PCall.le ?_
  refine fn_ Tryz.func102 (by rfl) (by rfl) (rs := [.tmp 2]) (by rfl) (by simp [Tryz.f102]) ?_
  refine sq ?_
  refine rg [0] [] [] (by kernel_rfl) ?_; intro κ ξ hκ hξ
  try simp +decide only [go_sem, Nat.reduceMul, Nat.reduceAdd, Nat.reduceBEq, cond_false]
  repeat with_reducible refine And.intro (by first | assumption | omega | (simp; done) | (simp; omega) | (intro hg; simp +decide only [go_sem, hg]; done) | (intro hg; simp +decide only [go_sem, hg]; omega)) ?_
  refine hκ _ _ ?_; clear hκ hξ ξ κ
  refine sq ?_
  refine rg [2] [] [(2, 5)] (by kernel_rfl) ?_; intro κ ξ hκ hξ
  try simp +decide only [go_sem, Nat.reduceMul, Nat.reduceAdd, Nat.reduceBEq, cond_false]
  repeat with_reducible refine And.intro (by first | assumption | omega | (simp; done) | (simp; omega) | (intro hg; simp +decide only [go_sem, hg]; done) | (intro hg; simp +decide only [go_sem, hg]; omega)) ?_
  refine hκ _ _ ?_; clear hκ hξ ξ κ
  refine rt ?_
  refine retE ?_
  simp +decide only [go_sem, resD, resV]
  all_goals congr 1
  all_goals rw [Bool.eq_iff_iff]
  all_goals simp [idB]
  all_goals omega

theorem rid_w (n : Int) : PCall Tryz.prog (.func 77) [.int .i64 n] (.bool (idB n)) := by
  refine PCall.le ?_
  refine fn_ Tryz.func77 (by rfl) (by rfl) (rs := [.tmp 2]) (by rfl) (by simp [Tryz.f77]) ?_
  refine sq ?_
  refine rg [0] [] [] (by kernel_rfl) ?_; intro κ ξ hκ hξ
  try simp +decide only [go_sem, Nat.reduceMul, Nat.reduceAdd, Nat.reduceBEq, cond_false]
  repeat with_reducible refine And.intro (by first | assumption | omega | (simp; done) | (simp; omega) | (intro hg; simp +decide only [go_sem, hg]; done) | (intro hg; simp +decide only [go_sem, hg]; omega)) ?_
  refine hκ _ _ ?_; clear hκ hξ ξ κ
  refine sq ?_
  refine rg [2] [] [(2, 5)] (by kernel_rfl) ?_; intro κ ξ hκ hξ
  try simp +decide only [go_sem, Nat.reduceMul, Nat.reduceAdd, Nat.reduceBEq, cond_false]
  repeat with_reducible refine And.intro (by first | assumption | omega | (simp; done) | (simp; omega) | (intro hg; simp +decide only [go_sem, hg]; done) | (intro hg; simp +decide only [go_sem, hg]; omega)) ?_
  refine hκ _ _ ?_; clear hκ hξ ξ κ
  refine rt ?_
  refine retE ?_
  simp +decide only [go_sem, resD, resV]
  all_goals congr 1
  all_goals rw [Bool.eq_iff_iff]
  all_goals simp [idB]
  all_goals omega

theorem stands_w (k i : Int) : PCall Tryz.prog (.func 85) [.int .i64 k, .int .i64 i] (.bool (stP k i)) := by
  refine PCall.le ?_
  refine fn_ Tryz.func85 (by rfl) (by rfl) (rs := [.tmp 4]) (by rfl) (by simp [Tryz.f85]) ?_
  refine sq ?_
  refine rg [0, 1] [] [] (by kernel_rfl) ?_; intro κ ξ hκ hξ
  try simp +decide only [go_sem, Nat.reduceMul, Nat.reduceAdd, Nat.reduceBEq, cond_false]
  repeat with_reducible refine And.intro (by first | assumption | omega | (simp; done) | (simp; omega) | (intro hg; simp +decide only [go_sem, hg]; done) | (intro hg; simp +decide only [go_sem, hg]; omega)) ?_
  refine hκ _ _ ?_; clear hκ hξ ξ κ
  refine sq ?_
  refine sq ?_
  refine rg [0, 5] [] [] (by kernel_rfl) ?_; intro κ ξ hκ hξ
  try simp +decide only [go_sem, Nat.reduceMul, Nat.reduceAdd, Nat.reduceBEq, cond_false]
  repeat with_reducible refine And.intro (by first | assumption | omega | (simp; done) | (simp; omega) | (intro hg; simp +decide only [go_sem, hg]; done) | (intro hg; simp +decide only [go_sem, hg]; omega)) ?_
  refine hκ _ _ ?_; clear hκ hξ ξ κ
  refine bl ?_
  refine sq ?_
  refine rg [0, 5, 6] [] [] (by kernel_rfl) ?_; intro κ ξ hκ hξ
  try simp +decide only [go_sem, Nat.reduceMul, Nat.reduceAdd, Nat.reduceBEq, cond_false]
  repeat with_reducible refine And.intro (by first | assumption | omega | (simp; done) | (simp; omega) | (intro hg; simp +decide only [go_sem, hg]; done) | (intro hg; simp +decide only [go_sem, hg]; omega)) ?_
  refine hκ _ _ ?_; clear hκ hξ ξ κ
  refine cd (by rfl) (fun c0 => ?_) (fun c0 => ?_)
  · try simp only [go_sem] at c0
    refine sq ?_
    refine rg [4] [] [] (by kernel_rfl) ?_; intro κ ξ hκ hξ
    try simp +decide only [go_sem, Nat.reduceMul, Nat.reduceAdd, Nat.reduceBEq, cond_false, c0]
    repeat with_reducible refine And.intro (by first | assumption | omega | (simp; done) | (simp; omega) | (intro hg; simp +decide only [go_sem, hg]; done) | (intro hg; simp +decide only [go_sem, hg]; omega)) ?_
    refine hκ _ _ ?_; clear hκ hξ ξ κ
    refine rt ?_
    refine retE ?_
    simp +decide only [go_sem, resD, resV, c0]
    all_goals congr 1
    all_goals unfold stP
    all_goals (repeat (first | rw [if_pos (by omega)] | rw [if_neg (by omega)]))
    all_goals (first | rfl | (rw [Bool.eq_iff_iff]; simp; done) | (rw [Bool.eq_iff_iff]; simp; omega))
  · try simp only [go_sem] at c0
    refine sq ?_
    refine rg [0, 5, 10] [] [] (by kernel_rfl) ?_; intro κ ξ hκ hξ
    try simp +decide only [go_sem, Nat.reduceMul, Nat.reduceAdd, Nat.reduceBEq, cond_false, c0]
    repeat with_reducible refine And.intro (by first | assumption | omega | (simp; done) | (simp; omega) | (intro hg; simp +decide only [go_sem, hg]; done) | (intro hg; simp +decide only [go_sem, hg]; omega)) ?_
    refine hκ _ _ ?_; clear hκ hξ ξ κ
    refine cd (by rfl) (fun c1 => ?_) (fun c1 => ?_)
    · try simp only [go_sem] at c1
      refine sq ?_
      refine rg [4] [] [] (by kernel_rfl) ?_; intro κ ξ hκ hξ
      try simp +decide only [go_sem, Nat.reduceMul, Nat.reduceAdd, Nat.reduceBEq, cond_false, c0, c1]
      repeat with_reducible refine And.intro (by first | assumption | omega | (simp; done) | (simp; omega) | (intro hg; simp +decide only [go_sem, hg]; done) | (intro hg; simp +decide only [go_sem, hg]; omega)) ?_
      refine hκ _ _ ?_; clear hκ hξ ξ κ
      refine rt ?_
      refine retE ?_
      simp +decide only [go_sem, resD, resV, c0, c1]
      all_goals congr 1
      all_goals unfold stP
      all_goals (repeat (first | rw [if_pos (by omega)] | rw [if_neg (by omega)]))
      all_goals (first | rfl | (rw [Bool.eq_iff_iff]; simp; done) | (rw [Bool.eq_iff_iff]; simp; omega))
    · try simp only [go_sem] at c1
      refine sq ?_
      refine sq ?_
      refine rg [0, 5, 14] [] [] (by kernel_rfl) ?_; intro κ ξ hκ hξ
      try simp +decide only [go_sem, Nat.reduceMul, Nat.reduceAdd, Nat.reduceBEq, cond_false, c0, c1]
      repeat with_reducible refine And.intro (by first | assumption | omega | (simp; done) | (simp; omega) | (intro hg; simp +decide only [go_sem, hg]; done) | (intro hg; simp +decide only [go_sem, hg]; omega)) ?_
      refine hκ _ _ ?_; clear hκ hξ ξ κ
      refine cd (by rfl) (fun c2 => ?_) (fun c2 => ?_)
      · try simp only [go_sem] at c2
        refine sk ?_
        refine cd (by rfl) (fun c3 => ?_) (fun c3 => ?_)
        · try simp only [go_sem] at c3
          refine sq ?_
          refine rg [4] [] [] (by kernel_rfl) ?_; intro κ ξ hκ hξ
          try simp +decide only [go_sem, Nat.reduceMul, Nat.reduceAdd, Nat.reduceBEq, cond_false, c0, c1, c2, c3]
          repeat with_reducible refine And.intro (by first | assumption | omega | (simp; done) | (simp; omega) | (intro hg; simp +decide only [go_sem, hg]; done) | (intro hg; simp +decide only [go_sem, hg]; omega)) ?_
          refine hκ _ _ ?_; clear hκ hξ ξ κ
          refine rt ?_
          refine retE ?_
          simp +decide only [go_sem, resD, resV, c0, c1, c2, c3]
          all_goals congr 1
          all_goals unfold stP
          all_goals (repeat (first | rw [if_pos (by omega)] | rw [if_neg (by omega)]))
          all_goals (first | rfl | (rw [Bool.eq_iff_iff]; simp; done) | (rw [Bool.eq_iff_iff]; simp; omega))
        · try simp only [go_sem] at c3
          refine sk ?_
          refine sq ?_
          refine rg [4] [] [(2, 20)] (by kernel_rfl) ?_; intro κ ξ hκ hξ
          try simp +decide only [go_sem, Nat.reduceMul, Nat.reduceAdd, Nat.reduceBEq, cond_false, c0, c1, c2, c3]
          repeat with_reducible refine And.intro (by first | assumption | omega | (simp; done) | (simp; omega) | (intro hg; simp +decide only [go_sem, hg]; done) | (intro hg; simp +decide only [go_sem, hg]; omega)) ?_
          refine hκ _ _ ?_; clear hκ hξ ξ κ
          refine rt ?_
          refine retE ?_
          simp +decide only [go_sem, resD, resV, c0, c1, c2, c3]
          all_goals congr 1
          all_goals unfold stP
          all_goals (repeat (first | rw [if_pos (by omega)] | rw [if_neg (by omega)]))
          all_goals (first | rfl | (rw [Bool.eq_iff_iff]; simp; done) | (rw [Bool.eq_iff_iff]; simp; omega))
      · try simp only [go_sem] at c2
        refine sq ?_
        refine rg [0, 5, 14] [] [] (by kernel_rfl) ?_; intro κ ξ hκ hξ
        try simp +decide only [go_sem, Nat.reduceMul, Nat.reduceAdd, Nat.reduceBEq, cond_false, c0, c1, c2]
        repeat with_reducible refine And.intro (by first | assumption | omega | (simp; done) | (simp; omega) | (intro hg; simp +decide only [go_sem, hg]; done) | (intro hg; simp +decide only [go_sem, hg]; omega)) ?_
        refine hκ _ _ ?_; clear hκ hξ ξ κ
        refine cd (by rfl) (fun c4 => ?_) (fun c4 => ?_)
        · try simp only [go_sem] at c4
          refine sk ?_
          refine cd (by rfl) (fun c5 => ?_) (fun c5 => ?_)
          · try simp only [go_sem] at c5
            refine sq ?_
            refine rg [4] [] [] (by kernel_rfl) ?_; intro κ ξ hκ hξ
            try simp +decide only [go_sem, Nat.reduceMul, Nat.reduceAdd, Nat.reduceBEq, cond_false, c0, c1, c2, c4, c5]
            repeat with_reducible refine And.intro (by first | assumption | omega | (simp; done) | (simp; omega) | (intro hg; simp +decide only [go_sem, hg]; done) | (intro hg; simp +decide only [go_sem, hg]; omega)) ?_
            refine hκ _ _ ?_; clear hκ hξ ξ κ
            refine rt ?_
            refine retE ?_
            simp +decide only [go_sem, resD, resV, c0, c1, c2, c4, c5]
            all_goals congr 1
            all_goals unfold stP
            all_goals (repeat (first | rw [if_pos (by omega)] | rw [if_neg (by omega)]))
            all_goals (first | rfl | (rw [Bool.eq_iff_iff]; simp; done) | (rw [Bool.eq_iff_iff]; simp; omega))
          · try simp only [go_sem] at c5
            refine sk ?_
            refine sq ?_
            refine rg [4] [] [(2, 20)] (by kernel_rfl) ?_; intro κ ξ hκ hξ
            try simp +decide only [go_sem, Nat.reduceMul, Nat.reduceAdd, Nat.reduceBEq, cond_false, c0, c1, c2, c4, c5]
            repeat with_reducible refine And.intro (by first | assumption | omega | (simp; done) | (simp; omega) | (intro hg; simp +decide only [go_sem, hg]; done) | (intro hg; simp +decide only [go_sem, hg]; omega)) ?_
            refine hκ _ _ ?_; clear hκ hξ ξ κ
            refine rt ?_
            refine retE ?_
            simp +decide only [go_sem, resD, resV, c0, c1, c2, c4, c5]
            all_goals congr 1
            all_goals unfold stP
            all_goals (repeat (first | rw [if_pos (by omega)] | rw [if_neg (by omega)]))
            all_goals (first | rfl | (rw [Bool.eq_iff_iff]; simp; done) | (rw [Bool.eq_iff_iff]; simp; omega))
        · try simp only [go_sem] at c4
          refine rg [0, 14] [] [] (by kernel_rfl) ?_; intro κ ξ hκ hξ
          try simp +decide only [go_sem, Nat.reduceMul, Nat.reduceAdd, Nat.reduceBEq, cond_false, c0, c1, c2, c4]
          repeat with_reducible refine And.intro (by first | assumption | omega | (simp; done) | (simp; omega) | (intro hg; simp +decide only [go_sem, hg]; done) | (intro hg; simp +decide only [go_sem, hg]; omega)) ?_
          refine hκ _ _ ?_; clear hκ hξ ξ κ
          refine cd (by rfl) (fun c6 => ?_) (fun c6 => ?_)
          · try simp only [go_sem] at c6
            refine sq ?_
            refine rg [4] [] [] (by kernel_rfl) ?_; intro κ ξ hκ hξ
            try simp +decide only [go_sem, Nat.reduceMul, Nat.reduceAdd, Nat.reduceBEq, cond_false, c0, c1, c2, c4, c6]
            repeat with_reducible refine And.intro (by first | assumption | omega | (simp; done) | (simp; omega) | (intro hg; simp +decide only [go_sem, hg]; done) | (intro hg; simp +decide only [go_sem, hg]; omega)) ?_
            refine hκ _ _ ?_; clear hκ hξ ξ κ
            refine rt ?_
            refine retE ?_
            simp +decide only [go_sem, resD, resV, c0, c1, c2, c4, c6]
            all_goals congr 1
            all_goals unfold stP
            all_goals (repeat (first | rw [if_pos (by omega)] | rw [if_neg (by omega)]))
            all_goals (first | rfl | (rw [Bool.eq_iff_iff]; simp; done) | (rw [Bool.eq_iff_iff]; simp; omega))
          · try simp only [go_sem] at c6
            refine sk ?_
            refine sq ?_
            refine rg [4] [] [(2, 20)] (by kernel_rfl) ?_; intro κ ξ hκ hξ
            try simp +decide only [go_sem, Nat.reduceMul, Nat.reduceAdd, Nat.reduceBEq, cond_false, c0, c1, c2, c4, c6]
            repeat with_reducible refine And.intro (by first | assumption | omega | (simp; done) | (simp; omega) | (intro hg; simp +decide only [go_sem, hg]; done) | (intro hg; simp +decide only [go_sem, hg]; omega)) ?_
            refine hκ _ _ ?_; clear hκ hξ ξ κ
            refine rt ?_
            refine retE ?_
            simp +decide only [go_sem, resD, resV, c0, c1, c2, c4, c6]
            all_goals congr 1
            all_goals unfold stP
            all_goals (repeat (first | rw [if_pos (by omega)] | rw [if_neg (by omega)]))
            all_goals (first | rfl | (rw [Bool.eq_iff_iff]; simp; done) | (rw [Bool.eq_iff_iff]; simp; omega))

theorem rstands_w (k i : Int) : PCall Tryz.prog (.func 78) [.int .i64 k, .int .i64 i] (.bool (stR k i)) := by
  refine PCall.le ?_
  refine fn_ Tryz.func78 (by rfl) (by rfl) (rs := [.tmp 4]) (by rfl) (by simp [Tryz.f78]) ?_
  refine sq ?_
  refine rg [0, 1] [] [] (by kernel_rfl) ?_; intro κ ξ hκ hξ
  try simp +decide only [go_sem, Nat.reduceMul, Nat.reduceAdd, Nat.reduceBEq, cond_false]
  repeat with_reducible refine And.intro (by first | assumption | omega | (simp; done) | (simp; omega) | (intro hg; simp +decide only [go_sem, hg]; done) | (intro hg; simp +decide only [go_sem, hg]; omega)) ?_
  refine hκ _ _ ?_; clear hκ hξ ξ κ
  refine sq ?_
  refine sq ?_
  refine rg [0, 1, 6] [] [] (by kernel_rfl) ?_; intro κ ξ hκ hξ
  try simp +decide only [go_sem, Nat.reduceMul, Nat.reduceAdd, Nat.reduceBEq, cond_false]
  repeat with_reducible refine And.intro (by first | assumption | omega | (simp; done) | (simp; omega) | (intro hg; simp +decide only [go_sem, hg]; done) | (intro hg; simp +decide only [go_sem, hg]; omega)) ?_
  refine hκ _ _ ?_; clear hκ hξ ξ κ
  refine cd (by rfl) (fun c0 => ?_) (fun c0 => ?_)
  · try simp only [go_sem] at c0
    refine sq ?_
    refine rg [4] [] [] (by kernel_rfl) ?_; intro κ ξ hκ hξ
    try simp +decide only [go_sem, Nat.reduceMul, Nat.reduceAdd, Nat.reduceBEq, cond_false, c0]
    repeat with_reducible refine And.intro (by first | assumption | omega | (simp; done) | (simp; omega) | (intro hg; simp +decide only [go_sem, hg]; done) | (intro hg; simp +decide only [go_sem, hg]; omega)) ?_
    refine hκ _ _ ?_; clear hκ hξ ξ κ
    refine rt ?_
    refine retE ?_
    simp +decide only [go_sem, resD, resV, c0]
    all_goals congr 1
    all_goals unfold stR
    all_goals (repeat (first | rw [if_pos (by omega)] | rw [if_neg (by omega)]))
    all_goals (first | rfl | (rw [Bool.eq_iff_iff]; simp; done) | (rw [Bool.eq_iff_iff]; simp; omega))
  · try simp only [go_sem] at c0
    refine sk ?_
    refine sq ?_
    refine sq ?_
    refine rg [1, 10] [] [] (by kernel_rfl) ?_; intro κ ξ hκ hξ
    try simp +decide only [go_sem, Nat.reduceMul, Nat.reduceAdd, Nat.reduceBEq, cond_false, c0]
    repeat with_reducible refine And.intro (by first | assumption | omega | (simp; done) | (simp; omega) | (intro hg; simp +decide only [go_sem, hg]; done) | (intro hg; simp +decide only [go_sem, hg]; omega)) ?_
    refine hκ _ _ ?_; clear hκ hξ ξ κ
    refine cd (by rfl) (fun c1 => ?_) (fun c1 => ?_)
    · try simp only [go_sem] at c1
      refine sq ?_
      refine rg [4] [] [] (by kernel_rfl) ?_; intro κ ξ hκ hξ
      try simp +decide only [go_sem, Nat.reduceMul, Nat.reduceAdd, Nat.reduceBEq, cond_false, c0, c1]
      repeat with_reducible refine And.intro (by first | assumption | omega | (simp; done) | (simp; omega) | (intro hg; simp +decide only [go_sem, hg]; done) | (intro hg; simp +decide only [go_sem, hg]; omega)) ?_
      refine hκ _ _ ?_; clear hκ hξ ξ κ
      refine rt ?_
      refine retE ?_
      simp +decide only [go_sem, resD, resV, c0, c1]
      all_goals congr 1
      all_goals unfold stR
      all_goals (repeat (first | rw [if_pos (by omega)] | rw [if_neg (by omega)]))
      all_goals (first | rfl | (rw [Bool.eq_iff_iff]; simp; done) | (rw [Bool.eq_iff_iff]; simp; omega))
    · try simp only [go_sem] at c1
      refine sk ?_
      refine sq ?_
      refine rg [4] [] [(2, 15), (6, 19), (10, 23), (14, 27), (18, 31)] (by kernel_rfl) ?_; intro κ ξ hκ hξ
      try simp +decide only [go_sem, Nat.reduceMul, Nat.reduceAdd, Nat.reduceBEq, cond_false, c0, c1]
      repeat with_reducible refine And.intro (by first | assumption | omega | (simp; done) | (simp; omega) | (intro hg; simp +decide only [go_sem, hg]; done) | (intro hg; simp +decide only [go_sem, hg]; omega)) ?_
      refine hκ _ _ ?_; clear hκ hξ ξ κ
      refine rt ?_
      refine retE ?_
      simp +decide only [go_sem, resD, resV, c0, c1]
      all_goals congr 1
      all_goals unfold stR
      all_goals (repeat (first | rw [if_pos (by omega)] | rw [if_neg (by omega)]))
      all_goals (first | rfl | (rw [Bool.eq_iff_iff]; simp; done) | (rw [Bool.eq_iff_iff]; simp; omega))

theorem formed_w (n : Nd) : PCall Tryz.prog (.func 84) [.ag (nrow n)] (.bool (fmB n)) := by
  refine PCall.le ?_
  refine fn_ Tryz.func84 (by rfl) (by rfl) (rs := [.tmp 2]) (by rfl) (by simp [Tryz.f84]) ?_
  refine sq ?_
  refine rg [1] [1] [] (by kernel_rfl) ?_; intro κ ξ hκ hξ
  try simp +decide only [go_sem, Nat.reduceMul, Nat.reduceAdd, Nat.reduceBEq, cond_false]
  repeat with_reducible refine And.intro (by first | assumption | omega | (simp; done) | (simp; omega) | (intro hg; simp +decide only [go_sem, hg]; done) | (intro hg; simp +decide only [go_sem, hg]; omega)) ?_
  refine hκ _ _ ?_; clear hκ hξ ξ κ
  refine sq ?_
  refine rg [1, 3] [] [(3, 7)] (by kernel_rfl) ?_; intro κ ξ hκ hξ
  try simp +decide only [go_sem, Nat.reduceMul, Nat.reduceAdd, Nat.reduceBEq, cond_false]
  repeat with_reducible refine And.intro (by first | assumption | omega | (simp; done) | (simp; omega) | (intro hg; simp +decide only [go_sem, hg]; done) | (intro hg; simp +decide only [go_sem, hg]; omega)) ?_
  refine hκ _ _ ?_; clear hκ hξ ξ κ
  refine sq ?_
  refine rg [2] [] [(3, 15), (7, 19), (13, 25), (18, 30), (23, 35), (28, 40), (33, 45), (38, 50), (40, 52)] (by kernel_rfl) ?_; intro κ ξ hκ hξ
  try simp +decide only [go_sem, Nat.reduceMul, Nat.reduceAdd, Nat.reduceBEq, cond_false]
  repeat with_reducible refine And.intro (by first | assumption | omega | (simp; done) | (simp; omega) | (intro hg; simp +decide only [go_sem, hg]; done) | (intro hg; simp +decide only [go_sem, hg]; omega)) ?_
  refine callF (isid_w _) ?_
  try simp +decide only [go_sem, Nat.reduceMul, Nat.reduceAdd, Nat.reduceBEq, cond_false]
  repeat with_reducible refine And.intro (by first | assumption | omega | (simp; done) | (simp; omega) | (intro hg; simp +decide only [go_sem, hg]; done) | (intro hg; simp +decide only [go_sem, hg]; omega)) ?_
  refine vo_gc ?_; simp +decide only [go_sem]; refine gcallF (fun hg => ⟨by first | rfl | (simp +decide only [go_sem, hg]; done) | exact hg | simpa using hg, isid_w _⟩) ?_
  try simp +decide only [go_sem, Nat.reduceMul, Nat.reduceAdd, Nat.reduceBEq, cond_false]
  repeat with_reducible refine And.intro (by first | assumption | omega | (simp; done) | (simp; omega) | (intro hg; simp +decide only [go_sem, hg]; done) | (intro hg; simp +decide only [go_sem, hg]; omega)) ?_
  refine vo_gc ?_; simp +decide only [go_sem]; refine gcallF (fun hg => ⟨by first | rfl | (simp +decide only [go_sem, hg]; done) | exact hg | simpa using hg, tv_w _⟩) ?_
  try simp +decide only [go_sem, Nat.reduceMul, Nat.reduceAdd, Nat.reduceBEq, cond_false]
  repeat with_reducible refine And.intro (by first | assumption | omega | (simp; done) | (simp; omega) | (intro hg; simp +decide only [go_sem, hg]; done) | (intro hg; simp +decide only [go_sem, hg]; omega)) ?_
  refine hκ _ _ ?_; clear hκ hξ ξ κ
  refine rt ?_
  refine retE ?_
  simp +decide only [go_sem, resD, resV]
  all_goals congr 1
  all_goals rw [Bool.eq_iff_iff]
  all_goals simp [fmB, idB]
  all_goals cases tv n.txt <;> by_cases ht : n.txt = [] <;> simp [ht] <;> omega

theorem rnode_w (n : Nd) : PCall Tryz.prog (.func 58) [.ag (nrow n)] (.bool (fmB n)) := by
  refine PCall.le ?_
  refine fn_ Tryz.func58 (by rfl) (by rfl) (rs := [.tmp 2]) (by rfl) (by simp [Tryz.f58]) ?_
  refine sq ?_
  refine rg [1] [1] [] (by kernel_rfl) ?_; intro κ ξ hκ hξ
  try simp +decide only [go_sem, Nat.reduceMul, Nat.reduceAdd, Nat.reduceBEq, cond_false]
  repeat with_reducible refine And.intro (by first | assumption | omega | (simp; done) | (simp; omega) | (intro hg; simp +decide only [go_sem, hg]; done) | (intro hg; simp +decide only [go_sem, hg]; omega)) ?_
  refine hκ _ _ ?_; clear hκ hξ ξ κ
  refine sq ?_
  refine rg [1, 3] [] [] (by kernel_rfl) ?_; intro κ ξ hκ hξ
  try simp +decide only [go_sem, Nat.reduceMul, Nat.reduceAdd, Nat.reduceBEq, cond_false]
  repeat with_reducible refine And.intro (by first | assumption | omega | (simp; done) | (simp; omega) | (intro hg; simp +decide only [go_sem, hg]; done) | (intro hg; simp +decide only [go_sem, hg]; omega)) ?_
  refine callF (rtv_w _) ?_
  try simp +decide only [go_sem, Nat.reduceMul, Nat.reduceAdd, Nat.reduceBEq, cond_false]
  repeat with_reducible refine And.intro (by first | assumption | omega | (simp; done) | (simp; omega) | (intro hg; simp +decide only [go_sem, hg]; done) | (intro hg; simp +decide only [go_sem, hg]; omega)) ?_
  refine hκ _ _ ?_; clear hκ hξ ξ κ
  refine sq ?_
  refine sq ?_
  refine rg [1, 44] [] [(2, 9), (8, 15), (13, 20), (18, 25), (23, 30), (28, 35), (33, 40)] (by kernel_rfl) ?_; intro κ ξ hκ hξ
  try simp +decide only [go_sem, Nat.reduceMul, Nat.reduceAdd, Nat.reduceBEq, cond_false]
  repeat with_reducible refine And.intro (by first | assumption | omega | (simp; done) | (simp; omega) | (intro hg; simp +decide only [go_sem, hg]; done) | (intro hg; simp +decide only [go_sem, hg]; omega)) ?_
  refine vo_gc ?_; simp +decide only [go_sem]; refine gcallF (fun hg => ⟨by first | rfl | (simp +decide only [go_sem, hg]; done) | exact hg | simpa using hg, rid_w _⟩) ?_
  try simp +decide only [go_sem, Nat.reduceMul, Nat.reduceAdd, Nat.reduceBEq, cond_false]
  repeat with_reducible refine And.intro (by first | assumption | omega | (simp; done) | (simp; omega) | (intro hg; simp +decide only [go_sem, hg]; done) | (intro hg; simp +decide only [go_sem, hg]; omega)) ?_
  refine hκ _ _ ?_; clear hκ hξ ξ κ
  refine cd (by rfl) (fun c0 => ?_) (fun c0 => ?_)
  · try simp only [go_sem] at c0
    refine sq ?_
    refine rg [2] [] [] (by kernel_rfl) ?_; intro κ ξ hκ hξ
    try simp +decide only [go_sem, Nat.reduceMul, Nat.reduceAdd, Nat.reduceBEq, cond_false, c0]
    repeat with_reducible refine And.intro (by first | assumption | omega | (simp; done) | (simp; omega) | (intro hg; simp +decide only [go_sem, hg]; done) | (intro hg; simp +decide only [go_sem, hg]; omega)) ?_
    refine hκ _ _ ?_; clear hκ hξ ξ κ
    refine rt ?_
    refine retE ?_
    simp +decide only [go_sem, resD, resV, c0]
    all_goals congr 1
    all_goals rw [Bool.eq_iff_iff]
    all_goals simp [idB] at c0
    all_goals simp [fmB]
    all_goals (cases htv : tv n.txt <;> simp only [htv] at c0 ⊢ <;> by_cases ht : n.txt = [] <;> simp [ht] at c0 ⊢ <;> omega)
  · try simp only [go_sem] at c0
    refine sk ?_
    refine sq ?_
    refine rg [2] [] [(3, 48), (8, 53)] (by kernel_rfl) ?_; intro κ ξ hκ hξ
    try simp +decide only [go_sem, Nat.reduceMul, Nat.reduceAdd, Nat.reduceBEq, cond_false, c0]
    repeat with_reducible refine And.intro (by first | assumption | omega | (simp; done) | (simp; omega) | (intro hg; simp +decide only [go_sem, hg]; done) | (intro hg; simp +decide only [go_sem, hg]; omega)) ?_
    refine hκ _ _ ?_; clear hκ hξ ξ κ
    refine rt ?_
    refine retE ?_
    simp +decide only [go_sem, resD, resV, c0]
    all_goals congr 1
    all_goals rw [Bool.eq_iff_iff]
    all_goals simp [idB] at c0
    all_goals simp [fmB]
    all_goals (cases htv : tv n.txt <;> simp only [htv] at c0 ⊢ <;> by_cases ht : n.txt = [] <;> simp [ht] at c0 ⊢ <;> omega)

theorem within_w (n m : Int) : PCall Tryz.prog (.func 114) [.int .i64 n, .int .i64 m] (.bool (decide (0 ≤ n ∧ n ≤ m))) := by
  refine PCall.le ?_
  refine fn_ Tryz.func114 (by rfl) (by rfl) (rs := [.tmp 4]) (by rfl) (by simp [Tryz.f114]) ?_
  refine sq ?_
  refine rg [0, 1] [] [] (by kernel_rfl) ?_; intro κ ξ hκ hξ
  try simp +decide only [go_sem, Nat.reduceMul, Nat.reduceAdd, Nat.reduceBEq, cond_false]
  repeat with_reducible refine And.intro (by first | assumption | omega | (simp; done) | (simp; omega) | (intro hg; simp +decide only [go_sem, hg]; done) | (intro hg; simp +decide only [go_sem, hg]; omega)) ?_
  refine hκ _ _ ?_; clear hκ hξ ξ κ
  refine sq ?_
  refine rg [4] [] [(2, 7)] (by kernel_rfl) ?_; intro κ ξ hκ hξ
  try simp +decide only [go_sem, Nat.reduceMul, Nat.reduceAdd, Nat.reduceBEq, cond_false]
  repeat with_reducible refine And.intro (by first | assumption | omega | (simp; done) | (simp; omega) | (intro hg; simp +decide only [go_sem, hg]; done) | (intro hg; simp +decide only [go_sem, hg]; omega)) ?_
  refine hκ _ _ ?_; clear hκ hξ ξ κ
  refine rt ?_
  refine retE ?_
  simp +decide only [go_sem, resD, resV]
  all_goals congr 1
  all_goals rw [Bool.eq_iff_iff]
  all_goals simp []
  all_goals omega

theorem wrong_w (t : Ts) : PCall Tryz.prog (.func 105) [.ag (trow t)] (.bool (!tsB t)) := by
  refine PCall.le ?_
  refine fn_ Tryz.func105 (by rfl) (by rfl) (rs := [.tmp 2]) (by rfl) (by simp [Tryz.f105]) ?_
  refine sq ?_
  refine rg [1] [1] [] (by kernel_rfl) ?_; intro κ ξ hκ hξ
  try simp +decide only [go_sem, Nat.reduceMul, Nat.reduceAdd, Nat.reduceBEq, cond_false]
  repeat with_reducible refine And.intro (by first | assumption | omega | (simp; done) | (simp; omega) | (intro hg; simp +decide only [go_sem, hg]; done) | (intro hg; simp +decide only [go_sem, hg]; omega)) ?_
  refine hκ _ _ ?_; clear hκ hξ ξ κ
  refine sq ?_
  refine rg [2] [] [(4, 7), (10, 13)] (by kernel_rfl) ?_; intro κ ξ hκ hξ
  try simp +decide only [go_sem, Nat.reduceMul, Nat.reduceAdd, Nat.reduceBEq, cond_false]
  repeat with_reducible refine And.intro (by first | assumption | omega | (simp; done) | (simp; omega) | (intro hg; simp +decide only [go_sem, hg]; done) | (intro hg; simp +decide only [go_sem, hg]; omega)) ?_
  refine callF (within_w _ _) ?_
  try simp +decide only [go_sem, Nat.reduceMul, Nat.reduceAdd, Nat.reduceBEq, cond_false]
  repeat with_reducible refine And.intro (by first | assumption | omega | (simp; done) | (simp; omega) | (intro hg; simp +decide only [go_sem, hg]; done) | (intro hg; simp +decide only [go_sem, hg]; omega)) ?_
  refine vo_gc ?_; simp +decide only [go_sem]; refine gcallF (fun hg => ⟨by first | rfl | (simp +decide only [go_sem, hg]; done) | exact hg | simpa using hg, within_w _ _⟩) ?_
  try simp +decide only [go_sem, Nat.reduceMul, Nat.reduceAdd, Nat.reduceBEq, cond_false]
  repeat with_reducible refine And.intro (by first | assumption | omega | (simp; done) | (simp; omega) | (intro hg; simp +decide only [go_sem, hg]; done) | (intro hg; simp +decide only [go_sem, hg]; omega)) ?_
  refine vo_gc ?_; simp +decide only [go_sem]; refine gcallF (fun hg => ⟨by first | rfl | (simp +decide only [go_sem, hg]; done) | exact hg | simpa using hg, within_w _ _⟩) ?_
  try simp +decide only [go_sem, Nat.reduceMul, Nat.reduceAdd, Nat.reduceBEq, cond_false]
  repeat with_reducible refine And.intro (by first | assumption | omega | (simp; done) | (simp; omega) | (intro hg; simp +decide only [go_sem, hg]; done) | (intro hg; simp +decide only [go_sem, hg]; omega)) ?_
  refine hκ _ _ ?_; clear hκ hξ ξ κ
  refine rt ?_
  refine retE ?_
  simp +decide only [go_sem, resD, resV]
  all_goals congr 1
  all_goals rw [Bool.eq_iff_iff]
  all_goals simp [tsB]
  all_goals omega

theorem rtest_w (t : Ts) : PCall Tryz.prog (.func 100) [.ag (trow t)] (.bool (tsB t)) := by
  refine PCall.le ?_
  refine fn_ Tryz.func100 (by rfl) (by rfl) (rs := [.tmp 2]) (by rfl) (by simp [Tryz.f100]) ?_
  refine sq ?_
  refine rg [1] [1] [] (by kernel_rfl) ?_; intro κ ξ hκ hξ
  try simp +decide only [go_sem, Nat.reduceMul, Nat.reduceAdd, Nat.reduceBEq, cond_false]
  repeat with_reducible refine And.intro (by first | assumption | omega | (simp; done) | (simp; omega) | (intro hg; simp +decide only [go_sem, hg]; done) | (intro hg; simp +decide only [go_sem, hg]; omega)) ?_
  refine hκ _ _ ?_; clear hκ hξ ξ κ
  refine sq ?_
  refine rg [2] [] [(3, 6), (8, 11), (13, 16), (18, 21), (23, 26)] (by kernel_rfl) ?_; intro κ ξ hκ hξ
  try simp +decide only [go_sem, Nat.reduceMul, Nat.reduceAdd, Nat.reduceBEq, cond_false]
  repeat with_reducible refine And.intro (by first | assumption | omega | (simp; done) | (simp; omega) | (intro hg; simp +decide only [go_sem, hg]; done) | (intro hg; simp +decide only [go_sem, hg]; omega)) ?_
  refine hκ _ _ ?_; clear hκ hξ ξ κ
  refine rt ?_
  refine retE ?_
  simp +decide only [go_sem, resD, resV]
  all_goals congr 1
  all_goals rw [Bool.eq_iff_iff]
  all_goals simp [tsB]
  all_goals omega

end Go.Proofs.YtjjkgeeafjagkaaGreat
