/- The walks of texts, nodes and tests. Printed by a tool of our own. -/
import Derived.Test.YtfjnohmdilmfhaaGreatDoorY03
import Derived.Shelf.Strings.OnBuilder
import Derived.Shelf.LaysM
import Derived.Shelf.Strconv.Itoa3
import Derived.Shelf.Strconv.Atoi
import Derived.Shelf.Strings.Split
import Derived.Shelf.Strings.Replace
import Derived.Test.YtfjnohmdilmfhaaGreatDoorProg
import Derived.Lib.AppendIntMem
import Derived.Lib.SliceRun
import Derived.Lib.Join
namespace Go.Proofs.YtfjnohmdilmfhaaGreatDoor
open Go Go.RowKit
set_option linter.unusedSimpArgs false
set_option linter.unusedVariables false
set_option maxHeartbeats 4000000
set_option maxRecDepth 100000
def cls (c : Int) : Int := if c = 32 then 4 else if c = 126 then 6 else if c < 32 ∨ 126 < c then 0 else if 97 ≤ c ∧ c ≤ 122 then 1 else if 65 ≤ c ∧ c ≤ 90 then 2 else if 48 ≤ c ∧ c ≤ 57 then 3 else 5
def tv (s : List UInt8) : Bool := decide ((∀ c ∈ s, cls c.toNat ≠ 0) ∧ s.length ≤ 2000)
def sat (s : List UInt8) (i : Nat) : Int := ((s.getD i 0).toNat : Int)
theorem tv_at {s : List UInt8} (h : tv s = true) {i : Nat} (hi : i < s.length) : cls (sat s i) ≠ 0 := by
 unfold tv at h
 have := (of_decide_eq_true h).1 (s.getD i 0) (by simp [hi])
 exact this
theorem cls_bounds {c : Int} (h : cls c ≠ 0) : 32 ≤ c ∧ c ≤ 126 := by
 unfold cls at h
 by_cases h1 : c = 32
 ·omega
 ·by_cases h2 : c = 126
  ·omega
  ·rw [if_neg h1, if_neg h2] at h
   by_cases h3 : c < 32 ∨ 126 < c
   ·rw [if_pos h3] at h; exact absurd rfl h
   ·omega
theorem dec_ascii {s : List UInt8} {p : Nat} (h : p < s.length) (ha : sat s p < 128) : Utf8.decode ⟨s.toArray⟩ p = ((s.getD p 0).toNat, 1) := by
 have e : s.getD p 0 = s[p] := by simp [h]
 unfold sat at ha
 rw [e] at ha ⊢
 have := decode_ascii ⟨s.toArray⟩ p (by simpa [ByteArray.size] using h) (by
   have : (ByteArray.mk s.toArray)[p]'(by simpa [ByteArray.size] using h) = s[p] := rfl
   rw [this]; omega)
 exact this
theorem dec_high {s : List UInt8} {p : Nat} (h : p < s.length) (ha : 128 ≤ sat s p) : 128 ≤ (Utf8.decode ⟨s.toArray⟩ p).1 := by
 have e : s.getD p 0 = s[p] := by simp [h]
 unfold sat at ha
 rw [e] at ha
 exact (decode_high ⟨s.toArray⟩ p (by simpa [ByteArray.size] using h) (by
   have : (ByteArray.mk s.toArray)[p]'(by simpa [ByteArray.size] using h) = s[p] := rfl
   rw [this]; omega)).1
theorem sat_range (s : List UInt8) (i : Nat) : 0 ≤ sat s i ∧ sat s i ≤ 255 := by
 unfold sat
 have := (s.getD i 0).toNat_lt
 omega
theorem tv_false {s : List UInt8} {i : Nat} (hi : i < s.length) (h : cls (sat s i) = 0) : tv s = false := by
 cases e : tv s with
 | false => rfl
 | true => exact absurd h (tv_at e hi)
theorem tv_all {s : List UInt8} (h : ∀ j, j < s.length → cls (sat s j) ≠ 0) : tv s = decide (s.length ≤ 2000) := by
 unfold tv
 rw [decide_eq_decide]
 refine ⟨fun h => h.2, fun h2 => ⟨fun c hc => ?_, h2⟩⟩
 obtain ⟨j, hj, rfl⟩ := List.getElem_of_mem hc
 have := h j hj
 unfold sat at this
 simpa [hj] using this
theorem rowAt_map {α : Type} (f : α → List D) (d : α) {l : List α} {i : Nat} (h : (i : Int) < (l.length : Int)) : rowAt (l.map f) i = f (l.getD i d) := by
 have h' : i < l.length := by omega
 simp [rowAt, h']
structure Nd where
 id : Int
 par : Int
 kind : Int
 cls : Int
 txt : List UInt8
 deriving DecidableEq
structure Ts where
 kind : Int
 cls : Int
 id : Int
 child : Bool
 deriving DecidableEq
def nd0 : Nd := ⟨0, 0, 0, 0, []⟩
def ts0 : Ts := ⟨0, 0, 0, false⟩
def nrow (n : Nd) : List D := [.int .i64 n.id, .int .i64 n.par, .int .i64 n.kind, .int .i64 n.cls, .str n.txt]
def trow (t : Ts) : List D := [.int .i64 t.kind, .int .i64 t.cls, .int .i64 t.id, .bool t.child]
def irow (v : Int) : List D := [.int .i64 v]
def nat (l : List Nd) (i : Nat) : Nd := l.getD i nd0
def tat (l : List Ts) (i : Nat) : Ts := l.getD i ts0
def iat (l : List Int) (i : Nat) : Int := l.getD i 0
theorem rowAt_n {l : List Nd} {i : Nat} (h : (i : Int) < (l.length : Int)) : rowAt (l.map nrow) i = nrow (nat l i) := rowAt_map nrow _ h
theorem rowAt_t {l : List Ts} {i : Nat} (h : (i : Int) < (l.length : Int)) : rowAt (l.map trow) i = trow (tat l i) := rowAt_map trow _ h
theorem rowAt_i {l : List Int} {i : Nat} (h : (i : Int) < (l.length : Int)) : rowAt (l.map irow) i = irow (iat l i) := rowAt_map irow _ h
attribute [local go_sem] List.length_map rowAt_n nrow rowAt_t trow rowAt_i irow
theorem class_w (c : Int) : PCall Tryz.prog (.func 72) [.int .u8 c] (.int .i64 (cls c)) := by
 refine PCall.le ?_
 refine fn_ Tryz.func72 (by rfl) (by rfl) (rs := [.tmp 2]) (by rfl) (by simp [Tryz.f72]) ?_
 refine sr_ [0] [] [] fun κ ξ hκ hξ => ?_
 try simp +decide only [go_sem]
 repeat with_reducible refine an_ ?_
 refine hκ _ _ ?_; clear hκ hξ ξ κ
 refine sq ?_
 refine bl ?_
 refine sr_ [0, 3] [] [] fun κ ξ hκ hξ => ?_
 try simp +decide only [go_sem]
 repeat with_reducible refine an_ ?_
 refine hκ _ _ ?_; clear hκ hξ ξ κ
 refine cd_ (fun c0 => ?_) (fun c0 => ?_)
 ·try simp only [go_sem] at c0
  refine sr_ [2] [] [] fun κ ξ hκ hξ => ?_
  try simp +decide only [go_sem, c0]
  repeat with_reducible refine an_ ?_
  refine hκ _ _ ?_; clear hκ hξ ξ κ
  refine rt ?_
  refine retE ?_
  simp +decide only [go_sem, resD, resV, c0]
  all_goals congr 1; all_goals unfold cls; all_goals repeat (first | rw [if_pos (by omega)] | rw [if_neg (by omega)])
 ·try simp only [go_sem] at c0
  refine sr_ [0, 6] [] [] fun κ ξ hκ hξ => ?_
  try simp +decide only [go_sem, c0]
  repeat with_reducible refine an_ ?_
  refine hκ _ _ ?_; clear hκ hξ ξ κ
  refine cd_ (fun c1 => ?_) (fun c1 => ?_)
  ·try simp only [go_sem] at c1
   refine sr_ [2] [] [] fun κ ξ hκ hξ => ?_
   try simp +decide only [go_sem, c0, c1]
   repeat with_reducible refine an_ ?_
   refine hκ _ _ ?_; clear hκ hξ ξ κ
   refine rt ?_
   refine retE ?_
   simp +decide only [go_sem, resD, resV, c0, c1]
   all_goals congr 1; all_goals unfold cls; all_goals repeat (first | rw [if_pos (by omega)] | rw [if_neg (by omega)])
  ·try simp only [go_sem] at c1
   refine sr_ [0, 9] [] [(2, 12)] fun κ ξ hκ hξ => ?_
   try simp +decide only [go_sem, c0, c1]
   repeat with_reducible refine an_ ?_
   refine hκ _ _ ?_; clear hκ hξ ξ κ
   refine cd_ (fun c2 => ?_) (fun c2 => ?_)
   ·try simp only [go_sem] at c2
    refine sr_ [2] [] [] fun κ ξ hκ hξ => ?_
    try simp +decide only [go_sem, c0, c1, c2]
    repeat with_reducible refine an_ ?_
    refine hκ _ _ ?_; clear hκ hξ ξ κ
    refine rt ?_
    refine retE ?_
    simp +decide only [go_sem, resD, resV, c0, c1, c2]
    all_goals congr 1; all_goals unfold cls; all_goals repeat (first | rw [if_pos (by omega)] | rw [if_neg (by omega)])
   ·try simp only [go_sem] at c2
    refine sr_ [0, 16] [] [(2, 19)] fun κ ξ hκ hξ => ?_
    try simp +decide only [go_sem, c0, c1, c2]
    repeat with_reducible refine an_ ?_
    refine hκ _ _ ?_; clear hκ hξ ξ κ
    refine cd_ (fun c3 => ?_) (fun c3 => ?_)
    ·try simp only [go_sem] at c3
     refine sr_ [2] [] [] fun κ ξ hκ hξ => ?_
     try simp +decide only [go_sem, c0, c1, c2, c3]
     repeat with_reducible refine an_ ?_
     refine hκ _ _ ?_; clear hκ hξ ξ κ
     refine rt ?_
     refine retE ?_
     simp +decide only [go_sem, resD, resV, c0, c1, c2, c3]
     all_goals congr 1; all_goals unfold cls; all_goals repeat (first | rw [if_pos (by omega)] | rw [if_neg (by omega)])
    ·try simp only [go_sem] at c3
     refine sr_ [0, 23] [] [(2, 26)] fun κ ξ hκ hξ => ?_
     try simp +decide only [go_sem, c0, c1, c2, c3]
     repeat with_reducible refine an_ ?_
     refine hκ _ _ ?_; clear hκ hξ ξ κ
     refine cd_ (fun c4 => ?_) (fun c4 => ?_)
     ·try simp only [go_sem] at c4
      refine sr_ [2] [] [] fun κ ξ hκ hξ => ?_
      try simp +decide only [go_sem, c0, c1, c2, c3, c4]
      repeat with_reducible refine an_ ?_
      refine hκ _ _ ?_; clear hκ hξ ξ κ
      refine rt ?_
      refine retE ?_
      simp +decide only [go_sem, resD, resV, c0, c1, c2, c3, c4]
      all_goals congr 1; all_goals unfold cls; all_goals repeat (first | rw [if_pos (by omega)] | rw [if_neg (by omega)])
     ·try simp only [go_sem] at c4
      refine sr_ [30] [] [(2, 33)] fun κ ξ hκ hξ => ?_
      try simp +decide only [go_sem, c0, c1, c2, c3, c4]
      repeat with_reducible refine an_ ?_
      refine hκ _ _ ?_; clear hκ hξ ξ κ
      refine cd_ (fun c5 => ?_) (fun c5 => ?_)
      ·try simp only [go_sem] at c5
       refine sr_ [2] [] [] fun κ ξ hκ hξ => ?_
       try simp +decide only [go_sem, c0, c1, c2, c3, c4, c5]
       repeat with_reducible refine an_ ?_
       refine hκ _ _ ?_; clear hκ hξ ξ κ
       refine rt ?_
       refine retE ?_
       simp +decide only [go_sem, resD, resV, c0, c1, c2, c3, c4, c5]
       all_goals congr 1; all_goals unfold cls; all_goals repeat (first | rw [if_pos (by omega)] | rw [if_neg (by omega)])
      ·try simp only [go_sem] at c5
       refine sk ?_
       refine sr_ [2] [] [] fun κ ξ hκ hξ => ?_
       try simp +decide only [go_sem, c0, c1, c2, c3, c4, c5]
       repeat with_reducible refine an_ ?_
       refine hκ _ _ ?_; clear hκ hξ ξ κ
       refine rt ?_
       refine retE ?_
       simp +decide only [go_sem, resD, resV, c0, c1, c2, c3, c4, c5]
       all_goals congr 1; all_goals unfold cls; all_goals repeat (first | rw [if_pos (by omega)] | rw [if_neg (by omega)])
theorem rclass_w (c : Int) : PCall Tryz.prog (.func 82) [.int .u8 c] (.int .i64 (cls c)) := by
 refine PCall.le ?_
 refine fn_ Tryz.func82 (by rfl) (by rfl) (rs := [.tmp 2]) (by rfl) (by simp [Tryz.f82]) ?_
 refine sr_ [0] [] [] fun κ ξ hκ hξ => ?_
 try simp +decide only [go_sem]
 repeat with_reducible refine an_ ?_
 refine hκ _ _ ?_; clear hκ hξ ξ κ
 refine sq ?_
 refine sr_ [0, 8] [] [(2, 5)] fun κ ξ hκ hξ => ?_
 try simp +decide only [go_sem]
 repeat with_reducible refine an_ ?_
 refine hκ _ _ ?_; clear hκ hξ ξ κ
 refine cd_ (fun c0 => ?_) (fun c0 => ?_)
 ·try simp only [go_sem] at c0
  refine sr_ [2] [] [] fun κ ξ hκ hξ => ?_
  try simp +decide only [go_sem, c0]
  repeat with_reducible refine an_ ?_
  refine hκ _ _ ?_; clear hκ hξ ξ κ
  refine rt ?_
  refine retE ?_
  simp +decide only [go_sem, resD, resV, c0]
  all_goals congr 1; all_goals unfold cls; all_goals repeat (first | rw [if_pos (by omega)] | rw [if_neg (by omega)])
 ·try simp only [go_sem] at c0
  refine sk ?_
  refine sq ?_
  refine sr_ [0, 14] [] [(2, 11)] fun κ ξ hκ hξ => ?_
  try simp +decide only [go_sem, c0]
  repeat with_reducible refine an_ ?_
  refine hκ _ _ ?_; clear hκ hξ ξ κ
  refine cd_ (fun c1 => ?_) (fun c1 => ?_)
  ·try simp only [go_sem] at c1
   refine sr_ [2] [] [] fun κ ξ hκ hξ => ?_
   try simp +decide only [go_sem, c0, c1]
   repeat with_reducible refine an_ ?_
   refine hκ _ _ ?_; clear hκ hξ ξ κ
   refine rt ?_
   refine retE ?_
   simp +decide only [go_sem, resD, resV, c0, c1]
   all_goals congr 1; all_goals unfold cls; all_goals repeat (first | rw [if_pos (by omega)] | rw [if_neg (by omega)])
  ·try simp only [go_sem] at c1
   refine sk ?_
   refine sq ?_
   refine sr_ [0, 20] [] [(2, 17)] fun κ ξ hκ hξ => ?_
   try simp +decide only [go_sem, c0, c1]
   repeat with_reducible refine an_ ?_
   refine hκ _ _ ?_; clear hκ hξ ξ κ
   refine cd_ (fun c2 => ?_) (fun c2 => ?_)
   ·try simp only [go_sem] at c2
    refine sr_ [2] [] [] fun κ ξ hκ hξ => ?_
    try simp +decide only [go_sem, c0, c1, c2]
    repeat with_reducible refine an_ ?_
    refine hκ _ _ ?_; clear hκ hξ ξ κ
    refine rt ?_
    refine retE ?_
    simp +decide only [go_sem, resD, resV, c0, c1, c2]
    all_goals congr 1; all_goals unfold cls; all_goals repeat (first | rw [if_pos (by omega)] | rw [if_neg (by omega)])
   ·try simp only [go_sem] at c2
    refine sk ?_
    refine sq ?_
    refine sr_ [0, 22] [] [] fun κ ξ hκ hξ => ?_
    try simp +decide only [go_sem, c0, c1, c2]
    repeat with_reducible refine an_ ?_
    refine hκ _ _ ?_; clear hκ hξ ξ κ
    refine cd_ (fun c3 => ?_) (fun c3 => ?_)
    ·try simp only [go_sem] at c3
     refine sr_ [2] [] [] fun κ ξ hκ hξ => ?_
     try simp +decide only [go_sem, c0, c1, c2, c3]
     repeat with_reducible refine an_ ?_
     refine hκ _ _ ?_; clear hκ hξ ξ κ
     refine rt ?_
     refine retE ?_
     simp +decide only [go_sem, resD, resV, c0, c1, c2, c3]
     all_goals congr 1; all_goals unfold cls; all_goals repeat (first | rw [if_pos (by omega)] | rw [if_neg (by omega)])
    ·try simp only [go_sem] at c3
     refine sk ?_
     refine sq ?_
     refine sr_ [0, 24] [] [] fun κ ξ hκ hξ => ?_
     try simp +decide only [go_sem, c0, c1, c2, c3]
     repeat with_reducible refine an_ ?_
     refine hκ _ _ ?_; clear hκ hξ ξ κ
     refine cd_ (fun c4 => ?_) (fun c4 => ?_)
     ·try simp only [go_sem] at c4
      refine sr_ [2] [] [] fun κ ξ hκ hξ => ?_
      try simp +decide only [go_sem, c0, c1, c2, c3, c4]
      repeat with_reducible refine an_ ?_
      refine hκ _ _ ?_; clear hκ hξ ξ κ
      refine rt ?_
      refine retE ?_
      simp +decide only [go_sem, resD, resV, c0, c1, c2, c3, c4]
      all_goals congr 1; all_goals unfold cls; all_goals repeat (first | rw [if_pos (by omega)] | rw [if_neg (by omega)])
     ·try simp only [go_sem] at c4
      refine sk ?_
      refine sq ?_
      refine sr_ [30] [] [(2, 27)] fun κ ξ hκ hξ => ?_
      try simp +decide only [go_sem, c0, c1, c2, c3, c4]
      repeat with_reducible refine an_ ?_
      refine hκ _ _ ?_; clear hκ hξ ξ κ
      refine cd_ (fun c5 => ?_) (fun c5 => ?_)
      ·try simp only [go_sem] at c5
       refine sr_ [2] [] [] fun κ ξ hκ hξ => ?_
       try simp +decide only [go_sem, c0, c1, c2, c3, c4, c5]
       repeat with_reducible refine an_ ?_
       refine hκ _ _ ?_; clear hκ hξ ξ κ
       refine rt ?_
       refine retE ?_
       simp +decide only [go_sem, resD, resV, c0, c1, c2, c3, c4, c5]
       all_goals congr 1; all_goals unfold cls; all_goals repeat (first | rw [if_pos (by omega)] | rw [if_neg (by omega)])
      ·try simp only [go_sem] at c5
       refine sk ?_
       refine sr_ [2] [] [] fun κ ξ hκ hξ => ?_
       try simp +decide only [go_sem, c0, c1, c2, c3, c4, c5]
       repeat with_reducible refine an_ ?_
       refine hκ _ _ ?_; clear hκ hξ ξ κ
       refine rt ?_
       refine retE ?_
       simp +decide only [go_sem, resD, resV, c0, c1, c2, c3, c4, c5]
       all_goals congr 1; all_goals unfold cls; all_goals repeat (first | rw [if_pos (by omega)] | rw [if_neg (by omega)])
theorem rtv_w (s : List UInt8) : PCall Tryz.prog (.func 51) [.str s] (.bool (tv s)) := by
 refine PCall.ok fun hok => ?_
 simp only [okAll, D.ok, okRows, and_true, true_and, lim_eq, inR_i64', inR_i32', inR_u8', inR_u16', inR_u64'] at hok
 refine PCall.le ?_
 refine fn_ Tryz.func51 (by rfl) (by rfl) (rs := [.tmp 2]) (by rfl) (by simp [Tryz.f51]) ?_
 refine sr_ [0] [] [] fun κ ξ hκ hξ => ?_
 try simp +decide only [go_sem]
 repeat with_reducible refine an_ ?_
 refine hκ _ _ ?_; clear hκ hξ ξ κ
 refine sq ?_
 refine sr_ [0, 3] [] [] fun κ ξ hκ hξ => ?_
 try simp +decide only [go_sem]
 repeat with_reducible refine an_ ?_
 refine hκ _ _ ?_; clear hκ hξ ξ κ
 refine bl ?_
 refine lp (α := Nat) (fun i => mk [(0, .str s), (3, .int .i64 i)]) (fun _ => []) (fun i => i ≤ s.length ∧ ∀ j, j < i → cls (s.getD j 0).toNat ≠ 0) (fun i => s.length - i) 0 ⟨⟨by omega, by intro j hj; omega⟩, EnvLe.of_eq rfl, .refl _⟩ ?_
 rintro i ⟨hi, hj⟩
 refine sq ?_
 refine sr_ [0, 3, 7] [] [] fun κ ξ hκ hξ => ?_
 try simp +decide only [go_sem]
 repeat with_reducible refine an_ ?_
 refine hκ _ _ ?_; clear hκ hξ ξ κ
 refine cd_ (fun c0 => ?_) (fun c0 => ?_)
 ·try simp only [go_sem] at c0
  refine sk ?_
  refine sq ?_
  refine bl ?_
  refine sr_ [0, 3, 14] [] [] fun κ ξ hκ hξ => ?_
  try simp +decide only [go_sem, c0]
  repeat with_reducible refine an_ ?_
  refine callF (rclass_w _) ?_
  try simp +decide only [go_sem, c0]
  repeat with_reducible refine an_ ?_
  refine hκ _ _ ?_; clear hκ hξ ξ κ
  refine cd_ (fun c1 => ?_) (fun c1 => ?_)
  ·try simp only [go_sem] at c1
   refine sr_ [2] [] [] fun κ ξ hκ hξ => ?_
   try simp +decide only [go_sem, c0, c1]
   repeat with_reducible refine an_ ?_
   refine hκ _ _ ?_; clear hκ hξ ξ κ
   refine rt ?_
   refine retE ?_
   simp +decide only [go_sem, resD, resV, c0, c1]
   congr 1
   unfold tv
   symm
   rw [decide_eq_false_iff_not]
   rintro ⟨h, _⟩
   refine h (s.getD i 0) ?_ (by assumption)
   rw [List.getD_eq_getElem?_getD, List.getElem?_eq_getElem (by omega)]
   exact List.getElem_mem _
  ·try simp only [go_sem] at c1
   refine sk ?_
   refine rr_ [0, 3] [] [] fun κ ξ hκ hξ => ?_
   try simp +decide only [go_sem, c0, c1]
   repeat with_reducible refine an_ ?_
   refine hκ _ _ ?_; clear hκ hξ ξ κ
   refine ⟨i + 1, ⟨⟨by omega, ?_⟩, by omega⟩, EnvLe.of_eq (by rw [w64 (by omega)]; rfl), .refl _⟩
   intro j h
   rcases Nat.lt_succ_iff_lt_or_eq.1 h with h | rfl
   ·exact hj j h
   ·assumption
 ·try simp only [go_sem] at c0
  refine ex ?_
  refine sr_ [2] [] [] fun κ ξ hκ hξ => ?_
  try simp +decide only [go_sem, c0]
  repeat with_reducible refine an_ ?_
  refine hκ _ _ ?_; clear hκ hξ ξ κ
  refine rt ?_
  refine retE ?_
  simp +decide only [go_sem, resD, resV, c0]
  congr 1
  unfold tv
  rw [decide_eq_decide]
  have e : i = s.length := by omega
  subst e
  refine ⟨fun h => ⟨fun c hc => ?_, by omega⟩, fun h => by omega⟩
  obtain ⟨j, hj', rfl⟩ := List.getElem_of_mem hc
  simpa [hj'] using hj j hj'
theorem tv_w (s : List UInt8) : PCall Tryz.prog (.func 39) [.str s] (.bool (tv s)) := by
 refine PCall.ok fun hok => ?_
 simp only [okAll, D.ok, okRows, and_true, true_and, lim_eq, inR_i64', inR_i32', inR_u8', inR_u16', inR_u64'] at hok
 refine PCall.le ?_
 refine fn_ Tryz.func39 (by rfl) (by rfl) (rs := [.tmp 2]) (by rfl) (by simp [Tryz.f39]) ?_
 refine sr_ [0] [] [] fun κ ξ hκ hξ => ?_
 try simp +decide only [go_sem]
 repeat with_reducible refine an_ ?_
 refine hκ _ _ ?_; clear hκ hξ ξ κ
 refine sq ?_
 refine sr_ [0, 6] [] [] fun κ ξ hκ hξ => ?_
 try simp +decide only [go_sem]
 repeat with_reducible refine an_ ?_
 intro b6 hb6
 try simp +decide only [go_sem, hb6]
 repeat with_reducible refine an_ ?_
 refine hκ _ _ ?_; clear hκ hξ ξ κ
 refine bl ?_
 refine lp (α := Nat) (fun p => mk [(0, .str s), (6, .ptr b6 0)]) (fun p => [(b6, .siter s p)]) (fun p => p ≤ s.length ∧ ∀ j, j < p → cls (sat s j) ≠ 0) (fun p => s.length - p) 0 ⟨⟨by omega, by intro j hj; omega⟩, EnvLe.of_eq rfl, .refl _⟩ ?_
 rintro p ⟨hi, hj⟩
 refine sr_ [0, 6, 7, 8] [] [] fun κ ξ hκ hξ => ?_
 try simp +decide only [go_sem, hb6]
 repeat with_reducible refine an_ ?_
 refine ⟨?_, ?_⟩ <;> intro hp7
 ·refine hκ _ _ ?_; clear hκ hξ ξ κ
  refine sq ?_
  refine cdt (by rfl) ?_
  refine sk ?_
  refine bl ?_
  refine sr_ [0, 4, 6] [] [] fun κ ξ hκ hξ => ?_
  try simp +decide only [go_sem, hb6, hp7]
  repeat with_reducible refine an_ ?_
  have hdec : sat s p < 128 → Utf8.decode ⟨s.toArray⟩ p = ((s.getD p 0).toNat, 1) := dec_ascii hp7
  have hhigh : 128 ≤ sat s p → 128 ≤ (Utf8.decode ⟨s.toArray⟩ p).1 := dec_high hp7
  have hsr := sat_range s p
  have hrn : ((Utf8.decode ⟨s.toArray⟩ p).1 : Int) ≤ 2147483647 := by have := decode_le ⟨s.toArray⟩ p; omega
  refine hκ _ _ ?_; clear hκ hξ ξ κ
  refine sr_ [0, 6, 17] [] [(2, 12)] fun κ ξ hκ hξ => ?_
  try simp +decide only [go_sem, hb6, hp7]
  repeat with_reducible refine an_ ?_
  refine vo_gc ?_
  try simp +decide only [go_sem, hb6, hp7]
  refine gcF (class_w _) ?_
  try simp +decide only [go_sem, hb6, hp7]
  repeat with_reducible refine an_ ?_
  refine hκ _ _ ?_; clear hκ hξ ξ κ
  refine cd_ (fun c0 => ?_) (fun c0 => ?_)
  ·try simp only [go_sem] at c0
   refine sr_ [2] [] [] fun κ ξ hκ hξ => ?_
   try simp +decide only [go_sem, hb6, hp7, c0]
   repeat with_reducible refine an_ ?_
   refine hκ _ _ ?_; clear hκ hξ ξ κ
   refine rt ?_
   refine retE ?_
   simp +decide only [go_sem, resD, resV, hb6, hp7, c0]
   rw [tv_false hp7 ?_]
   rcases Int.lt_or_le (sat s p) 128 with ha | ha
   ·rw [hdec ha] at c0
    rw [wu8 (by unfold sat at ha; omega)] at c0
    rcases c0 with c0 | c0
    ·exact Classical.byContradiction fun hh => by have := cls_bounds hh; unfold sat at this; omega
    ·exact c0
   ·exact Classical.byContradiction fun hh => by have := cls_bounds hh; omega
  ·try simp only [go_sem] at c0
   refine sk ?_
   have ha : sat s p < 128 := by rcases c0 with ⟨c0, _⟩; omega
   rw [hdec ha]
   have hc : cls (sat s p) ≠ 0 := by
    rcases c0 with ⟨_, c0⟩
    rw [hdec ha, wu8 (by unfold sat at ha; omega)] at c0
    exact c0
   refine ⟨p + 1, ⟨⟨by omega, ?_⟩, by omega⟩, EnvLe.of_l ⟨rfl, rfl, trivial⟩, .refl _⟩
   intro j h
   rcases Nat.lt_succ_iff_lt_or_eq.1 h with h | rfl
   ·exact hj j h
   ·exact hc
 ·refine hκ _ _ ?_; clear hκ hξ ξ κ
  refine sq ?_
  refine cdf (by rfl) ?_
  refine ex ?_
  refine sr_ [2] [] [] fun κ ξ hκ hξ => ?_
  try simp +decide only [go_sem, hb6, hp7]
  repeat with_reducible refine an_ ?_
  refine hκ _ _ ?_; clear hκ hξ ξ κ
  refine rt ?_
  refine retE ?_
  simp +decide only [go_sem, resD, resV, hb6, hp7]
  rw [tv_all fun j h => hj j (by omega)]
  congr 1
  rw [decide_eq_decide]
  omega
end Go.Proofs.YtfjnohmdilmfhaaGreatDoor
/- The walks of searches. Printed by a tool of our own. -/
namespace Go.Proofs.YtfjnohmdilmfhaaGreatDoor
open Go Go.RowKit
set_option linter.unusedSimpArgs false
set_option linter.unusedVariables false
set_option maxHeartbeats 4000000
set_option maxRecDepth 100000
/-- Where a list has what is looked for, or -1. -/
def fixI {α : Type} (p : α → Bool) (l : List α) : Int := match l.findIdx? p with
 | some i => (i : Int)
 | none => -1
theorem fixI_some {α : Type} {p : α → Bool} {l : List α} {d : α} {i : Nat} (h : i < l.length) (h1 : p (l.getD i d) = true) (h2 : ∀ j, j < i → p (l.getD j d) = false) : fixI p l = i := by
 unfold fixI
 rw [List.findIdx?_eq_some_iff_getElem.2 ⟨h, by simpa [h] using h1, fun j hj => by have := h2 j hj; simpa [show j < l.length from by omega] using this⟩]
theorem fixI_none {α : Type} {p : α → Bool} {l : List α} {d : α} (h2 : ∀ j, j < l.length → p (l.getD j d) = false) : fixI p l = -1 := by
 unfold fixI
 rw [List.findIdx?_eq_none_iff.2 fun g hg => by
   obtain ⟨j, hj, rfl⟩ := List.getElem_of_mem hg
   simpa [hj] using h2 j hj]
theorem fixI_cases {α : Type} (p : α → Bool) (l : List α) (d : α) : (∃ i, i < l.length ∧ p (l.getD i d) = true ∧ (∀ j, j < i → p (l.getD j d) = false) ∧ fixI p l = i) ∨ ((∀ j, j < l.length → p (l.getD j d) = false) ∧ fixI p l = -1) := by
 unfold fixI
 cases h : l.findIdx? p with
 | some i =>
  obtain ⟨h1, h2, h3⟩ := List.findIdx?_eq_some_iff_getElem.1 h
  refine .inl ⟨i, h1, by simpa [h1] using h2, fun j hj => ?_, rfl⟩
  have := h3 j hj
  simpa [show j < l.length from by omega] using this
 | none =>
  rw [List.findIdx?_eq_none_iff] at h
  exact .inr ⟨fun j hj => by simpa [hj] using h l[j] (List.getElem_mem hj), rfl⟩
attribute [local go_sem] List.length_map rowAt_n nrow rowAt_t trow rowAt_i irow
end Go.Proofs.YtfjnohmdilmfhaaGreatDoor
/- Plain facts of trees: depths, what a tree is. -/
namespace Go.Proofs.YtfjnohmdilmfhaaGreatDoor
open Go Go.RowKit
set_option linter.unusedSimpArgs false
set_option linter.unusedVariables false
/-! ### The places of a tree, as a map -/
/-! ### The places of a whole tree -/
/-! ### The reference's depths -/
end Go.Proofs.YtfjnohmdilmfhaaGreatDoor
/- Claims as plain data, and when they are well-formed. -/
namespace Go.Proofs.YtfjnohmdilmfhaaGreatDoor
open Go Go.RowKit
set_option linter.unusedSimpArgs false
set_option linter.unusedVariables false
inductive Cl where
 | mk (op a b n : Int) (kids : List Cl)
def Cl.op : Cl → Int | .mk o _ _ _ _ => o
def Cl.a : Cl → Int | .mk _ a _ _ _ => a
def Cl.b : Cl → Int | .mk _ _ b _ _ => b
def Cl.n : Cl → Int | .mk _ _ _ n _ => n
def Cl.kids : Cl → List Cl | .mk _ _ _ _ k => k
def cl0 : Cl := .mk 0 0 0 0 []
mutual
def crow : Cl → List D
 | .mk o a b n ks => [.int .i64 o, .int .i64 a, .int .i64 b, .int .i64 n, .sl 5 (crows ks) .no]
def crows : List Cl → List (List D)
 | [] => []
 | e :: es => crow e :: crows es
end
theorem crows_map : ∀ l : List Cl, crows l = l.map crow
 | [] => by simp only [crows, List.map_nil]
 | e :: es => by simp only [crows, List.map_cons, crows_map es]
theorem crow_eq (e : Cl) : crow e = [.int .i64 e.op, .int .i64 e.a, .int .i64 e.b, .int .i64 e.n, .sl 5 (e.kids.map crow) .no] := by
 cases e with
 | mk o a b n ks => simp only [crow, crows_map, Cl.op, Cl.a, Cl.b, Cl.n, Cl.kids]
def cat (l : List Cl) (i : Nat) : Cl := l.getD i cl0
theorem rowAt_c {l : List Cl} {i : Nat} (h : (i : Int) < (l.length : Int)) : rowAt (l.map crow) i = [.int .i64 (cat l i).op, .int .i64 (cat l i).a, .int .i64 (cat l i).b, .int .i64 (cat l i).n, .sl 5 ((cat l i).kids.map crow) .no] := by
 rw [rowAt_map crow cl0 h]; exact crow_eq _
mutual
def clS : Cl → Nat
 | .mk _ _ _ _ ks => 1 + clSs ks
def clSs : List Cl → Nat
 | [] => 0
 | e :: es => clS e + clSs es
end
mutual
def clD : Cl → Nat
 | .mk _ _ _ _ ks => 1 + clDs ks
def clDs : List Cl → Nat
 | [] => 0
 | e :: es => max (clD e) (clDs es)
end
/-- The numbers of a part of a claim, and how many kids it has. -/
def opC (o a b n : Int) (k : Nat) : Bool :=
 if o = 1 then decide ((1 ≤ a ∧ a ≤ 1000000) ∧ b = 0 ∧ n = 0 ∧ k = 0)
 else if o = 2 then decide ((1 ≤ a ∧ a ≤ 1000000) ∧ (1 ≤ b ∧ b ≤ 1000000) ∧ a ≠ b ∧ n = 0 ∧ k = 0)
 else if o = 3 then decide ((1 ≤ a ∧ a ≤ 1000000) ∧ b = 0 ∧ (0 ≤ n ∧ n ≤ 1000000000) ∧ k = 0)
 else if o = 4 then decide (a = 0 ∧ b = 0 ∧ n = 0 ∧ k = 0)
 else if o = 5 then decide ((1 ≤ a ∧ a ≤ 1000000) ∧ b = 0 ∧ (1 ≤ n ∧ n ≤ 100) ∧ k = 0)
 else if o = 6 ∨ o = 7 then decide (a = 0 ∧ b = 0 ∧ n = 0 ∧ 2 ≤ k ∧ k ≤ 10)
 else if o = 8 then decide (a = 0 ∧ b = 0 ∧ n = 0 ∧ k = 1)
 else false
mutual
def clN : Cl → Bool
 | .mk o a b n ks => opC o a b n ks.length && clNs ks
def clNs : List Cl → Bool
 | [] => true
 | e :: es => clN e && clNs es
end
theorem clS_eq (e : Cl) : clS e = 1 + clSs e.kids := by cases e; simp only [clS, Cl.kids]
theorem clD_eq (e : Cl) : clD e = 1 + clDs e.kids := by cases e; simp only [clD, Cl.kids]
theorem clN_eq (e : Cl) : clN e = (opC e.op e.a e.b e.n e.kids.length && clNs e.kids) := by cases e; simp only [clN, Cl.kids, Cl.op, Cl.a, Cl.b, Cl.n]
theorem clS_pos (e : Cl) : 1 ≤ clS e := by rw [clS_eq]; omega
theorem clD_pos (e : Cl) : 1 ≤ clD e := by rw [clD_eq]; omega
theorem clSs_app (a b : List Cl) : clSs (a ++ b) = clSs a + clSs b := by
 induction a with
 | nil => simp only [List.nil_append, clSs, Nat.zero_add]
 | cons e a ih => simp only [List.cons_append, clSs, ih]; omega
theorem clDs_app (a b : List Cl) : clDs (a ++ b) = max (clDs a) (clDs b) := by
 induction a with
 | nil => simp only [List.nil_append, clDs]; omega
 | cons e a ih => simp only [List.cons_append, clDs, ih]; omega
theorem clNs_app (a b : List Cl) : clNs (a ++ b) = (clNs a && clNs b) := by
 induction a with
 | nil => simp only [List.nil_append, clNs, Bool.true_and]
 | cons e a ih => simp only [List.cons_append, clNs, ih, Bool.and_assoc]
theorem take_c {l : List Cl} {i : Nat} (h : i < l.length) : l.take (i + 1) = l.take i ++ [cat l i] := by
 rw [List.take_add_one, List.getElem?_eq_getElem h]
 unfold cat
 rw [List.getD_eq_getElem?_getD, List.getElem?_eq_getElem h]
 rfl
theorem clSs_take {l : List Cl} {i : Nat} (h : i < l.length) : clSs (l.take (i + 1)) = clSs (l.take i) + clS (cat l i) := by rw [take_c h, clSs_app]; simp only [clSs]; omega
theorem clDs_take {l : List Cl} {i : Nat} (h : i < l.length) : clDs (l.take (i + 1)) = max (clDs (l.take i)) (clD (cat l i)) := by rw [take_c h, clDs_app]; simp only [clDs]; omega
theorem clNs_take {l : List Cl} {i : Nat} (h : i < l.length) : clNs (l.take (i + 1)) = (clNs (l.take i) && clN (cat l i)) := by rw [take_c h, clNs_app]; simp only [clNs, Bool.and_true]
theorem clSs_le (l : List Cl) (i : Nat) : clSs (l.take i) ≤ clSs l := by
 have := clSs_app (l.take i) (l.drop i)
 rw [List.take_append_drop] at this
 omega
theorem clDs_le (l : List Cl) (i : Nat) : clDs (l.take i) ≤ clDs l := by
 have := clDs_app (l.take i) (l.drop i)
 rw [List.take_append_drop] at this
 omega
theorem clNs_le {l : List Cl} {i : Nat} (h : clNs (l.take i) = false) : clNs l = false := by
 have := clNs_app (l.take i) (l.drop i)
 rw [List.take_append_drop, h] at this
 simpa using this
theorem clS_at {l : List Cl} {i : Nat} (h : i < l.length) : clS (cat l i) ≤ clSs l := by
 have h1 := clSs_take h
 have h2 := clSs_le l (i + 1)
 omega
theorem clD_at {l : List Cl} {i : Nat} (h : i < l.length) : clD (cat l i) ≤ clDs l := by
 have h1 := clDs_take h
 have h2 := clDs_le l (i + 1)
 omega
theorem clN_at {l : List Cl} {i : Nat} (h : i < l.length) (h2 : clN (cat l i) = false) : clNs l = false := by
 have h1 := clNs_take h
 rw [h2, Bool.and_false] at h1
 exact clNs_le h1
/-- Of an expression's kids each is smaller. -/
theorem kid_lt {e : Cl} {i : Nat} (h : i < e.kids.length) : clS (cat e.kids i) < clS e := by
 have := clS_at h
 rw [clS_eq e]
 omega
/-- A claim that is well-formed. -/
def clB (e : Cl) : Bool := clN e && decide (clD e ≤ 30 ∧ clS e ≤ 100)
theorem clNs_all {l : List Cl} (h : ∀ j, j < l.length → clN (cat l j) = true) : clNs l = true := by
 induction l with
 | nil => rfl
 | cons e l ih =>
  simp only [clNs, Bool.and_eq_true]
  exact ⟨h 0 (by simp), ih fun j hj => h (j + 1) (by simp; omega)⟩
theorem clDs_all {m : Nat} {l : List Cl} (h : ∀ j, j < l.length → clD (cat l j) ≤ m) : clDs l ≤ m := by
 induction l with
 | nil => simp [clDs]
 | cons e l ih =>
  simp only [clDs]
  have h1 := h 0 (by simp)
  have h2 := ih fun j hj => h (j + 1) (by simp; omega)
  have : cat (e :: l) 0 = e := rfl
  rw [this] at h1
  omega
def fmC (e : Cl) (L : Nat) (m : Int) : Bool := clN e && decide (clD e ≤ L ∧ (clS e : Int) ≤ m)
theorem fmC_true {e : Cl} {L : Nat} {m : Int} : fmC e L m = true ↔ clN e = true ∧ clD e ≤ L ∧ (clS e : Int) ≤ m := by
 unfold fmC
 rw [Bool.and_eq_true, decide_eq_true_eq]
theorem fmC_all (e : Cl) : fmC e 30 100 = clB e := by
 rw [Bool.eq_iff_iff, fmC_true]
 unfold clB
 rw [Bool.and_eq_true, decide_eq_true_eq]
 exact and_congr Iff.rfl (by omega)
theorem fmC_no {e : Cl} {L : Nat} {m : Int} (h : opC e.op e.a e.b e.n e.kids.length = false ∨ L = 0 ∨ m < 1) : fmC e L m = false := by
 rw [← Bool.not_eq_true, fmC_true, clN_eq]
 rintro ⟨a, b, c⟩
 have := clD_pos e
 have := clS_pos e
 rcases h with h | h | h
 ·rw [h] at a; cases a
 ·omega
 ·omega
theorem fmC_kid {e : Cl} {L i : Nat} {m : Int} (hi : i < e.kids.length) (h : fmC (cat e.kids i) (L - 1) (m - 1 - (clSs (e.kids.take i) : Nat)) = false) (hL : 1 ≤ L) : fmC e L m = false := by
 rw [← Bool.not_eq_true, fmC_true] at h ⊢
 rintro ⟨a, b, c⟩
 refine h ⟨?_, ?_, ?_⟩
 ·rw [clN_eq, Bool.and_eq_true] at a
  cases e2 : clN (cat e.kids i) with
  | true => rfl
  | false => rw [clN_at hi e2] at a; cases a.2
 ·have := clD_at hi
  rw [clD_eq] at b
  omega
 ·have h1 := clSs_take hi
  have h2 := clSs_le e.kids (i + 1)
  rw [clS_eq] at c
  omega
theorem fmC_end {e : Cl} {L : Nat} {m : Int} (hL : 1 ≤ L) (h1 : opC e.op e.a e.b e.n e.kids.length = true) (h2 : ∀ j, j < e.kids.length → clN (cat e.kids j) = true ∧ clD (cat e.kids j) ≤ L - 1) (h3 : (1 : Int) + (clSs e.kids : Nat) ≤ m) : fmC e L m = true := by
 rw [fmC_true, clN_eq, clD_eq, clS_eq, h1, Bool.true_and]
 refine ⟨clNs_all fun j hj => (h2 j hj).1, ?_, by omega⟩
 have := clDs_all (m := L - 1) fun j hj => (h2 j hj).2
 omega
/-- What the reference counts. -/
def szC (e : Cl) (lv mo : Nat) : Int := if fmC e lv mo = true then (clS e : Int) else 1000
theorem szC_bd (e : Cl) (lv : Nat) {mo : Nat} (h : mo ≤ 100) : 0 ≤ szC e lv mo ∧ szC e lv mo ≤ 1000 := by
 unfold szC
 split
 ·rename_i hf; have := (fmC_true.1 hf).2.2; omega
 ·omega
/-! ### Boxes -/
structure Sn where
 txt : List UInt8
 x : Int
 y : Int
 w : Int
 h : Int
structure Bx where
 node : Int
 x : Int
 y : Int
 w : Int
 h : Int
 cut : Bool
 lines : List Sn
def sn0 : Sn := ⟨[], 0, 0, 0, 0⟩
def bx0 : Bx := ⟨0, 0, 0, 0, 0, false, []⟩
def snrow (s : Sn) : List D := [.str s.txt, .int .i64 s.x, .int .i64 s.y, .int .i64 s.w, .int .i64 s.h]
def bxrow (b : Bx) : List D := [.int .i64 b.node, .int .i64 b.x, .int .i64 b.y, .int .i64 b.w, .int .i64 b.h, .bool b.cut, .sl 5 (b.lines.map snrow) .no]
def snat (l : List Sn) (i : Nat) : Sn := l.getD i sn0
def bxat (l : List Bx) (i : Nat) : Bx := l.getD i bx0
theorem rowAt_sn {l : List Sn} {i : Nat} (h : (i : Int) < (l.length : Int)) : rowAt (l.map snrow) i = snrow (snat l i) := rowAt_map snrow _ h
theorem rowAt_bx {l : List Bx} {i : Nat} (h : (i : Int) < (l.length : Int)) : rowAt (l.map bxrow) i = bxrow (bxat l i) := rowAt_map bxrow _ h
def plB (x y w h : Int) : Bool := decide ((-1000000000 ≤ x ∧ x ≤ 1000000000) ∧ (-1000000000 ≤ y ∧ y ≤ 1000000000) ∧ (0 ≤ w ∧ w ≤ 1000000000) ∧ (0 ≤ h ∧ h ≤ 1000000000))
def snB (s : Sn) : Bool := plB s.x s.y s.w s.h && tv s.txt
def bxB (b : Bx) : Bool := decide (1 ≤ b.node ∧ b.node ≤ 1000000) && plB b.x b.y b.w b.h && b.lines.all snB
def bxsB (l : List Bx) : Bool := l.all bxB && decide ((l.map (·.node)).Nodup)
end Go.Proofs.YtfjnohmdilmfhaaGreatDoor
/- The library's contracts that this seat uses, laid by the kit's shelf (lay-shelf.mjs, lay-plain.mjs). -/
namespace Go.Proofs.YtfjnohmdilmfhaaGreatDoor
open Go Go.RowKit Go.Lib Go.Sort Go.Shelf Go.Proofs
def sh_lays155_ren : Go.Shelf.Ren := ⟨fun | 155 => 60 | 154 => 85 | 138 => 98 | 165 => 93 | 143 => 99 | 166 => 94 | 197 => 100 | 169 => 95 | 195 => 109 | 218 => 110 | 240 => 106 | 241 => 107 | 219 => 111 | 260 => 112 | 276 => 123 | 277 => 124 | 217 => 125 | 225 => 126 | 224 => 127 | 267 => 128 | 266 => 137 | 314 => 138 | n => n, fun | 9 => 9 | 3 => 3 | 4 => 4 | 72 => 113 | 0 => 0 | 76 => 107 | 105 => 118 | 21 => 21 | 5 => 5 | 70 => 110 | 20 => 20 | 37 => 111 | 75 => 106 | 127 => 124 | 164 => 140 | 46 => 144 | 119 => 145 | 139 => 148 | 138 => 147 | 146 => 159 | 51 => 156 | 80 => 86 | n => n, fun | 1 => 0 | 3 => 1 | 4 => 2 | n => n⟩
theorem sh_lays155 : Go.Proofs.Lays.n155 Tryz.prog sh_lays155_ren := {
 mixed := by kernel_rfl
 f138 := Tryz.func98.trans (congrArg some (by kernel_rfl))
 f143 := Tryz.func99.trans (congrArg some (by kernel_rfl))
 f154 := Tryz.func85.trans (congrArg some (by kernel_rfl))
 f155 := Tryz.func60.trans (congrArg some (by kernel_rfl))
 f165 := Tryz.func93.trans (congrArg some (by kernel_rfl))
 f166 := Tryz.func94.trans (congrArg some (by kernel_rfl))
 f169 := Tryz.func95.trans (congrArg some (by kernel_rfl))
 f195 := Tryz.func109.trans (congrArg some (by kernel_rfl))
 f197 := Tryz.func100.trans (congrArg some (by kernel_rfl))
 f217 := Tryz.func125.trans (congrArg some (by kernel_rfl))
 f218 := Tryz.func110.trans (congrArg some (by kernel_rfl))
 f219 := Tryz.func111.trans (congrArg some (by kernel_rfl))
 f224 := Tryz.func127.trans (congrArg some (by kernel_rfl))
 f225 := Tryz.func126.trans (congrArg some (by kernel_rfl))
 f240 := Tryz.func106.trans (congrArg some (by kernel_rfl))
 f241 := Tryz.func107.trans (congrArg some (by kernel_rfl))
 f260 := Tryz.func112.trans (congrArg some (by kernel_rfl))
 f266 := Tryz.func137.trans (congrArg some (by kernel_rfl))
 f267 := Tryz.func128.trans (congrArg some (by kernel_rfl))
 f276 := Tryz.func123.trans (congrArg some (by kernel_rfl))
 f277 := Tryz.func124.trans (congrArg some (by kernel_rfl))
 f314 := Tryz.func138.trans (congrArg some (by kernel_rfl))
 t0 := Tryz.underlying0
 a0 := Tryz.isAgg0
 z0 := Tryz.sizeOf0
 v0 := Tryz.zeroValue0
 t3 := Tryz.underlying3
 a3 := Tryz.isAgg3
 z3 := Tryz.sizeOf3
 v3 := Tryz.zeroValue3
 t4 := Tryz.underlying4
 a4 := Tryz.isAgg4
 z4 := Tryz.sizeOf4
 v4 := Tryz.zeroValue4
 t5 := Tryz.underlying5
 a5 := Tryz.isAgg5
 z5 := Tryz.sizeOf5
 v5 := Tryz.zeroValue5
 t9 := Tryz.underlying9
 a9 := Tryz.isAgg9
 z9 := Tryz.sizeOf9
 v9 := Tryz.zeroValue9
 t20 := Tryz.underlying20
 a20 := Tryz.isAgg20
 z20 := Tryz.sizeOf20
 v20 := Tryz.zeroValue20
 t21 := Tryz.underlying21
 a21 := Tryz.isAgg21
 z21 := Tryz.sizeOf21
 v21 := Tryz.zeroValue21
 t37 := Tryz.underlying111
 a37 := Tryz.isAgg111
 z37 := Tryz.sizeOf111
 v37 := Tryz.zeroValue111
 t46 := Tryz.underlying144
 a46 := Tryz.isAgg144
 z46 := Tryz.sizeOf144
 v46 := Tryz.zeroValue144
 t51 := Tryz.underlying156
 a51 := Tryz.isAgg156
 z51 := Tryz.sizeOf156
 v51 := Tryz.zeroValue156
 t70 := Tryz.underlying110
 a70 := Tryz.isAgg110
 z70 := Tryz.sizeOf110
 v70 := Tryz.zeroValue110
 t72 := Tryz.underlying113
 a72 := Tryz.isAgg113
 z72 := Tryz.sizeOf113
 v72 := Tryz.zeroValue113
 t75 := Tryz.underlying106
 a75 := Tryz.isAgg106
 z75 := Tryz.sizeOf106
 v75 := Tryz.zeroValue106
 t76 := Tryz.underlying107
 a76 := Tryz.isAgg107
 z76 := Tryz.sizeOf107
 v76 := Tryz.zeroValue107
 t105 := Tryz.underlying118
 a105 := Tryz.isAgg118
 z105 := Tryz.sizeOf118
 v105 := Tryz.zeroValue118
 t119 := Tryz.underlying145
 a119 := Tryz.isAgg145
 z119 := Tryz.sizeOf145
 t127 := Tryz.underlying124
 a127 := Tryz.isAgg124
 z127 := Tryz.sizeOf124
 v127 := Tryz.zeroValue124
 t138 := Tryz.underlying147
 a138 := Tryz.isAgg147
 z138 := Tryz.sizeOf147
 v138 := Tryz.zeroValue147
 t139 := Tryz.underlying148
 a139 := Tryz.isAgg148
 z139 := Tryz.sizeOf148
 v139 := Tryz.zeroValue148
 t146 := Tryz.underlying159
 a146 := Tryz.isAgg159
 z146 := Tryz.sizeOf159
 v146 := Tryz.zeroValue159
 t164 := Tryz.underlying140
 a164 := Tryz.isAgg140
 z164 := Tryz.sizeOf140
 v164 := Tryz.zeroValue140
 g1 := by kernel_rfl
 g3 := by kernel_rfl
 g4 := by kernel_rfl }
theorem sh_Builder_Extra_155 : Builder.Extra Tryz.prog sh_lays155_ren := {
 sizeBuilder := by kernel_rfl
 liesBuilder := by kernel_rfl
 t5 := Tryz.underlying5
 a5 := Tryz.isAgg5
 z5 := Tryz.sizeOf5
 v5 := Tryz.zeroValue5
 infoByte := by kernel_rfl
 cellsByte := by kernel_rfl
 sizeByte := by kernel_rfl
 neB5 := by decide }
theorem sh_strings_ReplaceAll (s old new : ByteArray) (m : Int) (w : World) (hs : s.size < 4294967281) (hm : w.cell? ⟨0, 0, none⟩ = some (.int .i64 m)) (h1 : 1 ≤ old.size) (hlen : s.size + Lib.countB s old * new.size ≤ 140737488355328) :
  Calls Tryz.prog 60 #[.string s, .string old, .string new] w fun e w' =>
   e = .returned (.string ⟨(Lib.replaceAll s.data.toList old.data.toList new.data.toList).toArray⟩) ∧ Below w.heap.size w w' := Any.strings_ReplaceAll sh_lays155 sh_Builder_Extra_155 s old new m w hs hm h1 hlen
def sh_lays146_ren : Go.Shelf.Ren := ⟨fun | 146 => 63 | 221 => 87 | 268 => 101 | 138 => 98 | 143 => 99 | 195 => 109 | 197 => 100 | 218 => 110 | 219 => 111 | 260 => 112 | 217 => 125 | 225 => 126 | 224 => 127 | 267 => 128 | 266 => 137 | 314 => 138 | n => n, fun | 9 => 9 | 31 => 50 | 3 => 3 | 4 => 4 | 0 => 0 | 105 => 118 | 21 => 21 | 5 => 5 | 46 => 144 | 119 => 145 | 139 => 148 | 138 => 147 | 146 => 159 | 51 => 156 | n => n, fun | 1 => 0 | 3 => 1 | 4 => 2 | n => n⟩
theorem sh_lays146 : Go.Proofs.Lays.n146 Tryz.prog sh_lays146_ren := {
 mixed := by kernel_rfl
 f138 := Tryz.func98.trans (congrArg some (by kernel_rfl))
 f143 := Tryz.func99.trans (congrArg some (by kernel_rfl))
 f146 := Tryz.func63.trans (congrArg some (by kernel_rfl))
 f195 := Tryz.func109.trans (congrArg some (by kernel_rfl))
 f197 := Tryz.func100.trans (congrArg some (by kernel_rfl))
 f217 := Tryz.func125.trans (congrArg some (by kernel_rfl))
 f218 := Tryz.func110.trans (congrArg some (by kernel_rfl))
 f219 := Tryz.func111.trans (congrArg some (by kernel_rfl))
 f221 := Tryz.func87.trans (congrArg some (by kernel_rfl))
 f224 := Tryz.func127.trans (congrArg some (by kernel_rfl))
 f225 := Tryz.func126.trans (congrArg some (by kernel_rfl))
 f260 := Tryz.func112.trans (congrArg some (by kernel_rfl))
 f266 := Tryz.func137.trans (congrArg some (by kernel_rfl))
 f267 := Tryz.func128.trans (congrArg some (by kernel_rfl))
 f268 := Tryz.func101.trans (congrArg some (by kernel_rfl))
 f314 := Tryz.func138.trans (congrArg some (by kernel_rfl))
 t0 := Tryz.underlying0
 a0 := Tryz.isAgg0
 z0 := Tryz.sizeOf0
 v0 := Tryz.zeroValue0
 t3 := Tryz.underlying3
 a3 := Tryz.isAgg3
 z3 := Tryz.sizeOf3
 v3 := Tryz.zeroValue3
 t4 := Tryz.underlying4
 a4 := Tryz.isAgg4
 z4 := Tryz.sizeOf4
 v4 := Tryz.zeroValue4
 t5 := Tryz.underlying5
 a5 := Tryz.isAgg5
 z5 := Tryz.sizeOf5
 v5 := Tryz.zeroValue5
 t9 := Tryz.underlying9
 a9 := Tryz.isAgg9
 z9 := Tryz.sizeOf9
 v9 := Tryz.zeroValue9
 t21 := Tryz.underlying21
 a21 := Tryz.isAgg21
 z21 := Tryz.sizeOf21
 v21 := Tryz.zeroValue21
 t31 := Tryz.underlying50
 a31 := Tryz.isAgg50
 z31 := Tryz.sizeOf50
 v31 := Tryz.zeroValue50
 t46 := Tryz.underlying144
 a46 := Tryz.isAgg144
 z46 := Tryz.sizeOf144
 v46 := Tryz.zeroValue144
 t51 := Tryz.underlying156
 a51 := Tryz.isAgg156
 z51 := Tryz.sizeOf156
 v51 := Tryz.zeroValue156
 t105 := Tryz.underlying118
 a105 := Tryz.isAgg118
 z105 := Tryz.sizeOf118
 v105 := Tryz.zeroValue118
 t119 := Tryz.underlying145
 a119 := Tryz.isAgg145
 z119 := Tryz.sizeOf145
 t138 := Tryz.underlying147
 a138 := Tryz.isAgg147
 z138 := Tryz.sizeOf147
 v138 := Tryz.zeroValue147
 t139 := Tryz.underlying148
 a139 := Tryz.isAgg148
 z139 := Tryz.sizeOf148
 v139 := Tryz.zeroValue148
 t146 := Tryz.underlying159
 a146 := Tryz.isAgg159
 z146 := Tryz.sizeOf159
 v146 := Tryz.zeroValue159
 g1 := by kernel_rfl
 g3 := by kernel_rfl
 g4 := by kernel_rfl }
theorem sh_strings_Split (s sep : ByteArray) (m : Int) (w : World) (hs : s.size < 4294967281) (hm : w.cell? ⟨0, 0, none⟩ = some (.int .i64 m)) (h1 : 1 ≤ sep.size) :
  Calls Tryz.prog 63 #[.string s, .string sep] w fun e w' =>
   e = .returned (.slice (some ⟨w.heap.size, 0, none⟩) (Lib.countB s sep + 1) (Lib.countB s sep + 1)) ∧ w' = w.alloc (.cells ((Lib.splitB sep 0 (Lib.countB s sep) s).map Value.string).toArray 9) := Any.strings_Split sh_lays146 (by kernel_rfl) s sep m w hs hm h1
def sh_lays156_ren : Go.Shelf.Ren := ⟨fun | 156 => 70 | 165 => 93 | 166 => 94 | 169 => 95 | 240 => 106 | 241 => 107 | 276 => 123 | 277 => 124 | n => n, fun | 31 => 50 | 9 => 9 | 3 => 3 | 4 => 4 | 0 => 0 | 20 => 20 | 72 => 113 | 76 => 107 | 70 => 110 | 37 => 111 | 75 => 106 | 127 => 124 | 164 => 140 | 5 => 5 | 80 => 86 | n => n, fun | n => n⟩
theorem sh_lays156 : Go.Proofs.Lays.n156 Tryz.prog sh_lays156_ren := {
 mixed := by kernel_rfl
 f156 := Tryz.func70.trans (congrArg some (by kernel_rfl))
 f165 := Tryz.func93.trans (congrArg some (by kernel_rfl))
 f166 := Tryz.func94.trans (congrArg some (by kernel_rfl))
 f169 := Tryz.func95.trans (congrArg some (by kernel_rfl))
 f240 := Tryz.func106.trans (congrArg some (by kernel_rfl))
 f241 := Tryz.func107.trans (congrArg some (by kernel_rfl))
 f276 := Tryz.func123.trans (congrArg some (by kernel_rfl))
 f277 := Tryz.func124.trans (congrArg some (by kernel_rfl))
 t0 := Tryz.underlying0
 a0 := Tryz.isAgg0
 z0 := Tryz.sizeOf0
 v0 := Tryz.zeroValue0
 t3 := Tryz.underlying3
 a3 := Tryz.isAgg3
 z3 := Tryz.sizeOf3
 v3 := Tryz.zeroValue3
 t4 := Tryz.underlying4
 a4 := Tryz.isAgg4
 z4 := Tryz.sizeOf4
 v4 := Tryz.zeroValue4
 t9 := Tryz.underlying9
 a9 := Tryz.isAgg9
 z9 := Tryz.sizeOf9
 v9 := Tryz.zeroValue9
 t20 := Tryz.underlying20
 a20 := Tryz.isAgg20
 z20 := Tryz.sizeOf20
 v20 := Tryz.zeroValue20
 t31 := Tryz.underlying50
 a31 := Tryz.isAgg50
 z31 := Tryz.sizeOf50
 v31 := Tryz.zeroValue50
 t37 := Tryz.underlying111
 a37 := Tryz.isAgg111
 z37 := Tryz.sizeOf111
 v37 := Tryz.zeroValue111
 t70 := Tryz.underlying110
 a70 := Tryz.isAgg110
 z70 := Tryz.sizeOf110
 v70 := Tryz.zeroValue110
 t72 := Tryz.underlying113
 a72 := Tryz.isAgg113
 z72 := Tryz.sizeOf113
 v72 := Tryz.zeroValue113
 t75 := Tryz.underlying106
 a75 := Tryz.isAgg106
 z75 := Tryz.sizeOf106
 v75 := Tryz.zeroValue106
 t76 := Tryz.underlying107
 a76 := Tryz.isAgg107
 z76 := Tryz.sizeOf107
 v76 := Tryz.zeroValue107
 t127 := Tryz.underlying124
 a127 := Tryz.isAgg124
 z127 := Tryz.sizeOf124
 v127 := Tryz.zeroValue124
 t164 := Tryz.underlying140
 a164 := Tryz.isAgg140
 z164 := Tryz.sizeOf140
 v164 := Tryz.zeroValue140 }
theorem sh_Builder_Extra_156 : Builder.Extra Tryz.prog sh_lays156_ren := {
 sizeBuilder := by kernel_rfl
 liesBuilder := by kernel_rfl
 t5 := Tryz.underlying5
 a5 := Tryz.isAgg5
 z5 := Tryz.sizeOf5
 v5 := Tryz.zeroValue5
 infoByte := by kernel_rfl
 cellsByte := by kernel_rfl
 sizeByte := by kernel_rfl
 neB5 := by decide }
theorem sh_strings_Join (bk o c : Nat) (xs : List ByteArray) (sep : ByteArray) (w : World) (hcells : ∀ (j : Nat) x, xs[j]? = some x → w.cell? ⟨bk, o + j, none⟩ = some (.string x)) (hbk : bk < w.heap.size) (hN : xs.length ≤ 140737488355328) (hcap : xs.length ≤ c) (hlen : (Lib.join (xs.map (·.data.toList)) sep.data.toList).length ≤ 140737488355328) :
  Calls Tryz.prog 70 #[.slice (some ⟨bk, o, none⟩) xs.length c, .string sep] w fun e w' => e = .returned (.string ⟨(Lib.join (xs.map (·.data.toList)) sep.data.toList).toArray⟩) ∧ Below w.heap.size w w' := Any.strings_Join sh_lays156 sh_Builder_Extra_156 bk o c xs sep w hcells hbk hN hcap hlen
theorem sh_strings_Join_none (a : Option Addr) (c : Nat) (sep : ByteArray) (w : World) :
  Calls Tryz.prog 70 #[.slice a 0 c, .string sep] w fun e w' => e = .returned (.string ⟨#[]⟩) ∧ w' = w := Any.strings_Join_none sh_lays156 sh_Builder_Extra_156 a c sep w
def sh_laysM171_ren : Go.Shelf.Ren := ⟨fun | 171 => 69 | 243 => 92 | 246 => 105 | 283 => 119 | 284 => 120 | 285 => 121 | 286 => 122 | 129 => 133 | 317 => 132 | 318 => 134 | 319 => 135 | 320 => 136 | 337 => 141 | 338 => 142 | n => n, fun | 3 => 3 | 9 => 9 | 2 => 2 | 4 => 4 | 171 => 134 | 0 => 0 | 53 => 135 | 37 => 111 | 5 => 5 | 173 => 138 | 212 => 155 | 51 => 156 | 20 => 20 | 213 => 157 | 46 => 144 | 232 => 166 | 233 => 167 | n => n, fun | 17 => 5 | 18 => 6 | 19 => 7 | n => n⟩
theorem sh_laysM171 : Go.Proofs.LaysM.n171 Tryz.prog sh_laysM171_ren := {
 mixed := by kernel_rfl
 f129 := Tryz.func133.trans (congrArg some (by kernel_rfl))
 f171 := Tryz.func69.trans (congrArg some (by kernel_rfl))
 f243 := Tryz.func92.trans (congrArg some (by kernel_rfl))
 f246 := Tryz.func105.trans (congrArg some (by kernel_rfl))
 f283 := Tryz.func119.trans (congrArg some (by kernel_rfl))
 f284 := Tryz.func120.trans (congrArg some (by kernel_rfl))
 f285 := Tryz.func121.trans (congrArg some (by kernel_rfl))
 f286 := Tryz.func122.trans (congrArg some (by kernel_rfl))
 f317 := Tryz.func132.trans (congrArg some (by kernel_rfl))
 f318 := Tryz.func134.trans (congrArg some (by kernel_rfl))
 f319 := Tryz.func135.trans (congrArg some (by kernel_rfl))
 f320 := Tryz.func136.trans (congrArg some (by kernel_rfl))
 f337 := Tryz.func141.trans (congrArg some (by kernel_rfl))
 f338 := Tryz.func142.trans (congrArg some (by kernel_rfl))
 t0 := Tryz.underlying0
 a0 := Tryz.isAgg0
 z0 := Tryz.sizeOf0
 v0 := Tryz.zeroValue0
 t2 := Tryz.underlying2
 a2 := Tryz.isAgg2
 z2 := Tryz.sizeOf2
 v2 := Tryz.zeroValue2
 t3 := Tryz.underlying3
 a3 := Tryz.isAgg3
 z3 := Tryz.sizeOf3
 v3 := Tryz.zeroValue3
 t4 := Tryz.underlying4
 a4 := Tryz.isAgg4
 z4 := Tryz.sizeOf4
 v4 := Tryz.zeroValue4
 t5 := Tryz.underlying5
 a5 := Tryz.isAgg5
 z5 := Tryz.sizeOf5
 v5 := Tryz.zeroValue5
 t9 := Tryz.underlying9
 a9 := Tryz.isAgg9
 z9 := Tryz.sizeOf9
 v9 := Tryz.zeroValue9
 t20 := Tryz.underlying20
 a20 := Tryz.isAgg20
 z20 := Tryz.sizeOf20
 v20 := Tryz.zeroValue20
 t37 := Tryz.underlying111
 a37 := Tryz.isAgg111
 z37 := Tryz.sizeOf111
 v37 := Tryz.zeroValue111
 t46 := Tryz.underlying144
 a46 := Tryz.isAgg144
 z46 := Tryz.sizeOf144
 v46 := Tryz.zeroValue144
 t51 := Tryz.underlying156
 a51 := Tryz.isAgg156
 z51 := Tryz.sizeOf156
 v51 := Tryz.zeroValue156
 t53 := Tryz.underlying135
 a53 := Tryz.isAgg135
 z53 := Tryz.sizeOf135
 v53 := Tryz.zeroValue135
 t171 := Tryz.underlying134
 a171 := Tryz.isAgg134
 z171 := Tryz.sizeOf134
 v171 := Tryz.zeroValue134
 t173 := Tryz.underlying138
 a173 := Tryz.isAgg138
 z173 := Tryz.sizeOf138
 v173 := Tryz.zeroValue138
 t212 := Tryz.underlying155
 a212 := Tryz.isAgg155
 z212 := Tryz.sizeOf155
 v212 := Tryz.zeroValue155
 t213 := Tryz.underlying157
 a213 := Tryz.isAgg157
 z213 := Tryz.sizeOf157
 t232 := Tryz.underlying166
 a232 := Tryz.isAgg166
 z232 := Tryz.sizeOf166
 v232 := Tryz.zeroValue166
 t233 := Tryz.underlying167
 a233 := Tryz.isAgg167
 z233 := Tryz.sizeOf167
 v233 := Tryz.zeroValue167
 g17 := by kernel_rfl
 g18 := by kernel_rfl
 g19 := by kernel_rfl
 i0 := by kernel_rfl
 i2 := by kernel_rfl
 i3 := by kernel_rfl
 i4 := by kernel_rfl
 i5 := by kernel_rfl
 i9 := by kernel_rfl
 i20 := by kernel_rfl
 i37 := by kernel_rfl
 i46 := by kernel_rfl
 i51 := by kernel_rfl
 i53 := by kernel_rfl
 i171 := by kernel_rfl
 i173 := by kernel_rfl
 i212 := by kernel_rfl
 i232 := by kernel_rfl
 i233 := by kernel_rfl
 m17 := by kernel_rfl
 m18 := by kernel_rfl
 m19 := by kernel_rfl }
theorem sh_strconv_Itoa (n : Int) (h0 : -9223372036854775808 ≤ n) (h1 : n ≤ 9223372036854775807) (w : World) (htab : Lib.TabIs Tryz.prog w "internal/strconv.uint64pow10" .u64 Lib.pow10Tab) :
  Calls Tryz.prog 69 #[.int .i64 n] w fun e w' => e = .returned (.string ⟨(Lib.itoa n).toArray⟩) ∧ ∃ k os, w' = grow (w.drewN k) os := Any.strconv_Itoa sh_laysM171 n h0 h1 w htab
def sh_lays172_ren : Go.Shelf.Ren := ⟨fun | 172 => 90 | 244 => 103 | 245 => 104 | 247 => 114 | 279 => 115 | 280 => 116 | 281 => 117 | 282 => 118 | 287 => 129 | 316 => 130 | 171 => 69 | 205 => 131 | 321 => 139 | 322 => 140 | 243 => 92 | 246 => 105 | 283 => 119 | 284 => 120 | 285 => 121 | 286 => 122 | 129 => 133 | 317 => 132 | 318 => 134 | 319 => 135 | 320 => 136 | 337 => 141 | 338 => 142 | n => n, fun | 9 => 9 | 3 => 3 | 75 => 106 | 76 => 107 | 4 => 4 | 5 => 5 | 167 => 128 | 37 => 111 | 0 => 0 | 85 => 129 | 2 => 2 | 168 => 131 | 53 => 135 | 175 => 149 | 46 => 144 | 210 => 152 | 127 => 124 | 145 => 164 | 143 => 162 | 21 => 21 | 171 => 134 | 173 => 138 | 212 => 155 | 51 => 156 | 20 => 20 | 213 => 157 | 232 => 166 | 233 => 167 | 80 => 86 | n => n, fun | 15 => 3 | 16 => 4 | 17 => 5 | 18 => 6 | 19 => 7 | n => n⟩
theorem sh_lays172 : Go.Proofs.Lays.n172 Tryz.prog sh_lays172_ren := {
 mixed := by kernel_rfl
 f129 := Tryz.func133.trans (congrArg some (by kernel_rfl))
 f171 := Tryz.func69.trans (congrArg some (by kernel_rfl))
 f172 := Tryz.func90.trans (congrArg some (by kernel_rfl))
 f205 := Tryz.func131.trans (congrArg some (by kernel_rfl))
 f243 := Tryz.func92.trans (congrArg some (by kernel_rfl))
 f244 := Tryz.func103.trans (congrArg some (by kernel_rfl))
 f245 := Tryz.func104.trans (congrArg some (by kernel_rfl))
 f246 := Tryz.func105.trans (congrArg some (by kernel_rfl))
 f247 := Tryz.func114.trans (congrArg some (by kernel_rfl))
 f279 := Tryz.func115.trans (congrArg some (by kernel_rfl))
 f280 := Tryz.func116.trans (congrArg some (by kernel_rfl))
 f281 := Tryz.func117.trans (congrArg some (by kernel_rfl))
 f282 := Tryz.func118.trans (congrArg some (by kernel_rfl))
 f283 := Tryz.func119.trans (congrArg some (by kernel_rfl))
 f284 := Tryz.func120.trans (congrArg some (by kernel_rfl))
 f285 := Tryz.func121.trans (congrArg some (by kernel_rfl))
 f286 := Tryz.func122.trans (congrArg some (by kernel_rfl))
 f287 := Tryz.func129.trans (congrArg some (by kernel_rfl))
 f316 := Tryz.func130.trans (congrArg some (by kernel_rfl))
 f317 := Tryz.func132.trans (congrArg some (by kernel_rfl))
 f318 := Tryz.func134.trans (congrArg some (by kernel_rfl))
 f319 := Tryz.func135.trans (congrArg some (by kernel_rfl))
 f320 := Tryz.func136.trans (congrArg some (by kernel_rfl))
 f321 := Tryz.func139.trans (congrArg some (by kernel_rfl))
 f322 := Tryz.func140.trans (congrArg some (by kernel_rfl))
 f337 := Tryz.func141.trans (congrArg some (by kernel_rfl))
 f338 := Tryz.func142.trans (congrArg some (by kernel_rfl))
 t0 := Tryz.underlying0
 a0 := Tryz.isAgg0
 z0 := Tryz.sizeOf0
 v0 := Tryz.zeroValue0
 t2 := Tryz.underlying2
 a2 := Tryz.isAgg2
 z2 := Tryz.sizeOf2
 v2 := Tryz.zeroValue2
 t3 := Tryz.underlying3
 a3 := Tryz.isAgg3
 z3 := Tryz.sizeOf3
 v3 := Tryz.zeroValue3
 t4 := Tryz.underlying4
 a4 := Tryz.isAgg4
 z4 := Tryz.sizeOf4
 v4 := Tryz.zeroValue4
 t5 := Tryz.underlying5
 a5 := Tryz.isAgg5
 z5 := Tryz.sizeOf5
 v5 := Tryz.zeroValue5
 t9 := Tryz.underlying9
 a9 := Tryz.isAgg9
 z9 := Tryz.sizeOf9
 v9 := Tryz.zeroValue9
 t20 := Tryz.underlying20
 a20 := Tryz.isAgg20
 z20 := Tryz.sizeOf20
 v20 := Tryz.zeroValue20
 t21 := Tryz.underlying21
 a21 := Tryz.isAgg21
 z21 := Tryz.sizeOf21
 v21 := Tryz.zeroValue21
 t37 := Tryz.underlying111
 a37 := Tryz.isAgg111
 z37 := Tryz.sizeOf111
 v37 := Tryz.zeroValue111
 t46 := Tryz.underlying144
 a46 := Tryz.isAgg144
 z46 := Tryz.sizeOf144
 v46 := Tryz.zeroValue144
 t51 := Tryz.underlying156
 a51 := Tryz.isAgg156
 z51 := Tryz.sizeOf156
 v51 := Tryz.zeroValue156
 t53 := Tryz.underlying135
 a53 := Tryz.isAgg135
 z53 := Tryz.sizeOf135
 v53 := Tryz.zeroValue135
 t75 := Tryz.underlying106
 a75 := Tryz.isAgg106
 z75 := Tryz.sizeOf106
 v75 := Tryz.zeroValue106
 t76 := Tryz.underlying107
 a76 := Tryz.isAgg107
 z76 := Tryz.sizeOf107
 v76 := Tryz.zeroValue107
 t85 := Tryz.underlying129
 a85 := Tryz.isAgg129
 z85 := Tryz.sizeOf129
 v85 := Tryz.zeroValue129
 t127 := Tryz.underlying124
 a127 := Tryz.isAgg124
 z127 := Tryz.sizeOf124
 v127 := Tryz.zeroValue124
 t143 := Tryz.underlying162
 a143 := Tryz.isAgg162
 z143 := Tryz.sizeOf162
 v143 := Tryz.zeroValue162
 t145 := Tryz.underlying164
 a145 := Tryz.isAgg164
 z145 := Tryz.sizeOf164
 v145 := Tryz.zeroValue164
 t167 := Tryz.underlying128
 a167 := Tryz.isAgg128
 z167 := Tryz.sizeOf128
 v167 := Tryz.zeroValue128
 t168 := Tryz.underlying131
 a168 := Tryz.isAgg131
 z168 := Tryz.sizeOf131
 v168 := Tryz.zeroValue131
 t171 := Tryz.underlying134
 a171 := Tryz.isAgg134
 z171 := Tryz.sizeOf134
 v171 := Tryz.zeroValue134
 t173 := Tryz.underlying138
 a173 := Tryz.isAgg138
 z173 := Tryz.sizeOf138
 v173 := Tryz.zeroValue138
 t175 := Tryz.underlying149
 a175 := Tryz.isAgg149
 z175 := Tryz.sizeOf149
 v175 := Tryz.zeroValue149
 t210 := Tryz.underlying152
 a210 := Tryz.isAgg152
 z210 := Tryz.sizeOf152
 v210 := Tryz.zeroValue152
 t212 := Tryz.underlying155
 a212 := Tryz.isAgg155
 z212 := Tryz.sizeOf155
 v212 := Tryz.zeroValue155
 t213 := Tryz.underlying157
 a213 := Tryz.isAgg157
 z213 := Tryz.sizeOf157
 t232 := Tryz.underlying166
 a232 := Tryz.isAgg166
 z232 := Tryz.sizeOf166
 v232 := Tryz.zeroValue166
 t233 := Tryz.underlying167
 a233 := Tryz.isAgg167
 z233 := Tryz.sizeOf167
 v233 := Tryz.zeroValue167
 g15 := by kernel_rfl
 g16 := by kernel_rfl
 g17 := by kernel_rfl
 g18 := by kernel_rfl
 g19 := by kernel_rfl }
theorem sh_strconv_Atoi (s : ByteArray) (n : Int) (hl : s.size ≤ 18) (h : Lib.atoi s.data.toList = some n) (w : World) :
  Calls Tryz.prog 90 #[.string s] w fun e w' => e = .returned (.tuple #[.int .i64 n, .nilIface]) ∧ ∃ t, w' = Lib.bytesWorld w 5 t := Any.strconv_Atoi sh_lays172 s n hl h w
end Go.Proofs.YtfjnohmdilmfhaaGreatDoor
/- The library's contracts, in the words of our own layer. -/
namespace Go.Proofs.YtfjnohmdilmfhaaGreatDoor
open Go Go.RowKit Go.Lib
set_option linter.unusedSimpArgs false
set_option linter.unusedVariables false
/-! ### Texts, byte by byte -/
def rep (c : UInt8) (new s : List UInt8) : List UInt8 := s.flatMap fun b => if b = c then new else [b]
theorem index_first {c : UInt8} {t : List UInt8} : ∀ {a : List UInt8}, c ∉ a → index (a ++ c :: t) [c] = a.length
 | [], _ => by simp [index, List.isPrefixOf]
 | b :: a, h => by
  have hb : ¬ c = b := fun e => h (by simp [e])
  have ih := index_first (t := t) (a := a) fun e => h (List.mem_cons_of_mem _ e)
  simp only [List.cons_append]
  rw [index, ih]
  simp [List.isPrefixOf, hb]
theorem split_first {c : UInt8} {s : List UInt8} (h : c ∈ s) : ∃ a t, c ∉ a ∧ s = a ++ c :: t := by
 induction s with
 | nil => cases h
 | cons b s ih =>
  by_cases hb : b = c
  ·exact ⟨[], s, by simp, by rw [hb]; rfl⟩
  ·obtain ⟨a, t, h1, h2⟩ := ih (by simpa [Ne.symm hb] using h)
   exact ⟨b :: a, t, by simp [Ne.symm hb, h1], by rw [h2]; rfl⟩
theorem rep_no {c : UInt8} {new : List UInt8} : ∀ {s : List UInt8}, c ∉ s → rep c new s = s
 | [], _ => rfl
 | b :: s, h => by
  have hb : ¬ b = c := fun e => h (by simp [e])
  have ih := rep_no (new := new) (s := s) fun e => h (List.mem_cons_of_mem _ e)
  unfold rep at ih ⊢
  simp [hb, ih]
theorem rep_app (c : UInt8) (new a b : List UInt8) : rep c new (a ++ b) = rep c new a ++ rep c new b := by unfold rep; rw [List.flatMap_append]
theorem count_app {c : UInt8} {a t : List UInt8} (h : c ∉ a) : (a ++ c :: t).count c = t.count c + 1 := by
 rw [List.count_append, List.count_eq_zero.2 h, List.count_cons_self]; omega
theorem replaceK_rep (c : UInt8) (new : List UInt8) : ∀ (n : Nat) (s : List UInt8), s.count c = n → replaceK [c] new n s = rep c new s
 | 0, s, h => by rw [rep_no (List.count_eq_zero.1 h)]; rfl
 | n + 1, s, h => by
  obtain ⟨a, t, h1, rfl⟩ := split_first (c := c) (s := s) (List.count_pos_iff.1 (by omega))
  rw [replaceK_hit _ _ _ _ a.length (index_first h1)]
  rw [count_app h1] at h
  rw [List.take_left' rfl, List.length_singleton, show (a ++ c :: t).drop (a.length + 1) = t by simp, replaceK_rep c new n t (by omega), rep_app, rep_no h1]
  simp [rep]
theorem replaceAll_rep (c : UInt8) (new s : List UInt8) : replaceAll s [c] new = rep c new s := by
 unfold replaceAll replace
 by_cases hn : [c] = new
 ·subst hn
  simp only [beq_self_eq_true, if_true]
  unfold rep
  induction s with
  | nil => rfl
  | cons b s ih =>
   by_cases hb : b = c
   ·subst hb; simp only [List.flatMap_cons, if_true, ← ih]; rfl
   ·simp only [List.flatMap_cons, if_neg hb, ← ih]; rfl
 ·rw [if_neg (by simpa using hn)]
  refine replaceK_rep c new _ s ?_
  unfold replaceNum
  rw [if_pos (.inl (by omega)), count_one]
theorem rep_len (c : UInt8) (new s : List UInt8) (h : 1 ≤ new.length) : (rep c new s).length ≤ s.length * new.length := by
 unfold rep
 induction s with
 | nil => simp
 | cons b s ih =>
  have h2 : (if b = c then new else [b]).length ≤ new.length := by split <;> simp <;> omega
  rw [List.flatMap_cons, List.length_append, List.length_cons, Nat.add_mul]
  omega
/-- What is between bytes. -/
def spl (c : UInt8) : List UInt8 → List UInt8 → List (List UInt8)
 | [], w => [w]
 | b :: s, w => if b = c then w :: spl c s [] else spl c s (w ++ [b])
theorem spl_app {c : UInt8} {t : List UInt8} : ∀ {a w : List UInt8}, c ∉ a → spl c (a ++ c :: t) w = (w ++ a) :: spl c t []
 | [], w, _ => by simp [spl]
 | b :: a, w, h => by
  have hb : ¬ b = c := fun e => h (by simp [e])
  simp only [List.cons_append, spl, if_neg hb]
  rw [spl_app (a := a) fun e => h (List.mem_cons_of_mem _ e)]
  simp
theorem spl_no {c : UInt8} : ∀ {a w : List UInt8}, c ∉ a → spl c a w = [w ++ a]
 | [], w, _ => by simp [spl]
 | b :: a, w, h => by
  have hb : ¬ b = c := fun e => h (by simp [e])
  simp only [spl, if_neg hb]
  rw [spl_no (a := a) fun e => h (List.mem_cons_of_mem _ e)]
  simp
theorem splitK_spl (c : UInt8) : ∀ (n : Nat) (s : List UInt8), s.count c = n → splitK [c] 0 n s = spl c s []
 | 0, s, h => by rw [spl_no (List.count_eq_zero.1 h)]; rfl
 | n + 1, s, h => by
  obtain ⟨a, t, h1, rfl⟩ := split_first (c := c) (s := s) (List.count_pos_iff.1 (by omega))
  have hi := index_first (t := t) h1
  rw [count_app h1] at h
  rw [splitK, if_neg (by rw [hi]; simp), hi, spl_app h1, splitK_spl c n _ (by simp; omega)]
  simp
theorem spl_len (c : UInt8) : ∀ (s w : List UInt8), (spl c s w).length = s.count c + 1
 | [], w => rfl
 | b :: s, w => by
  by_cases h : b = c
  ·subst h; simp [spl, spl_len, List.count_cons_self]
  ·simp [spl, h, spl_len]
def srow (w : List UInt8) : List D := [.str w]
def strV (w : List UInt8) : Value := .string ⟨w.toArray⟩
theorem splitB_V (s : List UInt8) (c : UInt8) : (splitB ⟨#[c]⟩ 0 (countB ⟨s.toArray⟩ ⟨#[c]⟩) ⟨s.toArray⟩).map Value.string = (spl c s []).map strV := by
 have h1 : countB ⟨s.toArray⟩ ⟨#[c]⟩ = s.count c := count_one c s
 have h2 := splitB_data ⟨#[c]⟩ 0 (countB ⟨s.toArray⟩ ⟨#[c]⟩) ⟨s.toArray⟩
 rw [h1] at h2 ⊢
 have h3 : splitK (ByteArray.mk #[c]).data.toList 0 (s.count c) (ByteArray.mk s.toArray).data.toList = spl c s [] := splitK_spl c _ s rfl
 rw [h3] at h2
 rw [← h2, List.map_map]
 refine List.map_congr_left fun x _ => ?_
 rfl
/-! ### The world behind a call of the library -/
section
variable {M : Mem} {w w' : World} {σ : Store}
theorem Conc.below (hc : Conc M w []) (hb : Below w.heap.size w w') : Conc M w' [] ∧ Step M w [] M w' [] := by
 refine ⟨⟨fun b o x hx => ?_, by simp [Store.keys], fun _ _ h => (by cases h), hc.glob.of (fun b hlt _ => hb.block b hlt) (fun _ h => .inl h)⟩, ⟨Mem.le.refl _, hb.os, hb.tape, hb.output, hb.size, fun b hlt _ => hb.block b hlt, fun _ h => .inl h, fun _ _ _ h => .inl h⟩⟩
 have h1 := hc.mem b o x hx
 have h2 := hc.memLt hx
 simp only [World.cell?, hb.block b h2]
 exact h1
/-- A contract of the kit's becomes one of ours. -/
theorem PCall.below {P : Program} {g : Nat} {args : List D} {d : D} (hcf : ∀ (w : World) (vs : Array Value), (callFunc g vs).run P w = .ok (.enter g vs) w)
  (h : ∀ M w vs, Conc M w [] → RAll M args vs → ∃ v, R M d v ∧ Calls P g (List.toArray vs) w fun e w' => e = .returned v ∧ Below w.heap.size w w') : PCall P (.func g) args d := by
 intro M w vs hc hr
 obtain ⟨v, hv, hk⟩ := h M w vs hc hr
 refine .inl ⟨hcf _ _, callsIn_wide.2 (hk.mono ?_)⟩
 rintro e w' ⟨rfl, hb⟩
 obtain ⟨c1, s1⟩ := hc.below hb
 exact ⟨M, [], .ret d, s1, c1, hv, rfl, rfl⟩
theorem glob_max (hc : Conc M w σ) : ∃ m, w.cell? ⟨0, 0, none⟩ = some (.int .i64 m) := by
 obtain ⟨_, cs, T, fz, h1, m, h2⟩ := hc.glob (0, _) (List.mem_cons_self ..)
 exact ⟨m, by simp only [World.cell?, h1]; exact h2⟩
theorem glob_tab (hc : Conc M w σ) : TabIs Tryz.prog w "internal/strconv.uint64pow10" .u64 pow10Tab := by
 obtain ⟨_, cs, T, fz, h1, h2⟩ := hc.glob (5, _) (List.mem_cons_of_mem _ (List.mem_cons_self ..))
 have hg : Tryz.prog.globalNamed "internal/strconv.uint64pow10" = some 5 := by kernel_rfl
 unfold TabIs World.var?
 rw [hg]
 have h2' : cs = ((List.range 20).map fun i => Value.int .u64 ((10 ^ i : Nat) : Int)).toArray := h2
 have h1' : w.heap[5]? = some (.cells cs T fz) := h1
 simp only [Option.bind_some, h1', h2']
 unfold pow10Tab
 rw [List.map_map]
 rfl
end
theorem R1_str {M : Mem} {s : List UInt8} {vs : List Value} (h : RAll M [.str s] vs) : vs = [strV s] := by
 match vs, h with
 | [v], h => simp only [RAll, R] at h; rw [h.1.1]; rfl
 | [], h => simp [RAll] at h
 | _ :: _ :: _, h => simp [RAll] at h
theorem R2_str {M : Mem} {s t : List UInt8} {vs : List Value} (h : RAll M [.str s, .str t] vs) : vs = [strV s, strV t] := by
 match vs, h with
 | [v, u], h => simp only [RAll, R] at h; rw [h.1.1, h.2.1.1]; rfl
 | [], h => simp [RAll] at h
 | [_], h => simp [RAll] at h
 | _ :: _ :: _ :: _, h => simp [RAll] at h
theorem R3_str {M : Mem} {s t u : List UInt8} {vs : List Value} (h : RAll M [.str s, .str t, .str u] vs) : vs = [strV s, strV t, strV u] := by
 match vs, h with
 | [v1, v2, v3], h => simp only [RAll, R] at h; rw [h.1.1, h.2.1.1, h.2.2.1.1]; rfl
 | [], h => simp [RAll] at h
 | [_], h => simp [RAll] at h
 | [_, _], h => simp [RAll] at h
 | _ :: _ :: _ :: _ :: _, h => simp [RAll] at h
theorem repl_w (s : List UInt8) (c : UInt8) (new : List UInt8) (hs : s.length ≤ 1000000) (hn : 1 ≤ new.length ∧ new.length ≤ 10) : PCall Tryz.prog (.func 60) [.str s, .str [c], .str new] (.str (rep c new s)) := by
 refine PCall.below (fun w vs => callFunc_enter Tryz.func60 (by rfl) (by rfl) vs) fun M w vs hc hr => ?_
 rw [R3_str hr]
 obtain ⟨m, hm⟩ := glob_max hc
 have hcb : countB ⟨s.toArray⟩ ⟨#[c]⟩ = s.count c := count_one c s
 have hcl : s.count c ≤ s.length := List.count_le_length ..
 have hmu : s.count c * new.length ≤ 1000000 * 10 := Nat.mul_le_mul (by omega) hn.2
 have hz : (ByteArray.mk s.toArray).size = s.length := by simp [ByteArray.size]
 have hz2 : (ByteArray.mk new.toArray).size = new.length := by simp [ByteArray.size]
 have hrl := rep_len c new s hn.1
 have hmu2 : s.length * new.length ≤ 1000000 * 10 := Nat.mul_le_mul hs hn.2
 refine ⟨strV (rep c new s), by simp only [R]; exact ⟨rfl, by unfold lim; omega⟩, ?_⟩
 refine (sh_strings_ReplaceAll ⟨s.toArray⟩ ⟨#[c]⟩ ⟨new.toArray⟩ m w (by rw [hz]; omega) hm (by simp [ByteArray.size]) (by rw [hcb, hz, hz2]; omega)).mono ?_
 rintro e w' ⟨rfl, hb⟩
 exact ⟨by rw [← replaceAll_rep]; rfl, hb⟩
theorem RAll_strV (M : Mem) : ∀ {l : List (List UInt8)}, (∀ x ∈ l, x.length ≤ lim) → RAll M (l.map srow).flatten (l.map strV)
 | [], _ => by simp [RAll]
 | x :: l, h => by
  simp only [List.map_cons, List.flatten_cons, srow, List.cons_append, List.nil_append, RAll, R]
  exact ⟨⟨rfl, h x (by simp)⟩, RAll_strV M fun y hy => h y (List.mem_cons_of_mem _ hy)⟩
theorem spl_mem (c : UInt8) : ∀ (s w : List UInt8), ∀ x ∈ spl c s w, x.length ≤ w.length + s.length
 | [], w, x, h => by simp [spl] at h; rw [h]; simp
 | b :: s, w, x, h => by
  unfold spl at h
  split at h
  ·rcases List.mem_cons.1 h with rfl | h
   ·simp
   ·have := spl_mem c s [] x h; simp at this ⊢; omega
  ·have := spl_mem c s (w ++ [b]) x h; simp at this ⊢; omega
theorem splt_w (s : List UInt8) (c : UInt8) (hs : s.length ≤ 10000000) : RCall Tryz.prog (.func 63) [.str s, .str [c]] [] (fun b : Nat => .arr b 1 (spl c s []).length (spl c s []).length) (fun b => [(b, .arr 1 ((spl c s []).map srow) (spl c s []).length)]) (fun _ => True) := by
 intro M w vs hc hr
 rw [R2_str hr]
 obtain ⟨m, hm⟩ := glob_max hc
 have hcb : countB ⟨s.toArray⟩ ⟨#[c]⟩ = s.count c := count_one c s
 have hz : (ByteArray.mk s.toArray).size = s.length := by simp [ByteArray.size]
 refine .inl ⟨callFunc_enter Tryz.func63 (by rfl) (by rfl) _, callsIn_wide.2 ((sh_strings_Split ⟨s.toArray⟩ ⟨#[c]⟩ m w (by rw [hz]; omega) hm (by simp [ByteArray.size])).mono ?_)⟩
 rintro e w' ⟨rfl, rfl⟩
 rw [splitB_V, hcb, ← spl_len c s []]
 have hl : ((spl c s []).map strV).length = (spl c s []).length := List.length_map ..
 have hml : ∀ x ∈ spl c s [], x.length ≤ lim := fun x hx => by have := spl_mem c s [] x hx; simp at this; unfold lim; omega
 obtain ⟨c1, s1, _⟩ := hc.newBox (o := .cells ((spl c s []).map strV).toArray 9 (0, 0)) (x := .arr 1 ((spl c s []).map srow) (spl c s []).length)
  ⟨⟨_, 9, alloc_heap_new _ _, by rw [hl, Nat.mul_one], by rw [List.length_map]; exact Nat.le_refl _, by
    rw [List.length_map, Nat.mul_one, List.take_of_length_le (by rw [hl]; exact Nat.le_refl _)]
    exact RAll_strV M hml, fun r hr => by
    obtain ⟨x, _, rfl⟩ := List.mem_map.1 hr
    exact ⟨rfl, rfl⟩⟩, hc.mem_none⟩
 exact ⟨M, _, .ret _, s1, c1, by simp only [ResR, R], w.heap.size, trivial, rfl, rfl⟩
theorem join_w (xs : List (List UInt8)) (sep : List UInt8) (t : Tok) (hN : xs.length ≤ 1000000) (hl : (join xs sep).length ≤ 140737488355328) : PCall Tryz.prog (.func 70) [.sl 1 (xs.map srow) t, .str sep] (.str (join xs sep)) := by
 refine PCall.below (fun w vs => callFunc_enter Tryz.func70 (by rfl) (by rfl) vs) fun M w vs hc hr => ?_
 obtain ⟨v1, v2, rfl, e1, e2⟩ : ∃ v1 v2, vs = [v1, v2] ∧ R M (.sl 1 (xs.map srow) t) v1 ∧ R M (.str sep) v2 := by
  match vs, hr with
  | [v1, v2], hr => simp only [RAll] at hr; exact ⟨v1, v2, rfl, hr.1, hr.2.1⟩
  | [], hr => simp [RAll] at hr
  | [_], hr => simp [RAll] at hr
  | _ :: _ :: _ :: _, hr => simp [RAll] at hr
 simp only [R] at e1 e2
 obtain ⟨rfl, _⟩ := e2
 obtain ⟨p, cap, rfl, hcap, hlim, hrows, _⟩ := e1
 refine ⟨strV (join xs sep), by simp only [R]; exact ⟨rfl, by unfold lim; omega⟩, ?_⟩
 rw [List.length_map] at hcap ⊢
 cases xs with
 | nil =>
  refine (sh_strings_Join_none p cap ⟨sep.toArray⟩ w).mono ?_
  rintro e w' ⟨rfl, rfl⟩
  exact ⟨rfl, Below.refl _ _⟩
 | cons x0 xs =>
  obtain ⟨b, o, rfl, hrw⟩ := hrows (by simp)
  have hget : ∀ (j : Nat) y, (x0 :: xs)[j]? = some y → M b (o + j) = some (strV y) := fun j y hy => by
   have h1 := hrw.get (i := j) (r := srow y) (by rw [List.getElem?_map, hy]; rfl)
   rw [Nat.mul_one] at h1
   have h2 := h1.2
   simp only [srow, RCells, R] at h2
   obtain ⟨⟨v, hv, rfl, _⟩, _⟩ := h2
   exact hv
  have hmap : ((x0 :: xs).map fun y => (ByteArray.mk y.toArray)).map (·.data.toList) = x0 :: xs := by
   rw [List.map_map]
   exact List.map_id' _
  have hk := sh_strings_Join b o cap ((x0 :: xs).map fun y => (ByteArray.mk y.toArray)) ⟨sep.toArray⟩ w (fun j y hy => by
    rw [List.getElem?_map] at hy
    cases hz : (x0 :: xs)[j]? with
    | none => rw [hz] at hy; cases hy
    | some z =>
      rw [hz] at hy
      cases hy
      exact hc.mem _ _ _ (hget j z hz)) (hc.memLt (hget 0 x0 rfl)) (by rw [List.length_map]; omega) (by rw [List.length_map]; exact hcap) (by rw [hmap]; exact hl)
  rw [hmap, List.length_map] at hk
  exact hk
theorem decD_len : ∀ (k u : Nat), u < 10 ^ (k + 1) → (decDigits u).length ≤ k + 1
 | 0, u, h => by rw [decDigits, dif_pos (by omega)]; simp
 | k + 1, u, h => by
  rw [decDigits]
  split
  ·simp
  ·have := decD_len k (u / 10) (by rw [Nat.pow_succ] at h; omega)
   rw [List.length_append]
   simp
   omega
theorem itoa_len {n : Int} (h0 : -9223372036854775808 ≤ n) (h1 : n ≤ 9223372036854775807) : (itoa n).length ≤ 21 := by
 unfold itoa
 split
 ·have := decD_len 19 n.natAbs (by omega)
  rw [List.length_cons]; omega
 ·have := decD_len 19 n.toNat (by omega)
  omega
theorem itoa_w (n : Int) : PCall Tryz.prog (.func 69) [.int .i64 n] (.str (itoa n)) := by
 refine PCall.ok fun hok => ?_
 simp only [okAll, D.ok, and_true, inR_i64'] at hok
 refine PCall.below (fun w vs => callFunc_enter Tryz.func69 (by rfl) (by rfl) vs) fun M w vs hc hr => ?_
 obtain rfl : vs = [.int .i64 n] := by
  match vs, hr with
  | [v], h => simp only [RAll, R] at h; rw [h.1.1]
  | [], h => simp [RAll] at h
  | _ :: _ :: _, h => simp [RAll] at h
 refine ⟨strV (itoa n), by simp only [R]; exact ⟨rfl, by have := itoa_len hok.1 hok.2; unfold lim; omega⟩, ?_⟩
 refine (sh_strconv_Itoa n hok.1 hok.2 w (glob_tab hc)).mono ?_
 rintro e w' ⟨rfl, k, os, rfl⟩
 exact ⟨rfl, below_grow _ _ (Nat.le_refl _) _ _⟩
theorem atoi_w (s : List UInt8) (n : Int) (hl : s.length ≤ 18) (h : atoi s = some n) (hn : inR .i64 n) : PCall Tryz.prog (.func 90) [.str s] (.tup [.int .i64 n, .v .nilIface]) := by
 refine PCall.below (fun w vs => callFunc_enter Tryz.func90 (by rfl) (by rfl) vs) fun M w vs hc hr => ?_
 rw [R1_str hr]
 refine ⟨.tuple #[.int .i64 n, .nilIface], ?_, ?_⟩
 ·simp only [R]
  exact ⟨[_, _], rfl, by simp only [RAll, R, true_and, and_true]; exact hn⟩
 ·refine (sh_strconv_Atoi ⟨s.toArray⟩ n (by simpa [ByteArray.size] using hl) h w).mono ?_
  rintro e w' ⟨rfl, t, rfl⟩
  exact ⟨rfl, ⟨rfl, rfl, rfl, by rw [bytesWorld_size]; omega, fun k hk => bytesWorld_at_old w 5 _ k hk⟩⟩
end Go.Proofs.YtfjnohmdilmfhaaGreatDoor
/- clear, of strings: what is behind a place is forgotten. -/
namespace Go.Proofs.YtfjnohmdilmfhaaGreatDoor
open Go Go.RowKit Go.Lib
set_option linter.unusedSimpArgs false
set_option linter.unusedVariables false
theorem setCells_wr (b : Nat) : ∀ (xs : List Value) (o : Nat) (w : World) (vs : List Value) (T : TypeId) (fz : Nat × Nat), w.heap[b]? = some (.cells (List.toArray vs) T fz) → o + xs.length ≤ vs.length →
  Wr w (w.setCells b o xs) b ∧ (w.setCells b o xs).heap[b]? = some (.cells (List.toArray (vs.take o ++ xs ++ vs.drop (o + xs.length))) T fz)
 | [], o, w, vs, T, fz, h, _ => ⟨Wr.refl _ _, by simpa [World.setCells] using h⟩
 | x :: xs, o, w, vs, T, fz, h, hl => by
  simp only [List.length_cons] at hl
  obtain ⟨a, b'⟩ := setCells_wr b xs (o + 1) _ _ T fz (setCell_heap h x (o := o)) (by simp; omega)
  refine ⟨(Wr.setCell w b o x).trans a, ?_⟩
  simp only [World.setCells]
  rw [b']
  congr 2
  have e1 : (vs.set o x).take (o + 1) = vs.take o ++ [x] := by
   rw [List.take_add_one, List.take_set_of_le (Nat.le_refl _)]
   simp [show o < vs.length by omega]
  have e2 : (vs.set o x).drop (o + 1 + xs.length) = vs.drop (o + (x :: xs).length) := by
   rw [List.drop_set_of_lt (by omega)]
   congr 1
   simp; omega
  rw [e1, e2]
  simp
theorem flat1_take : ∀ {rows : List (List D)} (n : Nat), (∀ r ∈ rows, r.length = 1) → (rows.take n).flatten = rows.flatten.take n
 | [], n, _ => by simp
 | r :: rows, 0, h => by simp
 | r :: rows, n + 1, h => by
  have h1 := h r (by simp)
  match r, h1 with
  | [x], _ => simp [flat1_take n fun x hx => h x (List.mem_cons_of_mem _ hx)]
section
variable {P : Program} {σ : Store} {nt : Nat} {κ : Env → Store → Prop} {X : D → Store → Prop} {dst : Option Nat} {T : TypeId} {pos_ : String} {aft : Array Edge} {os : List Oper} {env : Env}
theorem vS_clear {xs : Array Operand} {ts : Array TypeId} {x : Operand} {b o m cap : Nat} {rows : List (List D)} {TT e : TypeId} (hxs : xs = #[x]) (hts : ts = #[TT]) (hx : ∀ M v, R M (opd env x) v → ∃ c, v = .slice (some ⟨b, o, none⟩) m c)
  (hg : σ.get b = some (.arr 1 rows cap)) (hT : P.underlying TT = some (.slice e)) (hz : ∀ w, (zeroValue e).run P w = .ok (.string ByteArray.empty) w) (hm : 0 < m) (ho : o + m ≤ cap)
  (h : vopsS P nt κ X os (env.put dst .top) (σ.upd b (.arr 1 (rows.take o) cap))) : vopsS P nt κ X (⟨dst, .call ⟨.builtin .clear, xs, ts⟩, T, pos_, aft, none⟩ :: os) env σ := by
 intro M w a hc he
 obtain ⟨c, hv⟩ := hx M _ (opd_R he x)
 subst hxs; subst hts
 obtain ⟨⟨vs, Tb, hh, h2, h3, h4, h5⟩, hmn⟩ := hc.box b _ (Store.mem_of_get hg)
 rw [Nat.mul_one] at h2
 have hrun := run_clear_slice (P := P) w TT e T (.string ByteArray.empty) hT hz rfl rfl b o m c hm
  (fun j hj => by simp only [World.cell?, hh, List.getElem?_toArray]; rw [List.getElem?_eq_getElem (by omega)]; rfl) (fun j hj => by simp [World.frozen?, hh])
 have hex : (execOp a.eval ⟨dst, .call ⟨.builtin .clear, #[x], #[TT]⟩, T, pos_, aft, none⟩).run P w = .ok (.value (.tuple #[])) (w.setCells b o (List.replicate m (.string ByteArray.empty))) := by
  have hb : (builtin .clear #[TT] T (#[x].map fun | .const _ => true | _ => false) #[.slice (some ⟨b, o, none⟩) m c]).run P w = .ok (.value (.tuple #[])) (w.setCells b o (List.replicate m (.string ByteArray.empty))) := lift_value hrun
  simp only [execOp, resolve, Sem.run_bind, Sem.run_pure, Result.andThen_ok, invoke]
  have e1 : #[x].map a.eval = #[.slice (some ⟨b, o, none⟩) m c] := by simp [hv]
  rw [e1]
  exact hb
 obtain ⟨wr, hw⟩ := setCells_wr b (List.replicate m (.string ByteArray.empty)) o w vs Tb (0, 0) hh (by rw [List.length_replicate]; omega)
 have hlen1 : ∀ r ∈ rows, r.length = 1 := fun r hr => (h5 r hr).1
 obtain ⟨c1, s1⟩ := hc.turn (w' := w.setCells b o (List.replicate m (.string ByteArray.empty))) (b := b) (y := .arr 1 (rows.take o) cap) (Store.get_mem hg) wr.size wr.os wr.tape wr.output (fun k hk => wr.other k hk) (fun o v hv => by rw [hmn o] at hv; cases hv)
  ⟨⟨_, Tb, hw, by rw [List.length_append, List.length_append, List.length_take, List.length_drop, List.length_replicate]; omega, by rw [List.length_take]; omega, by
    rw [flat1_take _ hlen1, List.length_take, Nat.mul_one, List.append_assoc, List.take_append_of_le_length (by rw [List.length_take]; omega), List.take_take, Nat.min_eq_left (by omega)]
    have := RAll.take o h4
    rw [Nat.mul_one, List.take_take] at this
    exact this, fun r hr => h5 r (List.mem_of_mem_take hr)⟩, hmn⟩
 exact .value M _ _ .top _ hex s1 c1 (by simp only [R]) h
end
end Go.Proofs.YtfjnohmdilmfhaaGreatDoor
/- Rows may be told with less; arguments too. -/
namespace Go.Proofs.YtfjnohmdilmfhaaGreatDoor
open Go Go.RowKit
theorem RCells.le {M : Mem} : ∀ {cs cs' : List D} {b o : Nat}, DsLe cs cs' → RCells M cs' b o → RCells M cs b o
 | [], _, _, _, _, _ => by simp only [RCells]
 | c :: cs, [], _, _, h, _ => by simp [DsLe] at h
 | c :: cs, c' :: cs', b, o, h, hr => by
  simp only [DsLe] at h
  simp only [RCells] at hr ⊢
  obtain ⟨⟨x, h1, h2⟩, h3⟩ := hr
  exact ⟨⟨x, h1, h.1 _ _ h2⟩, RCells.le h.2 h3⟩
theorem DsLe.len : ∀ {cs cs' : List D}, DsLe cs cs' → cs.length = cs'.length
 | [], [], _ => rfl
 | [], _ :: _, h => by simp [DsLe] at h
 | _ :: _, [], h => by simp [DsLe] at h
 | _ :: _, _ :: _, h => by simp only [DsLe] at h; simp [DsLe.len h.2]
def RowsLe : List (List D) → List (List D) → Prop
 | [], [] => True
 | r :: rs, r' :: rs' => DsLe r r' ∧ RowsLe rs rs'
 | _, _ => False
theorem RowsLe.len : ∀ {rs rs' : List (List D)}, RowsLe rs rs' → rs.length = rs'.length
 | [], [], _ => rfl
 | [], _ :: _, h => by simp [RowsLe] at h
 | _ :: _, [], h => by simp [RowsLe] at h
 | _ :: _, _ :: _, h => by simp only [RowsLe] at h; simp [RowsLe.len h.2]
theorem RRows.le {M : Mem} {sz : Nat} : ∀ {rs rs' : List (List D)} {b o : Nat}, RowsLe rs rs' → RRows M sz rs' b o → RRows M sz rs b o
 | [], _, _, _, _, _ => by simp only [RRows]
 | _ :: _, [], _, _, h, _ => by simp [RowsLe] at h
 | r :: rs, r' :: rs', b, o, h, hr => by
  simp only [RowsLe] at h
  simp only [RRows] at hr ⊢
  exact ⟨h.1.len.trans hr.1, RCells.le h.1 hr.2.1, RRows.le h.2 hr.2.2⟩
theorem DLe.rows {sz : Nat} {rs rs' : List (List D)} {t : Tok} (h : RowsLe rs rs') : DLe (.sl sz rs .no) (.sl sz rs' t) := by
 intro M v hr
 simp only [R] at hr ⊢
 obtain ⟨p, cap, h1, h2, h3, h4, h5⟩ := hr
 rw [← h.len] at h1 h2 h3
 refine ⟨p, cap, h1, h2, h3, fun hn => ?_, trivial⟩
 obtain ⟨b, o, e, hr⟩ := h4 (by intro e; have := h.len; rw [e] at this; exact hn (List.eq_nil_of_length_eq_zero this))
 exact ⟨b, o, e, RRows.le h hr⟩
theorem ACall.args {P : Program} {f : Fn} {ys xs : List D} {σ : Store} {Q : Res → Store → Prop} (h : ACall P f ys σ Q) (hl : DsLe ys xs) : ACall P f xs σ Q := fun M w vs hc hr => h M w vs hc (hl.R hr)
theorem PCall.args {P : Program} {f : Fn} {ys xs : List D} {d : D} (h : PCall P f ys d) (hl : DsLe ys xs) : PCall P f xs d := ACall.args h hl
theorem callFc {P : Program} {σ : Store} {g : Nat} {fs cs xs : List D} {d : D} {K X : D → Store → Prop} (h : PCall P (.func g) (fs ++ xs ++ cs) d) (hk : K d σ) : CallK P (.fn (.func g) fs cs) xs K X σ := by
 unfold CallK
 exact ⟨fun e => by simp [isYield] at e, .inl ⟨d, h, hk⟩⟩
end Go.Proofs.YtfjnohmdilmfhaaGreatDoor
/- What claims say of boxes, in plain data. -/
namespace Go.Proofs.YtfjnohmdilmfhaaGreatDoor
open Go Go.RowKit
set_option linter.unusedSimpArgs false
set_option linter.unusedVariables false
/-! ### Words -/
def wdst (a : Int × Bool) (c : UInt8) : Int × Bool := if c = 126 then a else if c = 32 then (a.1, false) else (bif a.2 then a.1 else a.1 + 1, true)
def wdP (s : List UInt8) (p : Nat) : Int × Bool := (s.take p).foldl wdst (0, false)
def wdN (s : List UInt8) : Int := if tv s = true then (wdP s s.length).1 else 0
def wdE (s : List UInt8) : Int := if tv s = true then 0 else 1
theorem wdP_succ {s : List UInt8} {p : Nat} (h : p < s.length) : wdP s (p + 1) = wdst (wdP s p) (s.getD p 0) := by
 unfold wdP
 rw [List.take_succ_eq_append_getElem h, List.foldl_append]
 simp [h]
theorem wdst_bd (a : Int × Bool) (c : UInt8) : a.1 ≤ (wdst a c).1 ∧ (wdst a c).1 ≤ a.1 + 1 := by
 unfold wdst
 split
 ·omega
 ·split
  ·simp only; omega
  ·cases a.2 <;> simp <;> omega
theorem wdP_bd (s : List UInt8) : ∀ p, 0 ≤ (wdP s p).1 ∧ (wdP s p).1 ≤ p
 | 0 => by simp [wdP]
 | p + 1 => by
  have ih := wdP_bd s p
  rcases Nat.lt_or_ge p s.length with h | h
  ·rw [wdP_succ h]
   have := wdst_bd (wdP s p) (s.getD p 0)
   omega
  ·have : wdP s (p + 1) = wdP s p := by
    unfold wdP
    rw [List.take_of_length_le h, List.take_of_length_le (by omega)]
   rw [this]; omega
theorem u8_eq {c : UInt8} {n : Nat} (hn : n < 256) : ((c.toNat : Int) = n) ↔ c = UInt8.ofNat n := by
 constructor
 ·intro h
  apply UInt8.toNat_inj.1
  rw [UInt8.toNat_ofNat']
  omega
 ·rintro rfl
  rw [UInt8.toNat_ofNat']
  omega
theorem cls_6 {n : Int} : cls n = 6 ↔ n = 126 := by
 unfold cls
 repeat' split
 all_goals omega
theorem cls_4 {n : Int} : cls n = 4 ↔ n = 32 := by
 unfold cls
 repeat' split
 all_goals omega
def shown (s : List UInt8) : List UInt8 := s.filter fun c => decide (c ≠ 126)
def brow (c : UInt8) : List D := [.int .u8 (c.toNat : Int)]
theorem shown_take {s : List UInt8} {i : Nat} (h : i < s.length) : shown (s.take (i + 1)) = if sat s i = 126 then shown (s.take i) else shown (s.take i) ++ [s.getD i 0] := by
 have e : s.getD i 0 = s[i] := by simp [h]
 unfold sat shown
 rw [e, List.take_succ_eq_append_getElem h, List.filter_append]
 have h3 : ((s[i].toNat : Int) = 126) ↔ s[i] = 126 := by
  constructor
  ·intro hh; apply UInt8.toNat_inj.1; show _ = 126; omega
  ·intro hh; rw [hh]; rfl
 by_cases hc : s[i] = 126
 ·rw [if_pos (h3.2 hc)]; simp [hc]
 ·rw [if_neg (fun hh => hc (h3.1 hh))]; simp [hc]
theorem shown_len (s : List UInt8) : (shown s).length ≤ s.length := List.length_filter_le _ _
theorem wd_shown (s : List UInt8) : ∀ a, (shown s).foldl wdst a = s.foldl wdst a := by
 induction s with
 | nil => intro a; rfl
 | cons c s ih =>
  intro a
  unfold shown at ih ⊢
  by_cases h : c = 126
  ·subst h
   simp only [List.filter_cons, ne_eq, not_true_eq_false, decide_false, Bool.false_eq_true, if_false, List.foldl_cons]
   rw [ih]
   rfl
  ·simp only [List.filter_cons, ne_eq, h, not_false_eq_true, decide_true, if_true, List.foldl_cons, ih]
theorem wdP_shown (s : List UInt8) : wdP (shown s) (shown s).length = wdP s s.length := by
 unfold wdP
 rw [List.take_length, List.take_length, wd_shown]
theorem shown_no (s : List UInt8) {i : Nat} (h : i < (shown s).length) : ¬ (shown s).getD i 0 = 126 := by
 have : (shown s).getD i 0 ∈ shown s := by simp [h]
 unfold shown at this
 exact of_decide_eq_true (List.mem_filter.1 this).2
/-- What the reference counts: words begin behind blanks. -/
theorem wdP_ins {s : List UInt8} (hs : ∀ i, i < s.length → ¬ s.getD i 0 = 126) : ∀ p, p ≤ s.length → ((wdP s p).2 = true ↔ 0 < p ∧ ¬ s.getD (p - 1) 0 = 32)
 | 0, _ => by simp [wdP]
 | p + 1, h => by
  rw [wdP_succ (by omega), Nat.add_sub_cancel]
  unfold wdst
  rw [if_neg (hs p (by omega))]
  by_cases h32 : s.getD p 0 = 32
  ·rw [if_pos h32]; simp only [Bool.false_eq_true, false_iff, not_and, Decidable.not_not]; exact fun _ => h32
  ·rw [if_neg h32]; simp only [true_iff]; exact ⟨by omega, h32⟩
/-! ### Boxes -/
def fnd (l : List Bx) (x : Int) : Option Bx := l.find? fun b => decide (b.node = x)
def fnB (l : List Bx) (x : Int) : Bx := (fnd l x).getD bx0
def fnH (l : List Bx) (x : Int) : Bool := (fnd l x).isSome
def bix (l : List Bx) (x : Int) : Int := fixI (fun b => decide (b.node = x)) l
theorem bix_cases (l : List Bx) (x : Int) : (∃ i, i < l.length ∧ bix l x = i ∧ fnd l x = some (bxat l i)) ∨ (bix l x = -1 ∧ fnd l x = none) := by
 unfold bix fnd
 rcases fixI_cases (fun b : Bx => decide (b.node = x)) l bx0 with ⟨i, h1, h2, h3, h4⟩ | ⟨h1, h2⟩
 ·refine .inl ⟨i, h1, h4, ?_⟩
  rw [List.find?_eq_some_iff_getElem]
  refine ⟨h2, i, h1, by unfold bxat; simp [h1], fun j hj => ?_⟩
  have := h3 j hj
  rw [show l.getD j bx0 = l[j] by simp [show j < l.length by omega]] at this
  rw [this]; rfl
 ·refine .inr ⟨h2, ?_⟩
  rw [List.find?_eq_none]
  intro b hb
  obtain ⟨j, hj, rfl⟩ := List.getElem_of_mem hb
  have := h1 j hj
  rw [show l.getD j bx0 = l[j] by simp [hj]] at this
  rw [this]; simp
def fitB (b : Bx) : Bool := !b.cut && b.lines.all fun s => decide (b.x ≤ s.x ∧ b.y ≤ s.y ∧ s.x + s.w ≤ b.x + b.w ∧ s.y + s.h ≤ b.y + b.h)
def aptB (a b : Bx) : Bool := decide (mnI (a.x + a.w) (b.x + b.w) - mxI a.x b.x ≤ 0 ∨ mnI (a.y + a.h) (b.y + b.h) - mxI a.y b.y ≤ 0)
def ysL (l : List Bx) : List Int := l.flatMap fun b => b.lines.map (·.y)
def srtd (l : List Int) : Bool := decide (∀ i, i < l.length - 1 → iat l i ≤ iat l (i + 1))
def fulB (b : Bx) (n : Int) : Bool := b.lines.dropLast.all fun s => decide (n ≤ wdN s.txt)
mutual
def hld (l : List Bx) : Cl → Bool
 | .mk o a b n ks =>
  if o = 1 then fnH l a && fitB (fnB l a)
  else if o = 2 then fnH l a && fnH l b && aptB (fnB l a) (fnB l b)
  else if o = 3 then fnH l a && decide ((fnB l a).y + (fnB l a).h ≤ n)
  else if o = 4 then srtd (ysL l)
  else if o = 5 then fnH l a && fulB (fnB l a) n
  else if o = 7 then (hldL l ks).any id
  else if o = 8 then !(hldL l ks).headD false
  else (hldL l ks).all id
def hldL (l : List Bx) : List Cl → List Bool
 | [] => []
 | k :: ks => hld l k :: hldL l ks
end
theorem hldL_map (l : List Bx) : ∀ ks, hldL l ks = ks.map (hld l)
 | [] => by simp only [hldL, List.map_nil]
 | k :: ks => by simp only [hldL, List.map_cons, hldL_map l ks]
theorem hld_eq (l : List Bx) (e : Cl) : hld l e = (if e.op = 1 then fnH l e.a && fitB (fnB l e.a)
    else if e.op = 2 then fnH l e.a && fnH l e.b && aptB (fnB l e.a) (fnB l e.b)
    else if e.op = 3 then fnH l e.a && decide ((fnB l e.a).y + (fnB l e.a).h ≤ e.n)
    else if e.op = 4 then srtd (ysL l)
    else if e.op = 5 then fnH l e.a && fulB (fnB l e.a) e.n
    else if e.op = 7 then e.kids.any (hld l)
    else if e.op = 8 then !(e.kids.map (hld l)).headD false
    else e.kids.all (hld l)) := by
 cases e with
 | mk o a b n ks => simp only [hld, hldL_map, Cl.op, Cl.a, Cl.b, Cl.n, Cl.kids, List.any_map, List.all_map]; rfl
/-- A place of which sums do not overflow. -/
def bxO (b : Bx) : Bool := plB b.x b.y b.w b.h && b.lines.all snB
theorem bx0_O : bxO bx0 = true := by decide
theorem bxB_O {b : Bx} (h : bxB b = true) : bxO b = true := by
 unfold bxB at h
 unfold bxO
 simp only [Bool.and_eq_true] at h ⊢
 exact ⟨h.1.2, h.2⟩
theorem fnd_mem {l : List Bx} {x : Int} {b : Bx} (h : fnd l x = some b) : b ∈ l ∧ b.node = x := by
 unfold fnd at h
 exact ⟨List.mem_of_find?_eq_some h, by simpa using List.find?_some h⟩
theorem fnB_O {l : List Bx} (h : bxsB l = true) (x : Int) : bxO (fnB l x) = true := by
 unfold fnB
 cases e : fnd l x with
 | none => exact bx0_O
 | some b =>
  unfold bxsB at h
  simp only [Bool.and_eq_true, List.all_eq_true] at h
  exact bxB_O (h.1 b (fnd_mem e).1)
theorem plB_1 {x y w h : Int} (hp : plB x y w h = true) : (-1000000000 ≤ x ∧ x ≤ 1000000000) ∧ (-1000000000 ≤ y ∧ y ≤ 1000000000) ∧ (0 ≤ w ∧ w ≤ 1000000000) ∧ (0 ≤ h ∧ h ≤ 1000000000) := of_decide_eq_true hp
theorem bxO_1 {b : Bx} (h : bxO b = true) : (-1000000000 ≤ b.x ∧ b.x ≤ 1000000000) ∧ (-1000000000 ≤ b.y ∧ b.y ≤ 1000000000) ∧ (0 ≤ b.w ∧ b.w ≤ 1000000000) ∧ (0 ≤ b.h ∧ b.h ≤ 1000000000) := by
 unfold bxO at h
 rw [Bool.and_eq_true] at h
 exact plB_1 h.1
theorem snB_1 {s : Sn} (h : snB s = true) : ((-1000000000 ≤ s.x ∧ s.x ≤ 1000000000) ∧ (-1000000000 ≤ s.y ∧ s.y ≤ 1000000000) ∧ (0 ≤ s.w ∧ s.w ≤ 1000000000) ∧ (0 ≤ s.h ∧ s.h ≤ 1000000000)) ∧ tv s.txt = true := by
 unfold snB at h
 rw [Bool.and_eq_true] at h
 exact ⟨plB_1 h.1, h.2⟩
theorem snat_mem {l : List Sn} {i : Nat} (h : i < l.length) : snat l i ∈ l := by unfold snat; simp [h]
theorem bxat_mem {l : List Bx} {i : Nat} (h : i < l.length) : bxat l i ∈ l := by unfold bxat; simp [h]
theorem bxO_2 {b : Bx} (h : bxO b = true) {i : Nat} (hi : i < b.lines.length) : ((-1000000000 ≤ (snat b.lines i).x ∧ (snat b.lines i).x ≤ 1000000000) ∧ (-1000000000 ≤ (snat b.lines i).y ∧ (snat b.lines i).y ≤ 1000000000) ∧ (0 ≤ (snat b.lines i).w ∧ (snat b.lines i).w ≤ 1000000000) ∧ (0 ≤ (snat b.lines i).h ∧ (snat b.lines i).h ≤ 1000000000)) ∧ tv (snat b.lines i).txt = true := by
 unfold bxO at h
 rw [Bool.and_eq_true, List.all_eq_true] at h
 exact snB_1 (h.2 _ (snat_mem hi))
/-! ### Orders -/
def ordR : Int → List Int → Bool
 | _, [] => true
 | m, y :: ys => !decide (y < m) && ordR y ys
theorem lt_le (y m : Int) : (!decide (y < m)) = decide (m ≤ y) := by rw [Bool.eq_iff_iff]; simp [Int.not_lt]
theorem ordR_srt : ∀ (ys : List Int) (m : Int), ordR m ys = (decide (∀ y, ys.head? = some y → m ≤ y) && srtd ys)
 | [], m => by simp [ordR, srtd]
 | [y], m => by simp [ordR, srtd, lt_le]
 | y :: z :: ys, m => by
  have e : srtd (y :: z :: ys) = (decide (y ≤ z) && srtd (z :: ys)) := by
   unfold srtd
   rw [Bool.eq_iff_iff]
   simp only [decide_eq_true_eq, Bool.and_eq_true]
   constructor
   ·intro h
    refine ⟨by simpa [iat] using h 0 (by simp), fun i hi => ?_⟩
    have := h (i + 1) (by simp at hi ⊢; omega)
    simpa [iat] using this
   ·rintro ⟨h1, h2⟩ i hi
    cases i with
    | zero => simpa [iat] using h1
    | succ i =>
     have := h2 i (by simp at hi ⊢; omega)
     simpa [iat] using this
  rw [ordR, ordR_srt (z :: ys) y, e, lt_le]
  simp
theorem ordR_ys {l : List Bx} (h : bxsB l = true) : ordR (-1000000000) (ysL l) = srtd (ysL l) := by
 rw [ordR_srt, decide_eq_true, Bool.true_and]
 intro y hy
 have : y ∈ ysL l := List.mem_of_mem_head? hy
 unfold ysL at this
 obtain ⟨b, hb, hy⟩ := List.mem_flatMap.1 this
 obtain ⟨s, hs, rfl⟩ := List.mem_map.1 hy
 unfold bxsB at h
 simp only [Bool.and_eq_true, List.all_eq_true] at h
 have h1 := bxB_O (h.1 b hb)
 unfold bxO at h1
 rw [Bool.and_eq_true, List.all_eq_true] at h1
 have := (snB_1 (h1.2 s hs)).1
 omega
end Go.Proofs.YtfjnohmdilmfhaaGreatDoor
/- The words of a source, in plain data; what slices.DeleteFunc does in place. -/
namespace Go.Proofs.YtfjnohmdilmfhaaGreatDoor
open Go Go.RowKit
set_option linter.unusedSimpArgs false
set_option linter.unusedVariables false
def nb (w : List UInt8) : Bool := decide (w ≠ [])
def wat (l : List (List UInt8)) (i : Nat) : List UInt8 := l.getD i []
theorem rowAt_s {l : List (List UInt8)} {i : Nat} (h : (i : Int) < (l.length : Int)) : rowAt (l.map srow) i = srow (wat l i) := rowAt_map srow _ h
def kj (l : List (List UInt8)) (j : Nat) : Nat := ((l.take j).filter nb).length
theorem kj_le (l : List (List UInt8)) (j : Nat) : kj l j ≤ j := Nat.le_trans (List.length_filter_le _ _) (List.length_take_le ..)
structure DfI (l : List (List UInt8)) (j : Nat) (cur : List (List UInt8)) : Prop where
 len : cur.length = l.length
 tk : cur.take (kj l j) = (l.take j).filter nb
 dr : cur.drop j = l.drop j
theorem take_w {l : List (List UInt8)} {j : Nat} (h : j < l.length) : l.take (j + 1) = l.take j ++ [wat l j] := by
 unfold wat
 rw [List.take_succ_eq_append_getElem h]
 simp [h]
theorem DfI.at {l cur : List (List UInt8)} {j : Nat} (h : DfI l j cur) (hj : j < l.length) : wat cur j = wat l j := by
 have h1 := h.dr
 have hl := h.len
 rw [List.drop_eq_getElem_cons hj, List.drop_eq_getElem_cons (by omega)] at h1
 unfold wat
 simp only [List.cons.injEq] at h1
 simp [hj, show j < cur.length by omega, h1.1]
theorem DfI.keep {l cur : List (List UInt8)} {j : Nat} (h : DfI l j cur) (hj : j < l.length) (hk : nb (wat l j) = true) : DfI l (j + 1) (cur.set (kj l j) (wat l j)) ∧ kj l (j + 1) = kj l j + 1 := by
 have hkj := kj_le l j
 have hl := h.len
 have e : kj l (j + 1) = kj l j + 1 := by unfold kj; rw [take_w hj, List.filter_append, List.length_append]; simp [hk]
 refine ⟨⟨by rw [List.length_set, hl], ?_, ?_⟩, e⟩
 ·rw [e, take_w hj, List.filter_append, List.take_succ_eq_append_getElem (by rw [List.length_set]; omega), List.take_set_of_le (Nat.le_refl _), h.tk]
  simp [hk]
 ·rw [List.drop_set_of_lt (by omega)]
  have := congrArg (List.drop 1) h.dr
  rwa [List.drop_drop, List.drop_drop] at this
theorem DfI.skip {l cur : List (List UInt8)} {j : Nat} (h : DfI l j cur) (hj : j < l.length) (hk : nb (wat l j) = false) : DfI l (j + 1) cur ∧ kj l (j + 1) = kj l j := by
 have e : kj l (j + 1) = kj l j := by unfold kj; rw [take_w hj, List.filter_append, List.length_append]; simp [hk]
 refine ⟨⟨h.len, ?_, ?_⟩, e⟩
 ·rw [e, h.tk, take_w hj, List.filter_append]; simp [hk]
 ·have := congrArg (List.drop 1) h.dr
  rwa [List.drop_drop, List.drop_drop] at this
theorem DfI.init {l : List (List UInt8)} {i : Nat} (hi : i < l.length) (h1 : ∀ j, j < i → nb (wat l j) = true) (h2 : nb (wat l i) = false) : DfI l (i + 1) l ∧ kj l (i + 1) = i := by
 have h0 : (l.take i).filter nb = l.take i := by
  rw [List.filter_eq_self]
  intro x hx
  obtain ⟨k, hk, rfl⟩ := List.mem_take_iff_getElem.1 hx
  have := h1 k (by omega)
  unfold wat at this
  simpa [show k < l.length by omega] using this
 have h3 : kj l i = i := by unfold kj; rw [h0, List.length_take]; omega
 have h4 : DfI l i l := ⟨rfl, by rw [h3, h0], rfl⟩
 obtain ⟨a, b⟩ := h4.skip hi h2
 exact ⟨a, b.trans h3⟩
theorem DfI.fin {l cur : List (List UInt8)} (h : DfI l l.length cur) : cur.take (kj l l.length) = l.filter nb ∧ kj l l.length = (l.filter nb).length := by
 have := h.tk
 rw [List.take_length] at this
 exact ⟨this, by unfold kj; rw [List.take_length]⟩
theorem flat_srow (l : List (List UInt8)) : (l.map srow).flatten = l.map D.str := by
 induction l with
 | nil => rfl
 | cons w l ih => simp [srow, ih]
theorem flat_hd {l : List (List UInt8)} {j : Nat} (h : j < l.length) : (List.drop j (l.map srow).flatten).headD .top = .str (wat l j) := by
 rw [flat_srow, ← List.map_drop, List.drop_eq_getElem_cons h]
 unfold wat
 simp [h]
theorem flat_ln {l : List (List UInt8)} {j : Nat} (h : j < l.length) : 1 ≤ (List.drop j (l.map srow).flatten).length := by
 rw [flat_srow, List.length_drop, List.length_map]; omega
theorem srow_dr (l : List (List UInt8)) (i : Nat) : List.drop 1 ((l.map srow).getD i []) = [] := by
 rw [List.getD_eq_getElem?_getD, List.getElem?_map]
 cases l[i]? <;> rfl
theorem srow_set (l : List (List UInt8)) (i : Nat) (w : List UInt8) : (l.map srow).set i [.str w] = (l.set i w).map srow := by
 rw [List.map_set]; rfl
/-- The words and parentheses of a source. -/
def wds (s : List UInt8) : List (List UInt8) := (spl 32 (rep 41 [32, 41, 32] (rep 40 [32, 40, 32] s)) []).filter nb
/-- As the reference finds them. -/
def fl (w : List UInt8) : List (List UInt8) := if w = [] then [] else [w]
def tok : List UInt8 → List UInt8 → List (List UInt8)
 | [], w => fl w
 | b :: s, w => if b = 32 then fl w ++ tok s [] else if b = 40 ∨ b = 41 then fl w ++ [b] :: tok s [] else tok s (w ++ [b])
theorem fl_nb (w : List UInt8) (r : List (List UInt8)) : (w :: r).filter nb = fl w ++ r.filter nb := by
 unfold fl nb
 by_cases h : w = [] <;> simp [h]
theorem wds_tok : ∀ (s w : List UInt8), (spl 32 (rep 41 [32, 41, 32] (rep 40 [32, 40, 32] s)) w).filter nb = tok s w
 | [], w => by
  show ([w] : List (List UInt8)).filter nb = fl w
  rw [fl_nb]; simp
 | b :: s, w => by
  have ih := wds_tok s
  have e : ∀ x y : List UInt8, rep 41 [32, 41, 32] (x ++ y) = rep 41 [32, 41, 32] x ++ rep 41 [32, 41, 32] y := rep_app _ _
  have e2 : rep 40 [32, 40, 32] (b :: s) = (if b = 40 then [32, 40, 32] else [b]) ++ rep 40 [32, 40, 32] s := by unfold rep; rw [List.flatMap_cons]
  rw [e2, e]
  by_cases h40 : b = 40
  ·subst h40
   have e3 : rep 41 [32, 41, 32] [32, 40, 32] = [32, 40, 32] := by decide
   rw [if_pos rfl, e3]
   simp only [List.cons_append, List.nil_append, spl, if_true, if_false, show ¬ (40 : UInt8) = 32 by decide]
   rw [fl_nb, fl_nb, ih]
   simp [tok, fl]
  ·rw [if_neg h40]
   by_cases h41 : b = 41
   ·subst h41
    have e3 : rep 41 [32, 41, 32] [41] = [32, 41, 32] := by decide
    rw [e3]
    simp only [List.cons_append, List.nil_append, spl, if_true, if_false, show ¬ (41 : UInt8) = 32 by decide]
    rw [fl_nb, fl_nb, ih]
    simp [tok, fl]
   ·have e3 : rep 41 [32, 41, 32] [b] = [b] := by simp [rep, h41]
    rw [e3]
    by_cases h32 : b = 32
    ·subst h32
     simp only [List.cons_append, List.nil_append, spl, if_true]
     rw [fl_nb, ih]
     simp [tok]
    ·simp only [List.cons_append, List.nil_append, spl, if_neg h32]
     rw [ih]
     simp [tok, h32, h40, h41]
theorem wds_eq (s : List UInt8) : wds s = tok s [] := wds_tok s []
end Go.Proofs.YtfjnohmdilmfhaaGreatDoor
/- How claims are read, in plain data. -/
namespace Go.Proofs.YtfjnohmdilmfhaaGreatDoor
open Go Go.RowKit
set_option linter.unusedSimpArgs false
set_option linter.unusedVariables false
abbrev W := List UInt8
def dgB (c : UInt8) : Bool := decide (48 ≤ c.toNat ∧ c.toNat ≤ 57)
def dgV (n : Int) (c : UInt8) : Int := 10 * n + ((c.toNat : Int) - 48)
def numV (w : W) : Int := w.foldl dgV 0
/-- The number that a word is. -/
def numB (w : W) : Bool := decide (1 ≤ w.length ∧ w.length ≤ 10) && w.all dgB && !(decide (w.getD 0 0 = 48) && decide (1 < w.length))
def numL : List W → Option (Int × List W)
 | [] => none
 | w :: r => if numB w = true then some (numV w, r) else none
theorem dgB_all_take {w : W} (h : w.all dgB = true) {i : Nat} (hi : i < w.length) : 48 ≤ sat w i ∧ sat w i ≤ 57 := by
 rw [List.all_eq_true] at h
 have := h w[i] (List.getElem_mem hi)
 unfold dgB at this
 have h2 := of_decide_eq_true this
 unfold sat
 simp [hi]
 omega
theorem numV_take {w : W} {i : Nat} (hi : i < w.length) : numV (w.take (i + 1)) = 10 * numV (w.take i) + (sat w i - 48) := by
 unfold numV
 rw [List.take_succ_eq_append_getElem hi, List.foldl_append]
 simp [dgV, sat, hi]
theorem numV_bd {w : W} (h : w.all dgB = true) : ∀ i, i ≤ w.length → 0 ≤ numV (w.take i) ∧ numV (w.take i) < ((10 ^ i : Nat) : Int)
 | 0, _ => by simp [numV]
 | i + 1, hi => by
  have ih := numV_bd h i (by omega)
  have hd := dgB_all_take h (i := i) (by omega)
  have e : ((10 ^ (i + 1) : Nat) : Int) = ((10 ^ i : Nat) : Int) * 10 := by rw [Nat.pow_succ]; exact Int.natCast_mul _ _
  rw [numV_take (by omega), e]
  omega
theorem numV_lt {w : W} (h : w.all dgB = true) (hl : w.length ≤ 10) : 0 ≤ numV w ∧ numV w < 10000000000 := by
 have := numV_bd h w.length (Nat.le_refl _)
 rw [List.take_length] at this
 have h2 : 10 ^ w.length ≤ 10 ^ 10 := Nat.pow_le_pow_right (by omega) hl
 omega
theorem decFrom_num : ∀ (w : W) (acc : Nat), w.all dgB = true → ∃ n : Nat, Lib.decFrom acc w = some n ∧ w.foldl dgV (acc : Int) = n
 | [], acc, _ => ⟨acc, rfl, rfl⟩
 | c :: w, acc, h => by
  simp only [List.all_cons, Bool.and_eq_true] at h
  have hc := of_decide_eq_true h.1
  obtain ⟨n, h1, h2⟩ := decFrom_num w (acc * 10 + (c.toNat - 48)) h.2
  refine ⟨n, ?_, ?_⟩
  ·simp only [Lib.decFrom, Lib.digitVal, if_pos hc]; exact h1
  ·rw [← h2, List.foldl_cons]
   congr 1
   unfold dgV
   omega
theorem atoi_num {w : W} (h : numB w = true) : Lib.atoi w = some (numV w) := by
 unfold numB at h
 simp only [Bool.and_eq_true, decide_eq_true_eq] at h
 obtain ⟨⟨⟨h1, h2⟩, h3⟩, h4⟩ := h
 match w, h1, h3 with
 | c :: w, _, h3 =>
  have hc : dgB c = true := by simp only [List.all_cons, Bool.and_eq_true] at h3; exact h3.1
  have hcr := of_decide_eq_true hc
  have n1 : ¬ c = 45 := fun e => by subst e; revert hcr; decide
  have n2 : ¬ c = 43 := fun e => by subst e; revert hcr; decide
  obtain ⟨n, e1, e2⟩ := decFrom_num (c :: w) 0 h3
  unfold Lib.atoi
  simp only [beq_iff_eq, n1, n2, if_false]
  unfold Lib.decNat
  simp only [List.isEmpty_cons, Bool.false_eq_true, if_false]
  rw [e1]
  show some (n : Int) = _
  rw [← e2]
  rfl
def kAnd : W := [97, 110, 100]
def kOr : W := [111, 114]
mutual
/-- The claim that follows, and what is left. -/
def pcl : Nat → List W → Option (Cl × List W)
 | 0, _ => none
 | _ + 1, [] => none
 | f + 1, w :: ws =>
  if w = [102, 105, 116, 115] then (match numL ws with
    | some (a, r) => some (.mk 1 a 0 0 [], r)
    | none => none)
  else if w = [97, 112, 97, 114, 116] then (match numL ws with
    | some (a, r) => (match numL r with
      | some (b, r2) => some (.mk 2 a b 0 [], r2)
      | none => none)
    | none => none)
  else if w = [97, 98, 111, 118, 101] then (match numL ws with
    | some (a, r) => (match numL r with
      | some (b, r2) => some (.mk 3 a 0 b [], r2)
      | none => none)
    | none => none)
  else if w = [119, 111, 114, 100, 115] then (match numL ws with
    | some (a, r) => (match numL r with
      | some (b, r2) => some (.mk 5 a 0 b [], r2)
      | none => none)
    | none => none)
  else if w = [111, 114, 100, 101, 114] then some (.mk 4 0 0 0 [], ws)
  else if w = [110, 111, 116] then (match pcl f ws with
    | some (c, r) => some (.mk 8 0 0 0 [c], r)
    | none => none)
  else if w = [40] then pgp f ws
  else none
/-- Behind a parenthesis. -/
def pgp : Nat → List W → Option (Cl × List W)
 | 0, _ => none
 | f + 1, ws => match pcl f ws with
  | some (c, j :: r) => if j = kAnd ∨ j = kOr then pgr f j [c] (j :: r) else none
  | _ => none
/-- The further parts. -/
def pgr : Nat → W → List Cl → List W → Option (Cl × List W)
 | 0, _, _, _ => none
 | _ + 1, _, _, [] => none
 | f + 1, j, ks, w :: r =>
  if w = [41] then some (.mk (if j = kAnd then 6 else 7) 0 0 0 ks, r)
  else if w ≠ j ∨ ks.length = 10 then none
  else match pcl f r with
   | some (c, r') => pgr f j (ks ++ [c]) r'
   | none => none
end
/-! ### What is left is shorter -/
theorem numL_lt {ws r : List W} {n : Int} (h : numL ws = some (n, r)) : ∃ w, ws = w :: r ∧ numB w = true ∧ n = numV w := by
 cases ws with
 | nil => cases h
 | cons w ws =>
  rw [numL] at h
  by_cases hb : numB w = true
  ·rw [if_pos hb] at h; cases h; exact ⟨w, rfl, hb, rfl⟩
  ·rw [if_neg hb] at h; cases h
theorem two_lt {ws r : List W} {c : Cl} {F : Int → Int → Cl} (h : (match numL ws with
      | some (a, r) => (match numL r with
        | some (b, r2) => some (F a b, r2)
        | none => none)
      | none => none) = some (c, r)) : r.length < ws.length ∧ ∃ p, ws = p ++ r := by
 cases h1 : numL ws with
 | none => rw [h1] at h; cases h
 | some x =>
  obtain ⟨a, r1⟩ := x
  rw [h1] at h
  simp only at h
  cases h2 : numL r1 with
  | none => rw [h2] at h; cases h
  | some y =>
   obtain ⟨b, r2⟩ := y
   rw [h2] at h
   cases h
   obtain ⟨w, rfl, _⟩ := numL_lt h1
   obtain ⟨w2, rfl, _⟩ := numL_lt h2
   exact ⟨by simp only [List.length_cons]; omega, [w, w2], rfl⟩
mutual
theorem pcl_lt : ∀ (f : Nat) {ws r : List W} {c : Cl}, pcl f ws = some (c, r) → r.length < ws.length ∧ ∃ p, ws = p ++ r
 | 0, _, _, _, h => by simp [pcl] at h
 | _ + 1, [], _, _, h => by simp [pcl] at h
 | f + 1, w :: ws, r, c, h => by
  have cons : (r.length < ws.length ∧ ∃ p, ws = p ++ r) → r.length < (w :: ws).length ∧ ∃ p, w :: ws = p ++ r := fun ⟨a, p, e⟩ => ⟨by simp only [List.length_cons]; omega, w :: p, by rw [e]; rfl⟩
  unfold pcl at h
  split at h
  ·cases h1 : numL ws with
   | none => rw [h1] at h; cases h
   | some x =>
    obtain ⟨a, r1⟩ := x
    rw [h1] at h
    cases h
    obtain ⟨w1, rfl, _⟩ := numL_lt h1
    exact cons ⟨by simp, [w1], rfl⟩
  split at h
  ·exact cons (two_lt (F := fun a b => .mk 2 a b 0 []) h)
  split at h
  ·exact cons (two_lt (F := fun a b => .mk 3 a 0 b []) h)
  split at h
  ·exact cons (two_lt (F := fun a b => .mk 5 a 0 b []) h)
  split at h
  ·cases h; exact ⟨by simp, [w], rfl⟩
  split at h
  ·cases h1 : pcl f ws with
   | none => rw [h1] at h; cases h
   | some x =>
    obtain ⟨c1, r1⟩ := x
    rw [h1] at h
    cases h
    exact cons (pcl_lt f h1)
  split at h
  ·exact cons (pgp_lt f h)
  ·cases h
theorem pgp_lt : ∀ (f : Nat) {ws r : List W} {c : Cl}, pgp f ws = some (c, r) → r.length < ws.length ∧ ∃ p, ws = p ++ r
 | 0, _, _, _, h => by simp [pgp] at h
 | f + 1, ws, r, c, h => by
  unfold pgp at h
  cases h1 : pcl f ws with
  | none => rw [h1] at h; cases h
  | some x =>
   obtain ⟨c1, r1⟩ := x
   rw [h1] at h
   cases r1 with
   | nil => cases h
   | cons j r1 =>
    simp only at h
    split at h
    ·obtain ⟨a, p, rfl⟩ := pcl_lt f h1
     obtain ⟨b, q, e⟩ := pgr_lt f h
     exact ⟨by omega, p ++ q, by rw [e, List.append_assoc]⟩
    ·cases h
theorem pgr_lt : ∀ (f : Nat) {j : W} {ks : List Cl} {ws r : List W} {c : Cl}, pgr f j ks ws = some (c, r) → r.length < ws.length ∧ ∃ p, ws = p ++ r
 | 0, _, _, _, _, _, h => by simp [pgr] at h
 | _ + 1, _, _, [], _, _, h => by simp [pgr] at h
 | f + 1, j, ks, w :: ws, r, c, h => by
  unfold pgr at h
  split at h
  ·cases h; exact ⟨by simp, [w], rfl⟩
  split at h
  ·cases h
  cases h1 : pcl f ws with
  | none => rw [h1] at h; cases h
  | some x =>
   obtain ⟨c1, r1⟩ := x
   rw [h1] at h
   obtain ⟨a, p, rfl⟩ := pcl_lt f h1
   obtain ⟨b, q, e⟩ := pgr_lt f h
   exact ⟨by simp only [List.length_cons]; omega, w :: (p ++ q), by rw [e, List.cons_append, List.append_assoc]⟩
end
/-! ### The reference's loop -/
def rgr : Nat → W → List Cl → List W → Option (Cl × List W)
 | 0, _, _, _ => none
 | f + 1, j, ks, l => match pcl f l with
  | some (c, w :: r) => if w = [41] then (if 2 ≤ ks.length + 1 ∧ ks.length + 1 ≤ 10 then some (.mk (if j = kOr then 7 else 6) 0 0 0 (ks ++ [c]), r) else none)
    else if (w = kAnd ∨ w = kOr) ∧ (j = [] ∨ j = w) then rgr f w (ks ++ [c]) r else none
  | _ => none
theorem rgr_many : ∀ (f : Nat) (j : W) (ks : List Cl) (l : List W), 10 ≤ ks.length → rgr f j ks l = none
 | 0, _, _, _, _ => rfl
 | f + 1, j, ks, l, h => by
  unfold rgr
  split
  ·split
   ·rw [if_neg (by omega)]
   ·split
    ·exact rgr_many f _ _ _ (by rw [List.length_append, List.length_singleton]; omega)
    ·rfl
  ·rfl
theorem rgr_pgr : ∀ (f : Nat) (j : W) (ks : List Cl) (r : List W), (j = kAnd ∨ j = kOr) → 1 ≤ ks.length → ks.length ≤ 9 → rgr (f + 1) j ks r = (match pcl f r with
      | some (c, r') => pgr f j (ks ++ [c]) r'
      | none => none)
 | 0, _, _, _, _, _, _ => by simp [rgr, pcl]
 | f + 1, j, ks, r, hj, h1, h2 => by
  rw [rgr]
  cases hp : pcl (f + 1) r with
  | none => rfl
  | some x =>
   obtain ⟨c, r'⟩ := x
   cases r' with
   | nil => simp [pgr]
   | cons w r' =>
    have hjn : ¬ j = [] := by rcases hj with rfl | rfl <;> decide
    have hjo : (j = kAnd) ↔ ¬ j = kOr := by rcases hj with rfl | rfl <;> decide
    simp only [pgr]
    by_cases hw : w = [41]
    ·rw [if_pos hw, if_pos hw, if_pos (by omega)]
     by_cases ho : j = kOr
     ·rw [if_pos ho, if_neg (fun h => hjo.1 h ho)]
     ·rw [if_neg ho, if_pos (hjo.2 ho)]
    ·rw [if_neg hw, if_neg hw, List.length_append, List.length_singleton]
     by_cases hwj : w = j
     ·subst hwj
      rw [if_pos ⟨hj, .inr rfl⟩]
      by_cases h10 : ks.length + 1 = 10
      ·rw [if_pos (.inr h10), rgr_many _ _ _ _ (by rw [List.length_append, List.length_singleton]; omega)]
      ·rw [if_neg (by rintro (h | h); exact h rfl; exact h10 h), rgr_pgr f w (ks ++ [c]) r' hj (by rw [List.length_append, List.length_singleton]; omega) (by rw [List.length_append, List.length_singleton]; omega)]
     ·rw [if_neg (by
        rintro ⟨_, h | h⟩
        · exact hjn h
        · exact hwj h.symm), if_pos (.inl hwj)]
theorem rgr_pgp (f : Nat) (ws : List W) : rgr (f + 1) [] [] ws = pgp (f + 1) ws := by
 rw [rgr, pgp]
 cases hp : pcl f ws with
 | none => rfl
 | some x =>
  obtain ⟨c, r'⟩ := x
  cases r' with
  | nil => rfl
  | cons w r =>
   simp only
   by_cases hw : w = [41]
   ·subst hw
    rw [if_pos rfl, if_neg (by simp), if_neg (by decide)]
   ·rw [if_neg hw]
    by_cases hj : w = kAnd ∨ w = kOr
    ·rw [if_pos ⟨hj, by simp⟩, if_pos hj]
     cases f with
     | zero => simp [pcl] at hp
     | succ f =>
      rw [List.nil_append, rgr_pgr f w [c] r hj (by simp) (by simp), pgr, if_neg hw, if_neg (by simp)]
    ·rw [if_neg (fun h => hj h.1), if_neg hj]
/-- What is read of a source. -/
def prs (s : List UInt8) : Option Cl := match pcl (2 * (wds s).length + 2) (wds s) with
 | some (c, []) => some c
 | _ => none
/-- Its claim, or zero; the error. -/
def prsC (s : List UInt8) : Cl := if 20000 < s.length then cl0 else match prs s with
 | some c => if clB c = true then c else cl0
 | none => cl0
def prsE (s : List UInt8) : Int := if 20000 < s.length then 2 else match prs s with
 | some c => if clB c = true then 0 else 1
 | none => 8
end Go.Proofs.YtfjnohmdilmfhaaGreatDoor
