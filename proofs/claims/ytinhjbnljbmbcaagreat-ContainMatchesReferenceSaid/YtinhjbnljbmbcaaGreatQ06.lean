/- Joined. -/
import Derived.Test.YtinhjbnljbmbcaaGreatQ05
import Derived.Test.YtinhjbnljbmbcaaGreatQ02
import Derived.Test.YtinhjbnljbmbcaaGreatQ03
namespace Go.Proofs.YtinhjbnljbmbcaaGreat
open Go Go.RowKit
set_option linter.unusedSimpArgs false
set_option linter.unusedVariables false
inductive Ex where
 | mk (op n : Int) (kids : List Ex)
def Ex.op : Ex → Int | .mk o _ _ => o
def Ex.num : Ex → Int | .mk _ n _ => n
def Ex.kids : Ex → List Ex | .mk _ _ k => k
def ex0 : Ex := .mk 0 0 []
mutual
def erow : Ex → List D
 | .mk o n ks => [.int .i64 o, .int .i64 n, .sl 3 (erows ks) .no]
def erows : List Ex → List (List D)
 | [] => []
 | e :: es => erow e :: erows es
end
theorem erows_map : ∀ l : List Ex, erows l = l.map erow
 | [] => by simp only [erows, List.map_nil]
 | e :: es => by simp only [erows, List.map_cons, erows_map es]
theorem erow_eq (e : Ex) : erow e = [.int .i64 e.op, .int .i64 e.num, .sl 3 (e.kids.map erow) .no] := by
 cases e with
 | mk o n ks => simp only [erow, erows_map, Ex.op, Ex.num, Ex.kids]
def eat (l : List Ex) (i : Nat) : Ex := l.getD i ex0
theorem rowAt_e {l : List Ex} {i : Nat} (h : (i : Int) < (l.length : Int)) : rowAt (l.map erow) i = [.int .i64 (eat l i).op, .int .i64 (eat l i).num, .sl 3 ((eat l i).kids.map erow) .no] := by
 rw [rowAt_map erow ex0 h]; exact erow_eq _
mutual
def exS : Ex → Nat
 | .mk _ _ ks => 1 + exSs ks
def exSs : List Ex → Nat
 | [] => 0
 | e :: es => exS e + exSs es
end
mutual
def exD : Ex → Nat
 | .mk _ _ ks => 1 + exDs ks
def exDs : List Ex → Nat
 | [] => 0
 | e :: es => max (exD e) (exDs es)
end
def opB (o n : Int) (k : Nat) : Bool :=
 if o = 1 then decide (k = 0 ∧ -1000000 ≤ n ∧ n ≤ 1000000)
 else if o = 2 ∨ o = 3 then decide (k = 0 ∧ -10000 ≤ n ∧ n ≤ 10000)
 else if o = 4 then decide (k = 0 ∧ 1 ≤ n ∧ n ≤ 8)
 else if o = 7 then decide (k = 1 ∧ -1000 ≤ n ∧ n ≤ 1000)
 else if o = 8 then decide (k = 1 ∧ 1 ≤ n ∧ n ≤ 1000)
 else if o = 5 ∨ o = 6 ∨ o = 9 ∨ o = 10 then decide (k = 2 ∧ n = 0)
 else false
mutual
def exN : Ex → Bool
 | .mk o n ks => opB o n ks.length && exNs ks
def exNs : List Ex → Bool
 | [] => true
 | e :: es => exN e && exNs es
end
theorem exS_eq (e : Ex) : exS e = 1 + exSs e.kids := by cases e; simp only [exS, Ex.kids]
theorem exD_eq (e : Ex) : exD e = 1 + exDs e.kids := by cases e; simp only [exD, Ex.kids]
theorem exN_eq (e : Ex) : exN e = (opB e.op e.num e.kids.length && exNs e.kids) := by cases e; simp only [exN, Ex.kids, Ex.op, Ex.num]
theorem exS_pos (e : Ex) : 1 ≤ exS e := by rw [exS_eq]; omega
theorem exD_pos (e : Ex) : 1 ≤ exD e := by rw [exD_eq]; omega
theorem exSs_app (a b : List Ex) : exSs (a ++ b) = exSs a + exSs b := by
 induction a with
 | nil => simp only [List.nil_append, exSs, Nat.zero_add]
 | cons e a ih => simp only [List.cons_append, exSs, ih]; omega
theorem exDs_app (a b : List Ex) : exDs (a ++ b) = max (exDs a) (exDs b) := by
 induction a with
 | nil => simp only [List.nil_append, exDs]; omega
 | cons e a ih => simp only [List.cons_append, exDs, ih]; omega
theorem exNs_app (a b : List Ex) : exNs (a ++ b) = (exNs a && exNs b) := by
 induction a with
 | nil => simp only [List.nil_append, exNs, Bool.true_and]
 | cons e a ih => simp only [List.cons_append, exNs, ih, Bool.and_assoc]
theorem take_e {l : List Ex} {i : Nat} (h : i < l.length) : l.take (i + 1) = l.take i ++ [eat l i] := by
 rw [List.take_add_one, List.getElem?_eq_getElem h]
 unfold eat
 rw [List.getD_eq_getElem?_getD, List.getElem?_eq_getElem h]
 rfl
theorem exSs_take {l : List Ex} {i : Nat} (h : i < l.length) : exSs (l.take (i + 1)) = exSs (l.take i) + exS (eat l i) := by rw [take_e h, exSs_app]; simp only [exSs]; omega
theorem exDs_take {l : List Ex} {i : Nat} (h : i < l.length) : exDs (l.take (i + 1)) = max (exDs (l.take i)) (exD (eat l i)) := by rw [take_e h, exDs_app]; simp only [exDs]; omega
theorem exNs_take {l : List Ex} {i : Nat} (h : i < l.length) : exNs (l.take (i + 1)) = (exNs (l.take i) && exN (eat l i)) := by rw [take_e h, exNs_app]; simp only [exNs, Bool.and_true]
theorem exSs_le (l : List Ex) (i : Nat) : exSs (l.take i) ≤ exSs l := by
 have := exSs_app (l.take i) (l.drop i)
 rw [List.take_append_drop] at this
 omega
theorem exDs_le (l : List Ex) (i : Nat) : exDs (l.take i) ≤ exDs l := by
 have := exDs_app (l.take i) (l.drop i)
 rw [List.take_append_drop] at this
 omega
theorem exNs_le {l : List Ex} {i : Nat} (h : exNs (l.take i) = false) : exNs l = false := by
 have := exNs_app (l.take i) (l.drop i)
 rw [List.take_append_drop, h] at this
 simpa using this
theorem exS_at {l : List Ex} {i : Nat} (h : i < l.length) : exS (eat l i) ≤ exSs l := by
 have h1 := exSs_take h
 have h2 := exSs_le l (i + 1)
 omega
theorem exD_at {l : List Ex} {i : Nat} (h : i < l.length) : exD (eat l i) ≤ exDs l := by
 have h1 := exDs_take h
 have h2 := exDs_le l (i + 1)
 omega
theorem exN_at {l : List Ex} {i : Nat} (h : i < l.length) (h2 : exN (eat l i) = false) : exNs l = false := by
 have h1 := exNs_take h
 rw [h2, Bool.and_false] at h1
 exact exNs_le h1
theorem kid_lt {e : Ex} {i : Nat} (h : i < e.kids.length) : exS (eat e.kids i) < exS e := by
 have := exS_at h
 rw [exS_eq e]
 omega
def exB (e : Ex) : Bool := exN e && decide (exD e ≤ 30 ∧ exS e ≤ 100)
abbrev So := Int × Int × Int
def srt : List (Int × So) := [(1, 0, -1000000, 1000000), (2, 0, -10000, 10000), (3, 0, -10000, 10000), (4, 0, 1, 8), (7, 1, -1000, 1000), (8, 1, 1, 1000), (5, 2, 0, 0), (6, 2, 0, 0), (9, 2, 0, 0), (10, 2, 0, 0)]
def soD (s : So) : D := .ag [.int .i64 s.1, .int .i64 s.2.1, .int .i64 s.2.2]
def srtE : List (D × D) := srt.map fun x => (.int .i64 x.1, soD x.2)
def sof (o : Int) : Option So := (srt.find? fun x => decide (o = x.1)).map Prod.snd
def sofB (o : Int) : Bool := (sof o).isSome
def sofT (o : Int) : So := (sof o).getD (0, 0, 0)
theorem srt_get (o : Int) : mget (.int .i64 o) srtE = some (if sofB o = true then some (soD (sofT o)) else none) := by
 unfold srtE sofB sofT sof
 rw [mget_map (fun k => .int .i64 k) soD (fun a b => by simp [keqD]) o]
 cases srt.find? fun x => decide (o = x.1) <;> rfl
theorem srt_look (o : Int) : lookD true (.ag [.int .i64 0, .int .i64 0, .int .i64 0]) (if sofB o = true then some (soD (sofT o)) else none) = .tup [.ag [.int .i64 (sofT o).1, .int .i64 (sofT o).2.1, .int .i64 (sofT o).2.2], .bool (sofB o)] := by
 cases h : sofB o with
 | true => rfl
 | false =>
  have : sof o = none := by
   unfold sofB at h
   cases e : sof o with
   | none => rfl
   | some x => rw [e] at h; cases h
  unfold sofT
  rw [this]; rfl
theorem srt_op (o n : Int) (k : Nat) : opB o n k = (sofB o && decide ((k : Int) = (sofT o).1) && decide ((sofT o).2.1 ≤ n ∧ n ≤ (sofT o).2.2)) := by
 by_cases h1 : o = 1
 ·subst h1; simp [opB, sofT, sofB, sof, srt] <;> rw [Bool.eq_iff_iff] <;> simp <;> omega
 by_cases h2 : o = 2
 ·subst h2; simp [opB, sofT, sofB, sof, srt] <;> rw [Bool.eq_iff_iff] <;> simp <;> omega
 by_cases h3 : o = 3
 ·subst h3; simp [opB, sofT, sofB, sof, srt] <;> rw [Bool.eq_iff_iff] <;> simp <;> omega
 by_cases h4 : o = 4
 ·subst h4; simp [opB, sofT, sofB, sof, srt] <;> rw [Bool.eq_iff_iff] <;> simp <;> omega
 by_cases h5 : o = 5
 ·subst h5; simp [opB, sofT, sofB, sof, srt] <;> rw [Bool.eq_iff_iff] <;> simp <;> omega
 by_cases h6 : o = 6
 ·subst h6; simp [opB, sofT, sofB, sof, srt] <;> rw [Bool.eq_iff_iff] <;> simp <;> omega
 by_cases h7 : o = 7
 ·subst h7; simp [opB, sofT, sofB, sof, srt] <;> rw [Bool.eq_iff_iff] <;> simp <;> omega
 by_cases h8 : o = 8
 ·subst h8; simp [opB, sofT, sofB, sof, srt] <;> rw [Bool.eq_iff_iff] <;> simp <;> omega
 by_cases h9 : o = 9
 ·subst h9; simp [opB, sofT, sofB, sof, srt] <;> rw [Bool.eq_iff_iff] <;> simp <;> omega
 by_cases h10 : o = 10
 ·subst h10; simp [opB, sofT, sofB, sof, srt] <;> rw [Bool.eq_iff_iff] <;> simp <;> omega
 simp [opB, sofB, sofT, sof, srt, h1, h2, h3, h4, h5, h6, h7, h8, h9, h10]
def measB (e : Ex) (d : Nat) : Bool := exN e && decide (d + exD e ≤ 31 ∧ exS e ≤ 100)
theorem exNs_all {l : List Ex} (h : ∀ j, j < l.length → exN (eat l j) = true) : exNs l = true := by
 induction l with
 | nil => rfl
 | cons e l ih =>
  simp only [exNs, Bool.and_eq_true]
  exact ⟨h 0 (by simp), ih fun j hj => h (j + 1) (by simp; omega)⟩
theorem exDs_all {m : Nat} {l : List Ex} (h : ∀ j, j < l.length → exD (eat l j) ≤ m) : exDs l ≤ m := by
 induction l with
 | nil => simp [exDs]
 | cons e l ih =>
  simp only [exDs]
  have h1 := h 0 (by simp)
  have h2 := ih fun j hj => h (j + 1) (by simp; omega)
  have : eat (e :: l) 0 = e := rfl
  rw [this] at h1
  omega
theorem meas_true {e : Ex} {d : Nat} : measB e d = true ↔ exN e = true ∧ d + exD e ≤ 31 ∧ exS e ≤ 100 := by
 unfold measB
 rw [Bool.and_eq_true, decide_eq_true_eq]
theorem meas_end {e : Ex} {d : Nat} (h1 : opB e.op e.num e.kids.length = true) (h2 : d ≤ 30) (h3 : ∀ j, j < e.kids.length → measB (eat e.kids j) (d + 1) = true) (h4 : 1 + exSs e.kids ≤ 100) : measB e d = true := by
 rw [meas_true, exN_eq, exD_eq, exS_eq, h1, Bool.true_and]
 refine ⟨exNs_all fun j hj => (meas_true.1 (h3 j hj)).1, ?_, h4⟩
 have := exDs_all (m := 30 - d) fun j hj => (show exD (eat e.kids j) ≤ 30 - d by have := (meas_true.1 (h3 j hj)).2.1; omega)
 omega
theorem meas_op {e : Ex} {d : Nat} (h : opB e.op e.num e.kids.length = false) : measB e d = false := by
 rw [← Bool.not_eq_true, meas_true, exN_eq, h]
 simp
theorem meas_deep {e : Ex} {d : Nat} (h : 30 < d) : measB e d = false := by
 rw [← Bool.not_eq_true, meas_true]
 have := exD_pos e
 omega
theorem meas_kid {e : Ex} {d i : Nat} (hi : i < e.kids.length) (h : measB (eat e.kids i) (d + 1) = false) : measB e d = false := by
 rw [← Bool.not_eq_true, meas_true] at h ⊢
 rintro ⟨a, b, c⟩
 refine h ⟨?_, ?_, ?_⟩
 ·rw [exN_eq, Bool.and_eq_true] at a
  cases e2 : exN (eat e.kids i) with
  | true => rfl
  | false => rw [exN_at hi e2] at a; cases a.2
 ·have := exD_at hi
  rw [exD_eq] at b
  omega
 ·have := exS_at hi
  rw [exS_eq] at c
  omega
theorem meas_sum {e : Ex} {d i : Nat} (h : 100 < 1 + exSs (e.kids.take i)) : measB e d = false := by
 rw [← Bool.not_eq_true, meas_true]
 rintro ⟨a, b, c⟩
 have := exSs_le e.kids i
 rw [exS_eq] at c
 omega
theorem meas_one (e : Ex) : measB e 1 = exB e := by
 unfold measB exB
 rw [Bool.eq_iff_iff]
 simp only [Bool.and_eq_true, decide_eq_true_eq]
 exact and_congr Iff.rfl (by omega)
def szE (e : Ex) (lv mo : Nat) : Nat := if exD e ≤ lv ∧ exS e ≤ mo then exS e else mo + 1
def szI (e : Ex) (lv mo i n : Nat) : Prop := ((∀ j, j < i → exD (eat e.kids j) + 1 ≤ lv) ∧ 1 + exSs (e.kids.take i) = n ∧ n ≤ mo ∧ 1 ≤ lv) ∨ (n = mo + 1 ∧ ¬ (exD e ≤ lv ∧ exS e ≤ mo))
theorem szE_le (e : Ex) (lv mo : Nat) : szE e lv mo ≤ mo + 1 := by unfold szE; split <;> omega
theorem szE_z {e : Ex} {lv mo : Nat} (h : lv = 0 ∨ mo = 0) : szE e lv mo = mo + 1 := by
 unfold szE
 have := exD_pos e
 have := exS_pos e
 rw [if_neg (by omega)]
theorem szI_zero {e : Ex} {lv mo : Nat} (h : 1 ≤ lv ∧ 1 ≤ mo) : szI e lv mo 0 1 := .inl ⟨fun j hj => by omega, by simp [exSs], h.2, h.1⟩
theorem szI_succ {e : Ex} {lv mo i n : Nat} (h : szI e lv mo i n) (hi : i < e.kids.length) (hn : n ≤ mo) : szI e lv mo (i + 1) (n + szE (eat e.kids i) (lv - 1) (mo - n)) := by
 rcases h with ⟨h1, h2, h3, h4⟩ | ⟨h1, _⟩
 ·by_cases hk : exD (eat e.kids i) ≤ lv - 1 ∧ exS (eat e.kids i) ≤ mo - n
  ·left
   have hs := exSs_take hi
   unfold szE
   rw [if_pos hk]
   refine ⟨fun j hj => ?_, by omega, by omega, h4⟩
   rcases Nat.lt_succ_iff_lt_or_eq.1 hj with h | rfl
   ·exact h1 j h
   ·omega
  ·right
   unfold szE
   rw [if_neg hk]
   refine ⟨by omega, fun hh => hk ⟨?_, ?_⟩⟩
   ·have := exD_at hi
    have := exD_eq e
    omega
   ·have hs := exSs_take hi
    have := exSs_le e.kids (i + 1)
    have := exS_eq e
    omega
 ·omega
theorem szI_end {e : Ex} {lv mo i n : Nat} (h : szI e lv mo i n) (hi : i ≤ e.kids.length) (hn : ¬ (i < e.kids.length ∧ n ≤ mo)) : szE e lv mo = n := by
 unfold szE
 rcases h with ⟨h1, h2, h3, h4⟩ | ⟨h1, h2⟩
 ·obtain rfl : i = e.kids.length := by omega
  rw [List.take_length] at h2
  have h5 := exDs_all (m := lv - 1) fun j hj => (show exD (eat e.kids j) ≤ lv - 1 by have := h1 j hj; omega)
  have := exD_eq e
  have := exS_eq e
  rw [if_pos (by omega)]
  omega
 ·rw [if_neg h2, h1]
theorem exN_true {e : Ex} (h : opB e.op e.num e.kids.length = true) (h2 : ∀ j, j < e.kids.length → exN (eat e.kids j) = true) : exN e = true := by
 rw [exN_eq, h, exNs_all h2]; rfl
theorem exN_op {e : Ex} (h : opB e.op e.num e.kids.length = false) : exN e = false := by rw [exN_eq, h]; rfl
theorem exN_kid {e : Ex} {i : Nat} (hi : i < e.kids.length) (h : exN (eat e.kids i) = false) : exN e = false := by rw [exN_eq, exN_at hi h, Bool.and_false]
structure Tm where
 what : Int
 n : Int
structure Dc where
 prop : Int
 val : Ex
structure Ru where
 lay : Int
 tests : List Ts
 whe : List Tm
 decls : List Dc
def tm0 : Tm := ⟨0, 0⟩
def dc0 : Dc := ⟨0, ex0⟩
def ru0 : Ru := ⟨0, [], [], []⟩
def tmrow (t : Tm) : List D := [.int .i64 t.what, .int .i64 t.n]
def dcrow (d : Dc) : List D := [.int .i64 d.prop, .int .i64 d.val.op, .int .i64 d.val.num, .sl 3 (d.val.kids.map erow) .no]
def rurow (r : Ru) : List D := [.int .i64 r.lay, .sl 4 (r.tests.map trow) .no, .sl 2 (r.whe.map tmrow) .no, .sl 4 (r.decls.map dcrow) .no]
def tmat (l : List Tm) (i : Nat) : Tm := l.getD i tm0
def dcat (l : List Dc) (i : Nat) : Dc := l.getD i dc0
def ruat (l : List Ru) (i : Nat) : Ru := l.getD i ru0
theorem rowAt_tm {l : List Tm} {i : Nat} (h : (i : Int) < (l.length : Int)) : rowAt (l.map tmrow) i = tmrow (tmat l i) := rowAt_map tmrow _ h
theorem rowAt_dc {l : List Dc} {i : Nat} (h : (i : Int) < (l.length : Int)) : rowAt (l.map dcrow) i = dcrow (dcat l i) := rowAt_map dcrow _ h
theorem rowAt_ru {l : List Ru} {i : Nat} (h : (i : Int) < (l.length : Int)) : rowAt (l.map rurow) i = rurow (ruat l i) := rowAt_map rurow _ h
def tmB (t : Tm) : Bool := decide ((1 ≤ t.what ∧ t.what ≤ 7) ∧ (0 ≤ t.n ∧ t.n ≤ 1000000) ∧ (t.what ≠ 5 ∨ t.n < 4))
def dcB (d : Dc) : Bool := decide (1 ≤ d.prop ∧ d.prop ≤ 32) && exB d.val
def ruB (r : Ru) : Bool := decide (0 ≤ r.lay ∧ r.lay ≤ 100) && selB r.tests && decide (r.whe.length ≤ 8) && decide (r.decls.length ≤ 40) && r.whe.all tmB && r.decls.all dcB
def rulesB (l : List Ru) : Bool := decide (l.length ≤ 200) && l.all ruB
theorem all_at {α : Type} {p : α → Bool} {l : List α} (d : α) : l.all p = true ↔ ∀ j, j < l.length → p (l.getD j d) = true := by
 rw [List.all_eq_true]
 constructor
 ·intro h j hj
  rw [List.getD_eq_getElem?_getD, List.getElem?_eq_getElem hj]
  exact h _ (List.getElem_mem hj)
 ·intro h x hx
  obtain ⟨j, hj, rfl⟩ := List.getElem_of_mem hx
  have := h j hj
  rwa [List.getD_eq_getElem?_getD, List.getElem?_eq_getElem hj] at this
theorem all_no {α : Type} {p : α → Bool} {l : List α} (d : α) {j : Nat} (hj : j < l.length) (h : p (l.getD j d) = false) : l.all p = false := by
 cases e : l.all p with
 | false => rfl
 | true =>
  have := (all_at d).1 e j hj
  rw [h] at this
  cases this
def fewX (e : Ex) : Bool := decide (exD e ≤ 40 ∧ exS e ≤ 150)
def fewR (r : Ru) : Bool := decide (r.tests.length ≤ 20 ∧ r.whe.length ≤ 20 ∧ r.decls.length ≤ 45) && r.decls.all fun d => fewX d.val
def fewRs (l : List Ru) : Bool := decide (l.length ≤ 20) && l.all fewR
theorem fix_all {α : Type} (p : α → Bool) (d : α) (l : List α) : decide (0 ≤ fixI (fun x => !p x) l) = !l.all p := by
 rcases fixI_cases (fun x => !p x) l d with ⟨i, h1, h2, _, h3⟩ | ⟨h1, h2⟩
 ·rw [h3, all_no d h1 (by simpa using h2)]
  simp
 ·rw [h2, (all_at d).2 fun j hj => by simpa using h1 j hj]
  rfl
structure Br where
 bef : Int
 beh : Int
 keep : List (List UInt8)
def br0 : Br := ⟨0, 0, []⟩
def srow (s : List UInt8) : List D := [.str s]
def brrow (b : Br) : List D := [.int .i64 b.bef, .int .i64 b.beh, .sl 1 (b.keep.map srow) .no]
def brat (l : List Br) (i : Nat) : Br := l.getD i br0
def kpat (l : List (List UInt8)) (i : Nat) : List UInt8 := l.getD i []
theorem rowAt_br {l : List Br} {i : Nat} (h : (i : Int) < (l.length : Int)) : rowAt (l.map brrow) i = brrow (brat l i) := rowAt_map brrow _ h
theorem rowAt_s {l : List (List UInt8)} {i : Nat} (h : (i : Int) < (l.length : Int)) : rowAt (l.map srow) i = srow (kpat l i) := rowAt_map srow _ h
def smB (c : UInt8) : Bool := decide (97 ≤ c.toNat ∧ c.toNat ≤ 122)
def kpB (l : List (List UInt8)) (i : Nat) : Bool := decide ((kpat l i).length = 2) && smB ((kpat l i).getD 0 0) && smB ((kpat l i).getD 1 0) && decide (kpat l i ∉ l.take i)
def brB (b : Br) : Bool := decide ((1 ≤ b.bef ∧ b.bef ≤ 5) ∧ (1 ≤ b.beh ∧ b.beh ≤ 5) ∧ b.keep.length ≤ 20) && (List.range b.keep.length).all (kpB b.keep)
end Go.Proofs.YtinhjbnljbmbcaaGreat
/- The walks of package font: searches. Printed by a tool of our own. -/
namespace Go.Proofs.YtinhjbnljbmbcaaGreat
open Go Go.RowKit
set_option linter.unusedSimpArgs false
set_option linter.unusedVariables false
set_option maxHeartbeats 4000000
set_option maxRecDepth 100000
abbrev Gl := Int × Int
abbrev Kn := Int × Int × Int
def grow (g : Gl) : List D := [.int .u8 g.1, .int .i64 g.2]
def krow (k : Kn) : List D := [.int .u8 k.1, .int .u8 k.2.1, .int .i64 k.2.2]
def gat (gs : List Gl) (i : Nat) : Gl := gs.getD i (0, 0)
def kat (ks : List Kn) (i : Nat) : Kn := ks.getD i (0, 0, 0)
theorem rowAt_g {gs : List Gl} {i : Nat} (h : (i : Int) < (gs.length : Int)) : rowAt (gs.map grow) i = grow (gat gs i) := rowAt_map grow _ h
theorem rowAt_k {ks : List Kn} {i : Nat} (h : (i : Int) < (ks.length : Int)) : rowAt (ks.map krow) i = krow (kat ks i) := rowAt_map krow _ h
def oi : Option Nat → Int
 | none => -1
 | some i => i
def gidx (gs : List Gl) (b : Int) : Int := oi (gs.findIdx? fun g => decide (g.1 = b))
theorem gidx_some {gs : List Gl} {b : Int} {i : Nat} (h : i < gs.length) (h1 : (gat gs i).1 = b) (h2 : ∀ j, j < i → (gat gs j).1 ≠ b) : gidx gs b = i := by
 unfold gidx
 rw [List.findIdx?_eq_some_iff_getElem.2 ⟨h, by simpa [gat, h] using h1, fun j hj => by have := h2 j hj; simpa [gat, show j < gs.length from by omega] using this⟩]
 rfl
theorem gidx_none {gs : List Gl} {b : Int} (h2 : ∀ j, j < gs.length → (gat gs j).1 ≠ b) : gidx gs b = -1 := by
 unfold gidx
 rw [List.findIdx?_eq_none_iff.2 fun g hg => by
   obtain ⟨j, hj, rfl⟩ := List.getElem_of_mem hg
   simpa [gat, hj] using h2 j hj]
 rfl
def icmp (x y : Int) : Int := if x < y then -1 else if y < x then 1 else 0
def ior (vs : List Int) : Int := (vs.find? fun v => decide (v ≠ 0)).getD 0
def prow (p : Int × Int) : List D := [.int .u8 p.1, .int .u8 p.2]
def kcmp (k : Kn) (p : Int × Int) : Int := ior [icmp k.1 p.1, icmp k.2.1 p.2]
theorem ior_some {vs : List Int} {i : Nat} (h : i < vs.length) (h1 : vs.getD i 0 ≠ 0) (h2 : ∀ j, j < i → vs.getD j 0 = 0) : ior vs = vs.getD i 0 := by
 unfold ior
 have : vs.find? (fun v => decide (v ≠ 0)) = some (vs.getD i 0) := by
  rw [List.find?_eq_some_iff_getElem]
  refine ⟨by simpa using h1, i, h, by simp [h], fun j hj => ?_⟩
  have := h2 j hj
  simp only [List.getD_eq_getElem?_getD, List.getElem?_eq_getElem (show j < vs.length from by omega), Option.getD_some] at this
  simpa using this
 rw [this]; rfl
theorem ior_none {vs : List Int} (h2 : ∀ j, j < vs.length → vs.getD j 0 = 0) : ior vs = 0 := by
 unfold ior
 have : vs.find? (fun v => decide (v ≠ 0)) = none := by
  rw [List.find?_eq_none]
  intro v hv
  obtain ⟨j, hj, rfl⟩ := List.getElem_of_mem hv
  have := h2 j hj
  simp only [List.getD_eq_getElem?_getD, List.getElem?_eq_getElem hj, Option.getD_some] at this
  simpa using this
 rw [this]; rfl
theorem mid_eq {i j : Nat} (h : i + j ≤ 562949953421312) : IntKind.wrap .i64 ((IntKind.wrap .u64 (IntKind.wrap .i64 ((i : Int) + j))).fdiv (2 ^ (min (Int.toNat 1) 64))) = (((i + j) / 2 : Nat) : Int) := by
 rw [w64 (n := (i : Int) + j) (by omega), wu64 (n := (i : Int) + j) (by omega)]
 have e : ((2 : Int) ^ (min (Int.toNat 1) 64)) = 2 := by decide
 rw [e, Int.fdiv_eq_ediv_of_nonneg _ (by omega), w64 (by omega)]
 omega
attribute [local go_sem] List.length_map rowAt_n nrow rowAt_t trow rowAt_i irow
attribute [local go_sem] rowAt_g rowAt_k grow krow prow
theorem rglyph_w (gs : List Gl) (ks : List Kn) (tg tk : Tok) (b : Int) : PCall Tryz.prog (.func 79) [.ag [.sl 2 (gs.map grow) tg, .sl 3 (ks.map krow) tk], .int .u8 b] (.int .i64 (gidx gs b)) := by
 refine PCall.ok fun hok => ?_
 simp only [okAll, D.ok, okRows, and_true, true_and, lim_eq, inR_i64', inR_i32', inR_u8', inR_u16', inR_u64'] at hok
 obtain ⟨⟨⟨hg, hgr⟩, hk, hkr⟩, hb⟩ := hok; rw [List.length_map] at hg hk
 refine PCall.le ?_
 refine fn_ Tryz.func79 (by rfl) (by rfl) (rs := [.tmp 4]) (by rfl) (by simp [Tryz.f79]) ?_
 refine sr_ [1, 2] [2] [] fun κ ξ hκ hξ => ?_
 simp +decide only [go_sem]
 refine hκ _ _ ?_
 refine sq ?_
 refine sr_ [1, 2, 5] [] [] fun κ ξ hκ hξ => ?_
 simp +decide only [go_sem]
 refine hκ _ _ ?_
 refine bl ?_
 refine lp (α := Nat) (fun i => mk [(1, .int .u8 b), (2, .el [.sl 2 (gs.map grow) tg, .sl 3 (ks.map krow) tk]), (5, .int .i64 i)]) (fun _ => []) (fun i => i ≤ gs.length ∧ ∀ j, j < i → (gat gs j).1 ≠ b) (fun i => gs.length - i) 0 ⟨⟨by omega, by intro j hj; omega⟩, EnvLe.of_eq rfl, .refl _⟩ ?_
 rintro i ⟨hi, hj⟩
 refine sq ?_
 refine sr_ [1, 2, 5, 10] [] [] fun κ ξ hκ hξ => ?_
 simp +decide only [go_sem]
 refine hκ _ _ ?_
 refine cd_ (fun c0 => ?_) (fun c0 => ?_)
 ·try simp only [go_sem] at c0
  refine sk ?_
  refine sq ?_
  refine bl ?_
  refine sr_ [1, 2, 5, 20] [] [] fun κ ξ hκ hξ => ?_
  simp +decide only [go_sem, c0]
  repeat with_reducible refine an_ ?_
  refine hκ _ _ ?_
  refine cd_ (fun c1 => ?_) (fun c1 => ?_)
  ·try simp only [go_sem] at c1
   refine sr_ [4] [] [] fun κ ξ hκ hξ => ?_
   simp +decide only [go_sem, c1]
   refine hκ _ _ ?_
   refine rt ?_
   refine retE ?_
   simp +decide only [go_sem, resD, resV, c0, c1]
   congr 1
   rw [gidx_some (by omega) (by assumption) hj]
  ·try simp only [go_sem] at c1
   refine sk ?_
   refine rr_ [1, 2, 5] [] [] fun κ ξ hκ hξ => ?_
   simp +decide only [go_sem, c1]
   refine hκ _ _ ?_
   refine ⟨i + 1, ⟨⟨by omega, ?_⟩, by omega⟩, EnvLe.of_eq (by rw [w64 (by omega)]; rfl), .refl _⟩
   intro j h
   rcases Nat.lt_succ_iff_lt_or_eq.1 h with h | rfl
   ·exact hj j h
   ·assumption
 ·try simp only [go_sem] at c0
  refine ex ?_
  refine sr_ [4] [] [] fun κ ξ hκ hξ => ?_
  simp +decide only [go_sem, c0]
  refine hκ _ _ ?_
  refine rt ?_
  refine retE ?_
  simp +decide only [go_sem, resD, resV, c0]
  congr 1
  rw [gidx_none fun j h => hj j (by omega)]
theorem isnan_w (x : Int) : PCall Tryz.prog (.func 170) [.int .u8 x] (.bool false) := by
 refine PCall.le ?_
 refine fn_ Tryz.func170 (by rfl) (by rfl) (rs := [.tmp 2]) (by rfl) (by simp [Tryz.f170]) ?_
 refine sr_ [0] [] [] fun κ ξ hκ hξ => ?_
 simp +decide only [go_sem]
 refine hκ _ _ ?_
 refine sr_ [2] [] [] fun κ ξ hκ hξ => ?_
 simp +decide only [go_sem]
 refine hκ _ _ ?_
 refine rt ?_
 refine retE ?_
 simp +decide only [go_sem, resD, resV]
 
theorem cmp_w (x y : Int) : PCall Tryz.prog (.func 117) [.int .u8 x, .int .u8 y] (.int .i64 (icmp x y)) := by
 refine PCall.le ?_
 refine fn_ Tryz.func117 (by rfl) (by rfl) (rs := [.tmp 4]) (by rfl) (by simp [Tryz.f117]) ?_
 refine sr_ [0, 1] [] [] fun κ ξ hκ hξ => ?_
 simp +decide only [go_sem]
 refine hκ _ _ ?_
 refine sr_ [0, 1, 5] [] [] fun κ ξ hκ hξ => ?_
 simp +decide only [go_sem]
 refine callF (isnan_w _) ?_
 simp +decide only [go_sem]
 refine hκ _ _ ?_
 refine sr_ [0, 1, 5, 6] [] [] fun κ ξ hκ hξ => ?_
 simp +decide only [go_sem]
 refine callF (isnan_w _) ?_
 simp +decide only [go_sem]
 refine hκ _ _ ?_
 refine sq ?_
 refine sr_ [0, 1, 6, 11] [] [] fun κ ξ hκ hξ => ?_
 simp +decide only [go_sem]
 refine hκ _ _ ?_
 refine cdf (by rfl) ?_
 refine sk ?_
 refine sq ?_
 refine sr_ [0, 1, 13] [] [] fun κ ξ hκ hξ => ?_
 simp +decide only [go_sem]
 refine hκ _ _ ?_
 refine cdf (by rfl) ?_
 refine sk ?_
 refine sq ?_
 refine sr_ [0, 1, 16] [] [] fun κ ξ hκ hξ => ?_
 simp +decide only [go_sem]
 refine hκ _ _ ?_
 refine cd_ (fun c0 => ?_) (fun c0 => ?_)
 ·try simp only [go_sem] at c0
  refine sr_ [4] [] [] fun κ ξ hκ hξ => ?_
  simp +decide only [go_sem, c0]
  refine hκ _ _ ?_
  refine rt ?_
  refine retE ?_
  simp +decide only [go_sem, resD, resV, c0]
  all_goals congr 1
  all_goals unfold icmp
  all_goals (repeat (first | rw [if_pos (by omega)] | rw [if_neg (by omega)]))
 ·try simp only [go_sem] at c0
  refine sk ?_
  refine sq ?_
  refine sr_ [19] [] [] fun κ ξ hκ hξ => ?_
  simp +decide only [go_sem, c0]
  refine hκ _ _ ?_
  refine cd_ (fun c1 => ?_) (fun c1 => ?_)
  ·try simp only [go_sem] at c1
   refine sr_ [4] [] [] fun κ ξ hκ hξ => ?_
   simp +decide only [go_sem, c1]
   refine hκ _ _ ?_
   refine rt ?_
   refine retE ?_
   simp +decide only [go_sem, resD, resV, c0, c1]
   all_goals congr 1
   all_goals unfold icmp
   all_goals (repeat (first | rw [if_pos (by omega)] | rw [if_neg (by omega)]))
  ·try simp only [go_sem] at c1
   refine sk ?_
   refine sr_ [4] [] [] fun κ ξ hκ hξ => ?_
   simp +decide only [go_sem, c1]
   refine hκ _ _ ?_
   refine rt ?_
   refine retE ?_
   simp +decide only [go_sem, resD, resV, c0, c1]
   all_goals congr 1
   all_goals unfold icmp
   all_goals (repeat (first | rw [if_pos (by omega)] | rw [if_neg (by omega)]))
theorem or_w (vs : List Int) (t : Tok) : PCall Tryz.prog (.func 118) [.sl 1 (vs.map irow) t] (.int .i64 (ior vs)) := by
 refine PCall.ok fun hok => ?_
 simp only [okAll, D.ok, okRows, and_true, true_and, lim_eq, inR_i64', inR_i32', inR_u8', inR_u16', inR_u64'] at hok
 rw [List.length_map] at hok; obtain ⟨hl, hr⟩ := hok
 refine PCall.le ?_
 refine fn_ Tryz.func118 (by rfl) (by rfl) (rs := [.tmp 2]) (by rfl) (by simp [Tryz.f118]) ?_
 refine sr_ [0] [] [] fun κ ξ hκ hξ => ?_
 simp +decide only [go_sem]
 refine hκ _ _ ?_
 refine sr_ [0, 3] [] [] fun κ ξ hκ hξ => ?_
 simp +decide only [go_sem]
 refine hκ _ _ ?_
 refine sq ?_
 refine sr_ [3, 6, 7, 8] [] [] fun κ ξ hκ hξ => ?_
 simp +decide only [go_sem]
 refine hκ _ _ ?_
 refine bl ?_
 refine lp (α := Nat) (fun i => mk [(3, .int .i64 0), (6, .sl 1 (vs.map irow) t), (7, .int .i64 vs.length), (8, .int .i64 i)]) (fun _ => []) (fun i => i ≤ vs.length ∧ ∀ j, j < i → vs.getD j 0 = 0) (fun i => vs.length - i) 0 ⟨⟨by omega, by intro j hj; omega⟩, EnvLe.of_eq rfl, .refl _⟩ ?_
 rintro i ⟨hi, hj⟩
 refine sr_ [3, 6, 7, 8, 9] [] [] fun κ ξ hκ hξ => ?_
 simp +decide only [go_sem]
 refine hκ _ _ ?_
 refine sq ?_
 refine cd_ (fun c0 => ?_) (fun c0 => ?_)
 ·try simp only [go_sem] at c0
  refine sk ?_
  refine sq ?_
  refine bl ?_
  refine sr_ [3, 5, 6, 7, 8] [] [] fun κ ξ hκ hξ => ?_
  simp +decide only [go_sem, c0]
  repeat with_reducible refine an_ ?_
  refine hκ _ _ ?_
  refine sr_ [3, 5, 6, 7, 8, 14] [] [] fun κ ξ hκ hξ => ?_
  simp +decide only [go_sem]
  refine hκ _ _ ?_
  refine cd_ (fun c1 => ?_) (fun c1 => ?_)
  ·try simp only [go_sem] at c1
   refine sr_ [2] [] [] fun κ ξ hκ hξ => ?_
   simp +decide only [go_sem, c1]
   refine hκ _ _ ?_
   refine rt ?_
   refine retE ?_
   simp +decide only [go_sem, resD, resV, c0, c1]
   all_goals congr 1
   all_goals rw [ior_some (by omega) (by assumption) hj]
   all_goals rfl
  ·try simp only [go_sem] at c1
   refine sk ?_
   refine rr_ [3, 6, 7, 8] [] [] fun κ ξ hκ hξ => ?_
   simp +decide only [go_sem, c1]
   refine hκ _ _ ?_
   refine ⟨i + 1, ⟨⟨by omega, ?_⟩, by omega⟩, EnvLe.of_eq (by rw [w64 (by omega)]; rfl), .refl _⟩
   intro j h
   rcases Nat.lt_succ_iff_lt_or_eq.1 h with h | rfl
   ·exact hj j h
   ·assumption
 ·try simp only [go_sem] at c0
  refine ex ?_
  refine sr_ [2] [] [] fun κ ξ hκ hξ => ?_
  simp +decide only [go_sem, c0]
  refine hκ _ _ ?_
  refine rt ?_
  refine retE ?_
  simp +decide only [go_sem, resD, resV, c0]
  all_goals congr 1
  all_goals rw [ior_none fun j h => hj j (by omega)]
theorem gcmp_w (g : Gl) (b : Int) : PCall Tryz.prog (.func 116) [.ag (grow g), .int .u8 b] (.int .i64 (icmp g.1 b)) := by
 refine PCall.le ?_
 refine fn_ Tryz.func116 (by rfl) (by rfl) (rs := [.tmp 4]) (by rfl) (by simp [Tryz.f116]) ?_
 refine sr_ [1, 2] [2] [] fun κ ξ hκ hξ => ?_
 simp +decide only [go_sem]
 refine hκ _ _ ?_
 refine sr_ [4] [] [] fun κ ξ hκ hξ => ?_
 simp +decide only [go_sem]
 refine callF (cmp_w _ _) ?_
 simp +decide only [go_sem]
 refine hκ _ _ ?_
 refine rt ?_
 refine retE ?_
 simp +decide only [go_sem, resD, resV]
 
theorem kcmp_w (k : Kn) (p : Int × Int) : PCall Tryz.prog (.func 71) [.ag (krow k), .ag (prow p)] (.int .i64 (kcmp k p)) := by
 refine PCall.le ?_
 refine fn_ Tryz.func71 (by rfl) (by rfl) (rs := [.tmp 4]) (by rfl) (by simp [Tryz.f71]) ?_
 refine sr_ [2, 3] [2, 3] [] fun κ ξ hκ hξ => ?_
 simp +decide only [go_sem]
 refine hκ _ _ ?_
 refine srd_ [4] [] [9, 14, 16] [] fun κ ξ hκ hξ => ?_
 simp +decide only [go_sem]
 refine scallF (cmp_w _ _) ?_
 simp +decide only [go_sem]
 refine scallF (cmp_w _ _) ?_
 simp +decide only [go_sem]
 refine scallF (or_w [_, _] _) ?_
 simp +decide only [go_sem]
 refine hκ _ _ ?_
 refine rt ?_
 refine retE ?_
 simp +decide only [go_sem, resD, resV]
 all_goals rfl
theorem bsg_w (gs : List Gl) (t : Tok) (b : Int) (hn : gs.length ≤ 1000) (m : Nat) (hm : m ≤ gs.length) (hlo : ∀ k, k < m → icmp (gat gs k).1 b < 0) (hhi : ∀ k, m ≤ k → k < gs.length → 0 ≤ icmp (gat gs k).1 b) : PCall Tryz.prog (.func 169) [.sl 2 (gs.map grow) t, .int .u8 b, .fn (.func 116) [] []] (.tup [.int .i64 m, .bool (decide (m < gs.length ∧ icmp (gat gs m).1 b = 0))]) := by
 refine PCall.ok fun hok => ?_
 simp only [okAll, D.ok, okRows, and_true, true_and, lim_eq, inR_i64', inR_i32', inR_u8', inR_u16', inR_u64'] at hok
 rw [List.length_map] at hok; obtain ⟨⟨hl, hr⟩, hb⟩ := hok
 refine PCall.le ?_
 refine fn_ Tryz.func169 (by rfl) (by rfl) (rs := [.tmp 6, .tmp 7]) (by rfl) (by simp [Tryz.f169]) ?_
 refine sr_ [0, 1, 2] [] [] fun κ ξ hκ hξ => ?_
 simp +decide only [go_sem]
 refine hκ _ _ ?_
 refine sr_ [0, 1, 2, 8] [] [] fun κ ξ hκ hξ => ?_
 simp +decide only [go_sem]
 refine hκ _ _ ?_
 refine sr_ [0, 1, 2, 8, 9, 10] [] [] fun κ ξ hκ hξ => ?_
 simp +decide only [go_sem]
 refine hκ _ _ ?_
 refine sq ?_
 refine bl ?_
 refine lp (α := Nat × Nat) (fun x => mk [(0, .sl 2 (gs.map grow) t), (1, .int .u8 b), (2, .fn (.func 116) [] []), (8, .int .i64 gs.length), (9, .int .i64 x.1), (10, .int .i64 x.2)]) (fun _ => []) (fun x => x.1 ≤ x.2 ∧ x.2 ≤ gs.length ∧ x.1 ≤ m ∧ m ≤ x.2) (fun x => x.2 - x.1) (0, gs.length) ⟨⟨by omega, by omega, by omega, by omega⟩, EnvLe.of_eq rfl, .refl _⟩ ?_
 rintro ⟨i, j⟩ ⟨h1, h2, h3, h4⟩
 simp only at h1 h2 h3 h4
 refine sq ?_
 refine sr_ [0, 1, 2, 8, 9, 10, 17] [] [] fun κ ξ hκ hξ => ?_
 simp +decide only [go_sem]
 refine hκ _ _ ?_
 refine cd_ (fun c0 => ?_) (fun c0 => ?_)
 ·simp only [go_sem] at c0
  refine sk ?_
  refine bl ?_
  refine sr_ [0, 1, 2, 8, 9, 10, 11] [] [] fun κ ξ hκ hξ => ?_
  simp +decide only [go_sem, c0]
  simp only [mid_eq (show i + j ≤ 562949953421312 by omega)]
  have hmid : (((i + j) / 2 : Nat) : Int) < gs.length := by omega
  refine hκ _ _ ?_
  refine sr_ [0, 1, 2, 8, 9, 10, 11, 31] [] [] fun κ ξ hκ hξ => ?_
  simp +decide only [go_sem, hmid]
  repeat with_reducible refine an_ ?_
  refine callF (gcmp_w _ _) ?_
  simp +decide only [go_sem]
  refine hκ _ _ ?_
  refine cd_ (fun c1 => ?_) (fun c1 => ?_)
  ·try simp only [go_sem] at c1
   refine rr_ [0, 1, 2, 8, 9, 10] [] [] fun κ ξ hκ hξ => ?_
   simp +decide only [go_sem, c1]
   refine hκ _ _ ?_
   refine ⟨((i + j) / 2 + 1, j), ⟨⟨by omega, by omega, ?_, by omega⟩, by omega⟩, EnvLe.of_eq (by rw [w64 (by omega)]; rfl), .refl _⟩
   refine Nat.lt_of_not_le fun h => ?_
   have := hhi _ h (by omega)
   omega
  ·try simp only [go_sem] at c1
   refine rr_ [0, 1, 2, 8, 9, 10] [] [] fun κ ξ hκ hξ => ?_
   simp +decide only [go_sem, c1]
   refine hκ _ _ ?_
   refine ⟨(i, (i + j) / 2), ⟨⟨by omega, by omega, by omega, ?_⟩, by omega⟩, EnvLe.of_eq rfl, .refl _⟩
   refine Nat.le_of_not_lt fun h => ?_
   simp only at h
   have := hlo _ h
   omega
 ·simp only [go_sem] at c0
  obtain rfl : m = i := by omega
  refine ex ?_
  refine sr_ [6, 7] [] [(4, 39)] fun κ ξ hκ hξ => ?_
  simp +decide only [go_sem, c0]
  repeat with_reducible refine an_ ?_
  refine vo_gc ?_; simp +decide only [go_sem, c0]
  refine gcallF (d := .int .i64 (icmp (gat gs m).1 b)) (fun hg => ⟨by first | rfl | (simp +decide only [go_sem, hg]; done) | trace_state, ?_⟩) ?_
  ·have hg' : (m : Int) < gs.length := of_decide_eq_true hg
   simp only [go_sem, hg']; exact gcmp_w _ _
  simp +decide only [go_sem]
  refine hκ _ _ ?_
  refine rt ?_
  refine retE ?_
  simp +decide only [go_sem, resD, resV, c0]
  simp only [Int.ofNat_lt, Bool.decide_and]
theorem findg_w (gs : List Gl) (t : Tok) (b : Int) (hn : gs.length ≤ 1000) (m : Nat) (hm : m ≤ gs.length) (hlo : ∀ k, k < m → icmp (gat gs k).1 b < 0) (hhi : ∀ k, m ≤ k → k < gs.length → 0 ≤ icmp (gat gs k).1 b) : PCall Tryz.prog (.func 115) [.sl 2 (gs.map grow) t, .int .u8 b, .fn (.func 116) [] []] (.tup [.ag (grow (if m < gs.length ∧ icmp (gat gs m).1 b = 0 then gat gs m else (0, 0))), .bool (decide (m < gs.length ∧ icmp (gat gs m).1 b = 0))]) := by
 refine PCall.le ?_
 refine fn_ Tryz.func115 (by rfl) (by rfl) (rs := [.cell 6 132, .tmp 7]) (by rfl) (by simp [Tryz.f115]) ?_
 refine sr_ [0, 1, 2, 6] [] [] fun κ ξ hκ hξ => ?_
 simp +decide only [go_sem]
 intro b6 hb6
 refine hκ _ _ ?_
 refine sr_ [0, 6, 8, 9] [] [] fun κ ξ hκ hξ => ?_
 simp +decide only [go_sem]
 refine callF (bsg_w gs t b hn m hm hlo hhi) ?_
 simp +decide only [go_sem]
 refine hκ _ _ ?_
 refine sq ?_
 refine sr_ [0, 6, 8, 19] [] [] fun κ ξ hκ hξ => ?_
 simp +decide only [go_sem]
 refine hκ _ _ ?_
 refine cd_ (fun c0 => ?_) (fun c0 => ?_)
 ·simp only [go_sem] at c0
  refine sr_ [6, 10] [10] [] fun κ ξ hκ hξ => ?_
  simp +decide only [go_sem, c0]
  refine hκ _ _ ?_
  refine sr_ [6, 7] [] [] fun κ ξ hκ hξ => ?_
  simp +decide only [go_sem]
  refine hκ _ _ ?_
  refine rt ?_
  refine retE ?_
  simp +decide only [go_sem, resD, resV, hb6, c0]
  all_goals (rw [if_neg (by omega), decide_eq_false (by omega)]; try rfl)
 ·simp only [go_sem] at c0
  have c1 : (m : Int) < gs.length := by omega
  refine sk ?_
  refine sr_ [6, 7] [] [] fun κ ξ hκ hξ => ?_
  simp +decide only [go_sem, c0, c1]
  repeat with_reducible refine an_ ?_
  refine hκ _ _ ?_
  refine rt ?_
  refine retE ?_
  simp +decide only [go_sem, resD, resV, hb6, c0, c1]
  all_goals (rw [if_pos (by omega), decide_eq_true (by omega)]; try rfl)
theorem glyph_w (gs : List Gl) (ks : List Kn) (tg tk : Tok) (b : Int) (hn : gs.length ≤ 1000) (m : Nat) (hm : m ≤ gs.length) (hlo : ∀ k, k < m → icmp (gat gs k).1 b < 0) (hhi : ∀ k, m ≤ k → k < gs.length → 0 ≤ icmp (gat gs k).1 b) : PCall Tryz.prog (.func 70) [.ag [.sl 2 (gs.map grow) tg, .sl 3 (ks.map krow) tk], .int .u8 b] (.tup [.ag (grow (if m < gs.length ∧ icmp (gat gs m).1 b = 0 then gat gs m else (0, 0))), .bool (decide (m < gs.length ∧ icmp (gat gs m).1 b = 0))]) := by
 refine PCall.le ?_
 refine fn_ Tryz.func70 (by rfl) (by rfl) (rs := [.cell 4 132, .tmp 5]) (by rfl) (by simp [Tryz.f70]) ?_
 refine sr_ [1, 2, 4] [2] [] fun κ ξ hκ hξ => ?_
 simp +decide only [go_sem]
 intro b4 hb4
 refine hκ _ _ ?_
 refine sr_ [4, 5] [] [] fun κ ξ hκ hξ => ?_
 simp +decide only [go_sem]
 refine callF (findg_w gs _ b hn m hm hlo hhi) ?_
 simp +decide only [go_sem]
 refine hκ _ _ ?_
 refine rt ?_
 refine retE ?_
 simp +decide only [go_sem, resD, resV, hb4]
 
end Go.Proofs.YtinhjbnljbmbcaaGreat
/- Plain facts of fonts: sorted lists, what is found in them, what a valid font is. -/
namespace Go.Proofs.YtinhjbnljbmbcaaGreat
open Go Go.RowKit
set_option linter.unusedSimpArgs false
set_option linter.unusedVariables false
def gsorted (gs : List Gl) : Prop := ∀ i j, i < j → j < gs.length → (gat gs i).1 < (gat gs j).1
def klt (a b : Int × Int) : Prop := a.1 < b.1 ∨ (a.1 = b.1 ∧ a.2 < b.2)
def kp (k : Kn) : Int × Int := (k.1, k.2.1)
theorem icmp_lt {x y : Int} : icmp x y < 0 ↔ x < y := by unfold icmp; split <;> (try split) <;> omega
theorem icmp_eq {x y : Int} : icmp x y = 0 ↔ x = y := by unfold icmp; split <;> (try split) <;> omega
theorem icmp_ge {x y : Int} : 0 ≤ icmp x y ↔ y ≤ x := by unfold icmp; split <;> (try split) <;> omega
theorem kcmp_eq' (k : Kn) (p : Int × Int) : kcmp k p = if icmp k.1 p.1 = 0 then icmp k.2.1 p.2 else icmp k.1 p.1 := by
 unfold kcmp ior
 by_cases h : icmp k.1 p.1 = 0
 ·rw [if_pos h]
  by_cases h2 : icmp k.2.1 p.2 = 0 <;> simp [List.find?, h, h2]
 ·rw [if_neg h]
  simp [List.find?, h]
theorem kcmp_lt {k : Kn} {p : Int × Int} : kcmp k p < 0 ↔ klt (kp k) p := by
 rw [kcmp_eq']; unfold klt kp icmp
 simp only []
 repeat' split
 all_goals omega
theorem chain_lt {α : Type} {lt : α → α → Prop} (ht : ∀ a b c, lt a b → lt b c → lt a c) {f : Nat → α} {n : Nat} (h : ∀ i, 0 < i → i < n → lt (f (i - 1)) (f i)) : ∀ j i, i < j → j < n → lt (f i) (f j)
 | 0, _, hi, _ => by omega
 | j + 1, i, hi, hj => by
  have h1 := h (j + 1) (by omega) hj
  rw [Nat.add_sub_cancel] at h1
  rcases Nat.lt_or_ge i j with hlt | hge
  ·exact ht _ _ _ (chain_lt ht h j i hlt (by omega)) h1
  ·have : i = j := by omega
   subst this; exact h1
theorem low_m (q : Nat → Bool) (n : Nat) (hmono : ∀ i j, i < j → j < n → q j = true → q i = true) : ∃ m, m ≤ n ∧ (∀ k, k < m → q k = true) ∧ ∀ k, m ≤ k → k < n → q k = false := by
 induction n with
 | zero => exact ⟨0, by omega, by omega, by omega⟩
 | succ n ih =>
  obtain ⟨m, h1, h2, h3⟩ := ih fun i j hi hj => hmono i j hi (by omega)
  cases hq : q n with
  | true => exact ⟨n + 1, by omega, fun k hk => by
      rcases Nat.lt_or_ge k n with h | h
      · exact hmono k n h (by omega) hq
      · rwa [show k = n by omega], by omega⟩
  | false => exact ⟨m, by omega, h2, fun k hk hk2 => by
      rcases Nat.lt_or_ge k n with h | h
      · exact h3 k hk h
      · rwa [show k = n by omega]⟩
theorem gm {gs : List Gl} (hs : gsorted gs) (b : Int) : ∃ m, m ≤ gs.length ∧ (∀ k, k < m → icmp (gat gs k).1 b < 0) ∧ ∀ k, m ≤ k → k < gs.length → 0 ≤ icmp (gat gs k).1 b := by
 obtain ⟨m, h1, h2, h3⟩ := low_m (fun k => decide ((gat gs k).1 < b)) gs.length fun i j hi hj h => by
  have := hs i j hi hj
  simp only [decide_eq_true_eq] at h ⊢
  omega
 refine ⟨m, h1, fun k hk => icmp_lt.2 (of_decide_eq_true (h2 k hk)), fun k hk hk2 => icmp_ge.2 ?_⟩
 have := of_decide_eq_false (h3 k hk hk2)
 omega
theorem gidx_cases (gs : List Gl) (b : Int) : (∃ i, i < gs.length ∧ (gat gs i).1 = b ∧ gidx gs b = i) ∨ ((∀ j, j < gs.length → (gat gs j).1 ≠ b) ∧ gidx gs b = -1) := by
 by_cases h : ∀ j, j < gs.length → (gat gs j).1 ≠ b
 ·exact .inr ⟨h, gidx_none h⟩
 ·have : ∃ j, j < gs.length ∧ (gat gs j).1 = b := by
   refine Classical.byContradiction fun hn => h fun j hj e => hn ⟨j, hj, e⟩
  obtain ⟨j, hj, e⟩ := this
  obtain ⟨m, h1, h2, h3⟩ : ∃ m, m ≤ j ∧ (gat gs m).1 = b ∧ ∀ k, k < m → (gat gs k).1 ≠ b := by
   clear h
   induction j using Nat.strongRecOn with
   | _ j ih =>
    by_cases hk : ∃ k, k < j ∧ (gat gs k).1 = b
    ·obtain ⟨k, hk1, hk2⟩ := hk
     obtain ⟨m, a1, a2, a3⟩ := ih k hk1 (by omega) hk2
     exact ⟨m, by omega, a2, a3⟩
    ·exact ⟨j, Nat.le_refl _, e, fun k hk1 hk2 => hk ⟨k, hk1, hk2⟩⟩
  exact .inl ⟨m, by omega, h2, gidx_some (by omega) h2 h3⟩
def gget (gs : List Gl) (b : Int) : Gl := if 0 ≤ gidx gs b then gat gs (gidx gs b).toNat else (0, 0)
theorem glyph_s {gs : List Gl} {ks : List Kn} {tg tk : Tok} {b : Int} (hn : gs.length ≤ 1000) (hs : gsorted gs) :
  PCall Tryz.prog (.func 70) [.ag [.sl 2 (gs.map grow) tg, .sl 3 (ks.map krow) tk], .int .u8 b] (.tup [.ag (grow (gget gs b)), .bool (decide (0 ≤ gidx gs b))]) := by
 obtain ⟨m, h1, h2, h3⟩ := gm hs b
 have h := glyph_w gs ks tg tk b hn m h1 h2 h3
 rcases gidx_cases gs b with ⟨i, hi, e, hg⟩ | ⟨hn, hg⟩
 ·have hm : m = i := by
   rcases Nat.lt_trichotomy m i with hlt | rfl | hgt
   ·have a := h3 m (Nat.le_refl _) (by omega)
    have c := hs m i hlt hi
    rw [icmp_ge] at a; omega
   ·rfl
   ·have a := h2 i hgt
    rw [icmp_lt] at a; omega
  subst hm
  rw [if_pos ⟨hi, icmp_eq.2 e⟩, decide_eq_true (And.intro hi (icmp_eq.2 e))] at h
  unfold gget
  rw [hg, if_pos (by omega), decide_eq_true (by omega), Int.toNat_natCast]
  exact h
 ·have hP : ¬ (m < gs.length ∧ icmp (gat gs m).1 b = 0) := fun hh => hn m hh.1 (icmp_eq.1 hh.2)
  rw [if_neg hP, decide_eq_false hP] at h
  unfold gget
  rw [hg, if_neg (by omega), decide_eq_false (by omega)]
  exact h
def gok (gs : List Gl) (i : Nat) : Prop := 32 ≤ (gat gs i).1 ∧ (gat gs i).1 < 126 ∧ 0 ≤ (gat gs i).2 ∧ (gat gs i).2 ≤ 1000 ∧ (0 < i → (gat gs (i - 1)).1 < (gat gs i).1)
def kok (gs : List Gl) (ks : List Kn) (i : Nat) : Prop := 0 ≤ gidx gs (kat ks i).1 ∧ 0 ≤ gidx gs (kat ks i).2.1 ∧ (kat ks i).2.2 ≤ 1000 ∧ -(gget gs (kat ks i).1).2 ≤ (kat ks i).2.2 ∧ (0 < i → klt (kp (kat ks (i - 1))) (kp (kat ks i)))
def fokP (gs : List Gl) (ks : List Kn) : Prop := (gs.length ≤ 94 ∧ ks.length ≤ 200) ∧ (∀ i, i < gs.length → gok gs i) ∧ ∀ i, i < ks.length → kok gs ks i
noncomputable def fok (gs : List Gl) (ks : List Kn) : Bool := @decide (fokP gs ks) (Classical.propDecidable _)
theorem fok_true {gs : List Gl} {ks : List Kn} : fok gs ks = true ↔ fokP gs ks := by unfold fok; exact @decide_eq_true_iff _ (Classical.propDecidable _)
theorem fok_false {gs : List Gl} {ks : List Kn} : fok gs ks = false ↔ ¬ fokP gs ks := by unfold fok; exact @decide_eq_false_iff_not _ (Classical.propDecidable _)
theorem fok_sorted {gs : List Gl} (h : ∀ i, i < gs.length → gok gs i) : gsorted gs := fun i j hi hj =>
 chain_lt (lt := fun a b : Gl => a.1 < b.1) (fun _ _ _ h h' => Int.lt_trans h h') (f := gat gs) (n := gs.length) (fun i hi hn => (h i hn).2.2.2.2 hi) j i hi hj
end Go.Proofs.YtinhjbnljbmbcaaGreat
/- Plain data of documents and versions. -/
namespace Go.Proofs.YtinhjbnljbmbcaaGreat
open Go Go.RowKit
set_option linter.unusedSimpArgs false
set_option linter.unusedVariables false
def bwB (n : Int) : Bool := decide (1 ≤ n ∧ n ≤ 5)
theorem br_true {b : Br} : brB b = true ↔ ((1 ≤ b.bef ∧ b.bef ≤ 5) ∧ (1 ≤ b.beh ∧ b.beh ≤ 5) ∧ b.keep.length ≤ 20) ∧ ∀ j, j < b.keep.length → kpB b.keep j = true := by
 unfold brB
 simp only [Bool.and_eq_true, decide_eq_true_eq, List.all_eq_true, List.mem_range]
theorem br_no {b : Br} {i : Nat} (hi : i < b.keep.length) (h : kpB b.keep i = false) : brB b = false := by
 rw [← Bool.not_eq_true, br_true]
 intro hh
 rw [hh.2 i hi] at h
 cases h
theorem kp_true {l : List (List UInt8)} {i : Nat} : kpB l i = true ↔ ((kpat l i).length = 2 ∧ (97 ≤ ((kpat l i).getD 0 0).toNat ∧ ((kpat l i).getD 0 0).toNat ≤ 122) ∧ (97 ≤ ((kpat l i).getD 1 0).toNat ∧ ((kpat l i).getD 1 0).toNat ≤ 122)) ∧ kpat l i ∉ l.take i := by
 unfold kpB smB
 simp only [Bool.and_eq_true, decide_eq_true_eq, and_assoc]
def kpE (l : List (List UInt8)) (i : Nat) : List (D × D) := (l.take i).map fun s => (.str s, .bool true)
theorem kpE_get (l : List (List UInt8)) (i : Nat) (k : List UInt8) : mget (.str k) (kpE l i) = some (if k ∈ l.take i then some (.bool true) else none) := by
 unfold kpE
 induction l.take i with
 | nil => rfl
 | cons s l ih =>
  simp only [List.map_cons, mget, keqD]
  by_cases h : k = s
  ·simp [h]
  ·simp only [h, decide_false, ih]
   simp [h]
theorem kpE_look (l : List (List UInt8)) (i : Nat) (k : List UInt8) : lookD false (.bool false) (if k ∈ l.take i then some (.bool true) else none) = .bool (decide (k ∈ l.take i)) := by
 by_cases h : k ∈ l.take i
 ·rw [if_pos h, lookD_fs, decide_eq_true h]
 ·rw [if_neg h, lookD_fn, decide_eq_false h]
theorem mput_new {k v : D} : ∀ {l : List (D × D)}, (∀ x ∈ l, keqD k x.1 = some false) → mput k v l = some (l ++ [(k, v)])
 | [], _ => rfl
 | x :: l, h => by
  have h1 := h x (by simp)
  have ih := mput_new (k := k) (v := v) (l := l) fun z hz => h z (List.mem_cons_of_mem _ hz)
  simp only [mput, h1, ih, Option.map_some, List.cons_append]
theorem kpE_put {l : List (List UInt8)} {i : Nat} (hi : i < l.length) (h : kpat l i ∉ l.take i) : mput (.str (kpat l i)) (.bool true) (kpE l i) = some (kpE l (i + 1)) := by
 unfold kpE
 rw [mput_new fun x hx => ?_]
 ·rw [List.take_add_one, List.getElem?_eq_getElem hi, List.map_append]
  unfold kpat
  rw [List.getD_eq_getElem?_getD, List.getElem?_eq_getElem hi]
  rfl
 ·obtain ⟨s, hs, rfl⟩ := List.mem_map.1 hx
  simp only [keqD]
  rw [decide_eq_false]
  rintro rfl
  exact h hs
theorem kp_notin {l : List (List UInt8)} {i : Nat} (hi : i ≤ l.length) (h : ∀ j, j < i → kpat l j ≠ kpat l i) : kpat l i ∉ l.take i := by
 intro hh
 obtain ⟨j, hj, e⟩ := List.getElem_of_mem hh
 rw [List.length_take] at hj
 refine h j (by omega) ?_
 rw [List.getElem_take] at e
 unfold kpat at e ⊢
 rw [← e, List.getD_eq_getElem?_getD, List.getElem?_eq_getElem (by omega)]
 rfl
theorem kp_in {l : List (List UInt8)} {i j : Nat} (hj : j < i) (hi : i < l.length) (h : kpat l j = kpat l i) : kpat l i ∈ l.take i := by
 rw [← h]
 unfold kpat
 rw [List.getD_eq_getElem?_getD, List.getElem?_eq_getElem (by omega)]
 exact List.mem_take_iff_getElem.2 ⟨j, by omega, rfl⟩
structure Fo where
 gs : List Gl
 ks : List Kn
structure Do where
 nodes : List Nd
 rules : List Ru
 fonts : List Fo
 breaks : List Br
structure Ve where
 num : Int
 holds : Int
 doc : Do
def fo0 : Fo := ⟨[], []⟩
def do0 : Do := ⟨[], [], [], []⟩
def ve0 : Ve := ⟨0, 0, do0⟩
def forow (f : Fo) : List D := [.sl 2 (f.gs.map grow) .no, .sl 3 (f.ks.map krow) .no]
def dorow (d : Do) : List D := [.sl 5 (d.nodes.map nrow) .no, .sl 4 (d.rules.map rurow) .no, .sl 2 (d.fonts.map forow) .no, .sl 3 (d.breaks.map brrow) .no]
def verow (v : Ve) : List D := [.int .i64 v.num, .int .i64 v.holds, .sl 5 (v.doc.nodes.map nrow) .no, .sl 4 (v.doc.rules.map rurow) .no, .sl 2 (v.doc.fonts.map forow) .no, .sl 3 (v.doc.breaks.map brrow) .no]
def foat (l : List Fo) (i : Nat) : Fo := l.getD i fo0
def veat (l : List Ve) (i : Nat) : Ve := l.getD i ve0
theorem rowAt_fo {l : List Fo} {i : Nat} (h : (i : Int) < (l.length : Int)) : rowAt (l.map forow) i = forow (foat l i) := rowAt_map forow _ h
theorem rowAt_ve {l : List Ve} {i : Nat} (h : (i : Int) < (l.length : Int)) : rowAt (l.map verow) i = verow (veat l i) := rowAt_map verow _ h
noncomputable def fokB (f : Fo) : Bool := fok f.gs f.ks
def fewF (f : Fo) : Bool := decide (f.gs.length ≤ 100 ∧ f.ks.length ≤ 210)
noncomputable def docB (d : Do) : Bool := decide ((1 ≤ d.fonts.length ∧ d.fonts.length ≤ 8) ∧ d.breaks.length = 4) && treB d.nodes && rulesB d.rules && d.fonts.all fokB && d.breaks.all brB
def fewD (d : Do) : Bool := decide (d.nodes.length ≤ 20) && fewRs d.rules && decide (d.fonts.length ≤ 10) && decide (d.breaks.length ≤ 6) && d.fonts.all fewF && (d.breaks.all fun b => decide (b.keep.length ≤ 30)) && d.nodes.all fun n => decide (n.txt.length ≤ 200)
end Go.Proofs.YtinhjbnljbmbcaaGreat
/- Plain facts of versions. -/
namespace Go.Proofs.YtinhjbnljbmbcaaGreat
open Go Go.RowKit
set_option linter.unusedSimpArgs false
set_option linter.unusedVariables false
section
variable {P : Program} {σ : Store}
end
def held (v : Ve) (by_ : Int) : Ve := ⟨v.num, v.holds + by_, v.doc⟩
end Go.Proofs.YtinhjbnljbmbcaaGreat
/- Joined. -/
namespace Go.Proofs.YtinhjbnljbmbcaaGreat
open Go Go.RowKit
set_option linter.unusedSimpArgs false
set_option linter.unusedVariables false
def fmX (e : Ex) (L : Nat) (m : Int) : Bool := exN e && decide (exD e ≤ L ∧ (exS e : Int) ≤ m)
theorem fmX_true {e : Ex} {L : Nat} {m : Int} : fmX e L m = true ↔ exN e = true ∧ exD e ≤ L ∧ (exS e : Int) ≤ m := by
 unfold fmX
 rw [Bool.and_eq_true, decide_eq_true_eq]
theorem fmX_all (e : Ex) : fmX e 30 100 = exB e := by
 rw [Bool.eq_iff_iff, fmX_true]
 unfold exB
 rw [Bool.and_eq_true, decide_eq_true_eq]
 exact and_congr Iff.rfl (by omega)
theorem fmX_no {e : Ex} {L : Nat} {m : Int} (h : opB e.op e.num e.kids.length = false ∨ L = 0 ∨ m < 1) : fmX e L m = false := by
 rw [← Bool.not_eq_true, fmX_true, exN_eq]
 rintro ⟨a, b, c⟩
 have := exD_pos e
 have := exS_pos e
 rcases h with h | h | h
 ·rw [h] at a; cases a
 ·omega
 ·omega
theorem fmX_kid {e : Ex} {L i : Nat} {m : Int} (hi : i < e.kids.length) (h : fmX (eat e.kids i) (L - 1) (m - 1 - (exSs (e.kids.take i) : Nat)) = false) (hL : 1 ≤ L) : fmX e L m = false := by
 rw [← Bool.not_eq_true, fmX_true] at h ⊢
 rintro ⟨a, b, c⟩
 refine h ⟨?_, ?_, ?_⟩
 ·rw [exN_eq, Bool.and_eq_true] at a
  cases e2 : exN (eat e.kids i) with
  | true => rfl
  | false => rw [exN_at hi e2] at a; cases a.2
 ·have := exD_at hi
  rw [exD_eq] at b
  omega
 ·have h1 := exSs_take hi
  have h2 := exSs_le e.kids (i + 1)
  rw [exS_eq] at c
  omega
theorem fmX_end {e : Ex} {L : Nat} {m : Int} (hL : 1 ≤ L) (h1 : opB e.op e.num e.kids.length = true) (h2 : ∀ j, j < e.kids.length → exN (eat e.kids j) = true ∧ exD (eat e.kids j) ≤ L - 1) (h3 : (1 : Int) + (exSs e.kids : Nat) ≤ m) : fmX e L m = true := by
 rw [fmX_true, exN_eq, exD_eq, exS_eq, h1, Bool.true_and]
 refine ⟨exNs_all fun j hj => (h2 j hj).1, ?_, by omega⟩
 have := exDs_all (m := L - 1) fun j hj => (h2 j hj).2
 omega
def l0 (l : List Int) : Int := l.getD 0 0
def l1 (l : List Int) : Int := l.getD 1 0
def opV (w s : Int) (vs : List Int) (o n : Int) (l : List Int) : Int :=
 if o = 1 then n else if o = 2 then n * w / 100 else if o = 3 then n * s / 100 else if o = 4 then vs.getD (n - 1).toNat 0
 else if o = 5 then l0 l + l1 l else if o = 6 then l0 l - l1 l else if o = 7 then n * l0 l else if o = 8 then l0 l / n
 else if o = 9 then mnI (l0 l) (l1 l) else mxI (l0 l) (l1 l)
def okV (v : Int) : Bool := decide (-1000000000 ≤ v ∧ v ≤ 1000000000)
mutual
def evE (w s : Int) (vs : List Int) : Ex → Option Int
 | .mk o n ks => match evEs w s vs ks with
  | some l => if okV (opV w s vs o n l) = true then some (opV w s vs o n l) else none
  | none => none
def evEs (w s : Int) (vs : List Int) : List Ex → Option (List Int)
 | [] => some []
 | e :: es => match evE w s vs e with
  | some v => match evEs w s vs es with
   | some l => some (v :: l)
   | none => none
  | none => none
end
theorem evE_eq (w s : Int) (vs : List Int) (e : Ex) : evE w s vs e = match evEs w s vs e.kids with
  | some l => if okV (opV w s vs e.op e.num l) = true then some (opV w s vs e.op e.num l) else none
  | none => none := by cases e; simp only [evE, Ex.kids, Ex.op, Ex.num]; rfl
theorem evEs_snoc (w s : Int) (vs : List Int) (e : Ex) : ∀ l : List Ex, evEs w s vs (l ++ [e]) = match evEs w s vs l with
  | some a => (match evE w s vs e with | some v => some (a ++ [v]) | none => none)
  | none => none
 | [] => by
  simp only [List.nil_append, evEs]
 | x :: l => by
  simp only [List.cons_append, evEs, evEs_snoc w s vs e l]
  cases evE w s vs x with
  | none => rfl
  | some v =>
   cases evEs w s vs l with
   | none => rfl
   | some a => cases evE w s vs e <;> rfl
theorem evEs_take {w s : Int} {vs : List Int} {l : List Ex} {i : Nat} (h : i < l.length) : evEs w s vs (l.take (i + 1)) = match evEs w s vs (l.take i) with
  | some a => (match evE w s vs (eat l i) with | some v => some (a ++ [v]) | none => none)
  | none => none := by rw [take_e h, evEs_snoc]
theorem evEs_none {w s : Int} {vs : List Int} {l : List Ex} {i : Nat} (h : evEs w s vs (l.take i) = none) : evEs w s vs l = none := by
 have key : ∀ (b a : List Ex), evEs w s vs a = none → evEs w s vs (a ++ b) = none := by
  intro b
  induction b with
  | nil => intro a h; simpa using h
  | cons x b ih =>
   intro a h
   have := ih (a ++ [x]) (by rw [evEs_snoc, h])
   simpa using this
 have := key (l.drop i) _ h
 rwa [List.take_append_drop] at this
theorem evEs_len {w s : Int} {vs : List Int} : ∀ {l : List Ex} {a : List Int}, evEs w s vs l = some a → a.length = l.length
 | [], a, h => by simp only [evEs, Option.some.injEq] at h; subst h; rfl
 | e :: l, a, h => by
  simp only [evEs] at h
  split at h
  ·split at h
   ·rename_i v hv b hb
    cases h
    simp [evEs_len hb]
   ·cases h
  ·cases h
theorem evE_ok {w s : Int} {vs : List Int} {e : Ex} {v : Int} (h : evE w s vs e = some v) : -1000000000 ≤ v ∧ v ≤ 1000000000 := by
 rw [evE_eq] at h
 split at h
 ·split at h
  ·rename_i hk
   cases h
   exact of_decide_eq_true hk
  ·cases h
 ·cases h
theorem evEs_ok {w s : Int} {vs : List Int} : ∀ {l : List Ex} {a : List Int}, evEs w s vs l = some a → ∀ v ∈ a, -1000000000 ≤ v ∧ v ≤ 1000000000
 | [], a, h, v, hv => by simp only [evEs, Option.some.injEq] at h; subst h; cases hv
 | e :: l, a, h, v, hv => by
  cases hu : evE w s vs e with
  | none => simp only [evEs, hu] at h; cases h
  | some u =>
   cases hb : evEs w s vs l with
   | none => simp only [evEs, hu, hb] at h; cases h
   | some b =>
    simp only [evEs, hu, hb, Option.some.injEq] at h
    subst h
    rcases List.mem_cons.1 hv with rfl | hv
    ·exact evE_ok hu
    ·exact evEs_ok hb v hv
theorem flo {n d : Int} (hd : 0 < d) : (if n.tmod d < 0 then n.tdiv d - 1 else n.tdiv d) = n / d := by
 have h1 := Int.mul_tdiv_add_tmod n d
 have h2 := Int.mul_ediv_add_emod n d
 have h3 := Int.emod_nonneg n (show d ≠ 0 by omega)
 have h4 := Int.emod_lt_of_pos n hd
 rcases Int.le_total 0 n with hn | hn
 ·rw [Int.tmod_eq_emod_of_nonneg hn, if_neg (by omega), Int.tdiv_eq_ediv_of_nonneg hn]
 ·have h5 : n.tmod d ≤ 0 := by
   have := Int.tmod_nonneg d (a := -n) (by omega)
   rw [Int.neg_tmod] at this
   omega
  have h6 : -d < n.tmod d := by
   have := Int.lt_tmod_of_pos n hd
   omega
  split
  ·rename_i h
   have e : d * (n.tdiv d - 1) + (n.tmod d + d) = n := by rw [Int.mul_sub]; omega
   have := (Int.ediv_emod_unique hd).2 ⟨show n.tmod d + d + d * (n.tdiv d - 1) = n by omega, by omega, by omega⟩
   exact this.1.symm
  ·rename_i h
   have e : n.tmod d = 0 := by omega
   have := (Int.ediv_emod_unique hd).2 ⟨show 0 + d * n.tdiv d = n by omega, by omega, by omega⟩
   exact this.1.symm
end Go.Proofs.YtinhjbnljbmbcaaGreat
