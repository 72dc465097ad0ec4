/- Own layer, part 18: what the reading alone tells of plain data; whole numbers; ends of functions. -/
import Derived.Test.YtgccnkihonmlbaaAh
namespace Go.Proofs.Ytgccnkihonmlbaa
open Go Go.RowKit
set_option linter.unusedSimpArgs false
set_option linter.unusedVariables false

mutual
/-- What holds of plain data that some value reads as. -/
def D.ok : D → Prop
  | .int k n => inR k n
  | .str s => s.length ≤ lim
  | .sl _ rows _ => rows.length ≤ lim ∧ okRows rows
  | .fn _ fs cs => okAll fs ∧ okAll cs
  | .el cs => okAll cs
  | .ifc _ d => D.ok d
  | .ag cs => okAll cs
  | .tup ds => okAll ds
  | _ => True
def okAll : List D → Prop
  | [] => True
  | d :: ds => D.ok d ∧ okAll ds
def okRows : List (List D) → Prop
  | [] => True
  | r :: rs => okAll r ∧ okRows rs
end

mutual
theorem R.ok {M : Mem} : ∀ (d : D) (y : Value), R M d y → d.ok
  | .int _ _, _, h => by simp only [R] at h; simp only [D.ok]; exact h.2
  | .str _, _, h => by simp only [R] at h; simp only [D.ok]; exact h.2
  | .sl sz rows t, _, h => by
    simp only [R] at h
    obtain ⟨p, cap, h1, h2, h3, h4, h5⟩ := h
    simp only [D.ok]
    refine ⟨h3, ?_⟩
    cases rows with
    | nil => simp only [okRows]
    | cons r rs =>
      obtain ⟨b, o, _, h6⟩ := h4 (by simp)
      exact RRows.ok (r :: rs) b o h6
  | .fn f fs cs, _, h => by
    simp only [R] at h
    obtain ⟨vs, us, _, h1, h2⟩ := h
    simp only [D.ok]
    exact ⟨RAll.ok fs vs h1, RAll.ok cs us h2⟩
  | .el cs, _, h => by
    simp only [R] at h
    obtain ⟨b, o, _, h1⟩ := h
    simp only [D.ok]
    exact RCells.ok cs b o h1
  | .ifc t d, _, h => by
    simp only [R] at h
    obtain ⟨u, _, h1⟩ := h
    simp only [D.ok]
    exact R.ok d u h1
  | .ag cs, _, h => by
    simp only [R] at h
    obtain ⟨vs, _, h1⟩ := h
    simp only [D.ok]
    exact RAll.ok cs vs h1
  | .tup cs, _, h => by
    simp only [R] at h
    obtain ⟨vs, _, h1⟩ := h
    simp only [D.ok]
    exact RAll.ok cs vs h1
  | .bool _, _, _ => by simp only [D.ok]
  | .v _, _, _ => by simp only [D.ok]
  | .ptr _ _, _, _ => by simp only [D.ok]
  | .mp _, _, _ => by simp only [D.ok]
  | .cnd _ _, _, _ => by simp only [D.ok]
  | .arr _ _ _ _, _, _ => by simp only [D.ok]
  | .top, _, _ => by simp only [D.ok]
theorem RAll.ok {M : Mem} : ∀ (ds : List D) (ys : List Value), RAll M ds ys → okAll ds
  | [], _, _ => by simp only [okAll]
  | d :: ds, y :: ys, h => by simp only [RAll] at h; simp only [okAll]; exact ⟨R.ok d y h.1, RAll.ok ds ys h.2⟩
  | _ :: _, [], h => by simp [RAll] at h
theorem RCells.ok {M : Mem} : ∀ (ds : List D) (b o : Nat), RCells M ds b o → okAll ds
  | [], _, _, _ => by simp only [okAll]
  | d :: ds, b, o, h => by
    simp only [RCells] at h
    obtain ⟨⟨x, _, h2⟩, h3⟩ := h
    simp only [okAll]
    exact ⟨R.ok d x h2, RCells.ok ds b (o + 1) h3⟩
theorem RRows.ok {M : Mem} {sz : Nat} : ∀ (rs : List (List D)) (b o : Nat), RRows M sz rs b o → okRows rs
  | [], _, _, _ => by simp only [okRows]
  | r :: rs, b, o, h => by
    simp only [RRows] at h
    simp only [okRows]
    exact ⟨RCells.ok r b o h.2.1, RRows.ok rs b (o + sz) h.2.2⟩
end

theorem okRows_map {α : Type} (f : α → List D) : ∀ (l : List α), okRows (l.map f) ↔ ∀ x ∈ l, okAll (f x)
  | [] => by simp [okRows]
  | x :: l => by simp [okRows, okRows_map f l]

section
variable {P : Program} {σ : Store}

/-- A contract may use what its arguments' reading tells. -/
theorem ACall.ok {f : Fn} {args : List D} {Q : Res → Store → Prop} (h : okAll args → ACall P f args σ Q) : ACall P f args σ Q :=
  fun M w vs hc hr => h (RAll.ok args vs hr) M w vs hc hr
theorem PCall.ok {f : Fn} {args : List D} {d : D} (h : okAll args → PCall P f args d) : PCall P f args d := ACall.ok h

/-! ### Whole numbers -/
theorem inR_i64' (n : Int) : inR .i64 n ↔ -9223372036854775808 ≤ n ∧ n ≤ 9223372036854775807 := Iff.rfl
theorem inR_i32' (n : Int) : inR .i32 n ↔ -2147483648 ≤ n ∧ n ≤ 2147483647 := Iff.rfl
theorem inR_u8' (n : Int) : inR .u8 n ↔ 0 ≤ n ∧ n ≤ 255 := Iff.rfl
theorem inR_u16' (n : Int) : inR .u16 n ↔ 0 ≤ n ∧ n ≤ 65535 := Iff.rfl
theorem inR_u64' (n : Int) : inR .u64 n ↔ 0 ≤ n ∧ n ≤ 18446744073709551615 := Iff.rfl

theorem w64 {n : Int} (h : -9223372036854775808 ≤ n ∧ n ≤ 9223372036854775807) : IntKind.wrap .i64 n = n := by
  have h1 := h.1; have h2 := h.2
  show (if (true && decide (n % 18446744073709551616 ≥ 9223372036854775808)) = true then n % 18446744073709551616 - 18446744073709551616 else n % 18446744073709551616) = n
  rw [Bool.true_and]
  split
  · rename_i hd; have hd := of_decide_eq_true hd; omega
  · rename_i hd; have hd : ¬ (n % 18446744073709551616 ≥ 9223372036854775808) := fun e => hd (decide_eq_true e); omega
theorem wu64 {n : Int} (h : 0 ≤ n ∧ n ≤ 18446744073709551615) : IntKind.wrap .u64 n = n := by
  have h1 := h.1; have h2 := h.2
  show (if (false && decide (n % 18446744073709551616 ≥ 9223372036854775808)) = true then n % 18446744073709551616 - 18446744073709551616 else n % 18446744073709551616) = n
  rw [Bool.false_and, if_neg (by simp)]
  omega
theorem w32 {n : Int} (h : -2147483648 ≤ n ∧ n ≤ 2147483647) : IntKind.wrap .i32 n = n := by
  have h1 := h.1; have h2 := h.2
  show (if (true && decide (n % 4294967296 ≥ 2147483648)) = true then n % 4294967296 - 4294967296 else n % 4294967296) = n
  rw [Bool.true_and]
  split
  · rename_i hd; have hd := of_decide_eq_true hd; omega
  · rename_i hd; have hd : ¬ (n % 4294967296 ≥ 2147483648) := fun e => hd (decide_eq_true e); omega
theorem wu8 {n : Int} (h : 0 ≤ n ∧ n ≤ 255) : IntKind.wrap .u8 n = n := by
  have h1 := h.1; have h2 := h.2
  show (if (false && decide (n % 256 ≥ 128)) = true then n % 256 - 256 else n % 256) = n
  rw [Bool.false_and, if_neg (by simp)]
  omega
theorem wu16 {n : Int} (h : 0 ≤ n ∧ n ≤ 65535) : IntKind.wrap .u16 n = n := by
  have h1 := h.1; have h2 := h.2
  show (if (false && decide (n % 65536 ≥ 32768)) = true then n % 65536 - 65536 else n % 65536) = n
  rw [Bool.false_and, if_neg (by simp)]
  omega

/-! ### Ends -/
theorem ret_ {rs : List ResultVar} {Q : Res → Store → Prop} {env : Env} {σ' : Store} (h : (resD P σ env rs).1) (hs : σ'.Sublist σ) (hq : Q (.ret (resD P σ env rs).2) σ') : retQ P rs Q .ret env σ := ⟨h, σ', hs, hq⟩
theorem retP {rs : List ResultVar} {d : D} {env : Env} (h : (resD P σ env rs).1 ∧ (resD P σ env rs).2 = d) : retQ P rs (fun r σ' => r = .ret d ∧ σ' = []) .ret env σ := ⟨h.1, [], by simp, by rw [h.2], rfl⟩

theorem retPn {rs : List ResultVar} {d : D} {env : Env} (h : (resD P σ env rs).1 ∧ (resD P σ env rs).2 = d) : retQ P rs (fun r σ' => r = .ret d ∧ σ' = []) .normal env σ := ⟨h.1, [], by simp, by rw [h.2], rfl⟩

end

end Go.Proofs.Ytgccnkihonmlbaa
