/- Plain facts of paths: what is above a node, and lists turned around. -/
import Derived.Test.YtgccnkihonmlbaaSi
import Derived.Test.YtgccnkihonmlbaaAp
namespace Go.Proofs.Ytgccnkihonmlbaa
open Go Go.RowKit
set_option linter.unusedSimpArgs false
set_option linter.unusedVariables false

/-- A list of which the first k and the last k have changed their places. -/
def rv (xs : List Int) (k : Nat) : List Int := (List.range xs.length).map fun p => if p < k ∨ xs.length - k ≤ p then iat xs (xs.length - 1 - p) else iat xs p
theorem rv_len (xs : List Int) (k : Nat) : (rv xs k).length = xs.length := by simp [rv]
theorem rv_at {xs : List Int} {k p : Nat} (h : p < xs.length) : iat (rv xs k) p = if p < k ∨ xs.length - k ≤ p then iat xs (xs.length - 1 - p) else iat xs p := by
  unfold rv
  rw [iat, List.getD_eq_getElem?_getD, List.getElem?_map, List.getElem?_range h]
  rfl
theorem iat_ext {a b : List Int} (hl : a.length = b.length) (h : ∀ j, j < a.length → iat a j = iat b j) : a = b := list_ext (d := 0) hl h
theorem rv_zero (xs : List Int) : rv xs 0 = xs := by
  refine iat_ext (rv_len _ _) fun j hj => ?_
  rw [rv_len] at hj
  rw [rv_at hj, if_neg (by omega)]
theorem iat_set {xs : List Int} {k : Nat} {v : Int} (h : k < xs.length) (j : Nat) : iat (xs.set k v) j = if j = k then v else iat xs j := by
  unfold iat
  simp only [List.getD_eq_getElem?_getD, List.getElem?_set]
  by_cases e : j = k
  · subst e; simp [h]
  · rw [if_neg (fun x => e x.symm), if_neg e]
theorem rv_swap {xs : List Int} {k : Nat} (h : k < xs.length - 1 - k) : (((rv xs k).set k (iat (rv xs k) (xs.length - 1 - k))).set (xs.length - 1 - k) (iat (rv xs k) k)) = rv xs (k + 1) := by
  have h1 : k < xs.length := by omega
  have h2 : xs.length - 1 - k < xs.length := by omega
  refine iat_ext (by rw [List.length_set, List.length_set, rv_len, rv_len]) fun j hj => ?_
  rw [List.length_set, List.length_set, rv_len] at hj
  rw [iat_set (by rw [List.length_set, rv_len]; exact h2), iat_set (by rw [rv_len]; exact h1), rv_at hj, rv_at hj, rv_at h1, rv_at h2]
  have e1 : xs.length - 1 - (xs.length - 1 - k) = k := by omega
  rw [if_neg (by omega : ¬ (k < k ∨ xs.length - k ≤ k)), if_neg (by omega : ¬ (xs.length - 1 - k < k ∨ xs.length - k ≤ xs.length - 1 - k))]
  by_cases ha : j = xs.length - 1 - k
  · subst ha
    rw [if_pos rfl, if_pos (by omega), e1]
  · rw [if_neg ha]
    by_cases hb : j = k
    · subst hb
      rw [if_pos rfl, if_pos (by omega)]
    · rw [if_neg hb]
      by_cases hc : j < k ∨ xs.length - k ≤ j
      · rw [if_pos hc, if_pos (by omega)]
      · rw [if_neg hc, if_neg (by omega)]
theorem rv_done {xs : List Int} {k : Nat} (h : ¬ k < xs.length - 1 - k) : rv xs k = xs.reverse := by
  refine iat_ext (by rw [rv_len, List.length_reverse]) fun j hj => ?_
  rw [rv_len] at hj
  have e : iat xs.reverse j = iat xs (xs.length - 1 - j) := by
    unfold iat
    rw [List.getD_eq_getElem?_getD, List.getD_eq_getElem?_getD, List.getElem?_reverse hj]
  rw [rv_at hj, e]
  split
  · rfl
  · congr 1; omega
theorem irow_flat : ∀ xs : List Int, (xs.map irow).flatten = xs.map (fun v => D.int .i64 v)
  | [] => rfl
  | a :: xs => by
    have ih := irow_flat xs
    simp only [List.map_cons, List.flatten_cons, ih]
    rfl
theorem irow_drop {xs : List Int} {k : Nat} (h : k < xs.length) : List.drop k (xs.map irow).flatten = .int .i64 (iat xs k) :: List.drop (k + 1) (xs.map irow).flatten := by
  rw [irow_flat, List.drop_eq_getElem_cons (by simpa using h)]
  congr 1
  simp [iat, List.getD_eq_getElem?_getD, h]
theorem irow_set {xs : List Int} {k : Nat} (v : Int) (h : k < xs.length) : (xs.map irow).set k (D.int .i64 v :: List.drop 1 ((xs.map irow).getD k [])) = (xs.set k v).map irow := by
  have e : (xs.map irow).getD k [] = irow (iat xs k) := by simp [iat, List.getD_eq_getElem?_getD, h]
  rw [e, List.map_set]
  rfl
/-- The path of a node: its numbers, the root's first. -/
def upL (l : List Nd) (i : Nat) : List Int := (i :: chn l i).map fun x => (nat l x).id
def pathL (l : List Nd) (i : Nat) : List Int := (upL l i).reverse
theorem upL_len (l : List Nd) (i : Nat) : (upL l i).length = (chn l i).length + 1 := by simp [upL]
theorem upL_take {l : List Nd} {i j x : Nat} (h : (chn l i)[j]? = some x) : (upL l i).take (j + 1 + 1) = (upL l i).take (j + 1) ++ [(nat l x).id] := by
  have e : (upL l i)[j + 1]? = some (nat l x).id := by simp [upL, h]
  rw [List.take_add_one, e]; rfl
theorem upL_tl {l : List Nd} {i j : Nat} (h : j ≤ (chn l i).length) : ((upL l i).take (j + 1)).length = j + 1 := by
  rw [List.length_take, upL_len]; omega
def ptD (rows : List (List D)) (n : Nat) : Option (Nat × Nat) → D
  | none => .sl 1 rows .full
  | some (b, c) => .arr b 1 n c
def ptS (rows : List (List D)) : Option (Nat × Nat) → Store
  | none => []
  | some (b, c) => [(b, .arr 1 rows c)]
theorem nappM_full {P : Program} {σ : Store} {ts : Array TypeId} {T U V : TypeId} {g : Bool} {sz by_ n : Nat} {z : List D} {rows new : List (List D)} {tk : Tok} {K : D → Store → Prop}
    (hn : rows.length = n) (hT : ts[0]? = some T) (hV : ts[1]? = some V) (hV' : (sle P V).isSome = true) (hs : sle P T = some (U, g, sz)) (hy : eby P T = some by_) (hz : zc P U = some z)
    (hside : (z.length = sz ∧ 0 < sz ∧ 0 < by_) ∧ rows.all (·.all D.isCell) = true ∧ new.all (·.all D.isCell) = true ∧ new ≠ [] ∧ (n + new.length) * by_ ≤ capB)
    (hK : ∀ b c, b ∉ σ.keys → n + new.length ≤ c → K (.arr b sz (n + new.length) c) ((b, .arr sz (rows ++ new) c) :: σ)) :
    nappM P σ ts (.sl sz rows .full) (.sl sz new tk) K := by
  subst hn
  obtain ⟨⟨hz1, h0, hb0⟩, hr, hc, hne, hfit⟩ := hside
  unfold nappM
  simp only [hT, Option.bind_some, hs, hy, rowsOf]
  exact ⟨⟨⟨z, hz, hz1⟩, ⟨V, hV, .inl hV'⟩, h0, hb0, by simp, hc⟩, ⟨by simp, by simp, hr, hfit⟩, fun e => absurd e hne, fun _ b cap hb hcap => hK b cap hb hcap⟩
theorem nappM_growN {P : Program} {ts : Array TypeId} {T U V : TypeId} {g : Bool} {sz by_ n b0 c0 : Nat} {z : List D} {rows new : List (List D)} {tk : Tok} {K : D → Store → Prop}
    (hn : rows.length = n) (hok : n ≤ c0) (hT : ts[0]? = some T) (hV : ts[1]? = some V) (hV' : (sle P V).isSome = true) (hs : sle P T = some (U, g, sz)) (hy : eby P T = some by_) (hz : zc P U = some z)
    (hside : (z.length = sz ∧ 0 < sz ∧ 0 < by_) ∧ new.all (·.all D.isCell) = true ∧ new ≠ [] ∧ (n + new.length) * by_ ≤ capB)
    (hK : ∀ b c, b ∉ Store.keys [] → n + new.length ≤ c → K (.arr b sz (n + new.length) c) [(b, .arr sz (rows ++ new) c)]) :
    nappM P [(b0, .arr sz rows c0)] ts (.arr b0 sz n c0) (.sl sz new tk) K := by
  subst hn
  exact nappM_grow (o := some (b0, c0)) (ρ := []) hok (apFr_nil _) hT hV hV' hs hy hz hside (fun b c hb h => hK b c hb h)
theorem irow_all (l : List Int) : (l.map irow).all (·.all D.isCell) = true := by
  rw [List.all_map, List.all_eq_true]; intro t _; rfl
end Go.Proofs.Ytgccnkihonmlbaa
