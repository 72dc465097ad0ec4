/- Plain facts of maps from nodes to their children. -/
import Derived.Test.YtgccnkihonmlbaaTt
import Derived.Test.YtgccnkihonmlbaaAs
namespace Go.Proofs.Ytgccnkihonmlbaa
open Go Go.RowKit
set_option linter.unusedSimpArgs false
set_option linter.unusedVariables false

/-- A number put behind those of a key. -/
def addK (k v : Int) : List (Int × List Int) → List (Int × List Int)
  | [] => [(k, [v])]
  | e :: es => if k = e.1 then (k, e.2 ++ [v]) :: es else e :: addK k v es
def chM (l : List Nd) (but : Int) : Nat → List (Int × List Int)
  | 0 => []
  | n + 1 => if (nat l n).id = but then chM l but n else addK (nat l n).par (nat l n).id (chM l but n)
def chA (l : List Nd) (but : Int) : List (Int × List Int) := chM l but l.length
/-- What a map has for a key. -/
def vlk (a : List (Int × List Int)) (k : Int) : List Int := ((a.find? fun e => decide (k = e.1)).map Prod.snd).getD []
def alkB (a b : List (Int × List Int)) : Bool := decide (∀ e ∈ a, e.2 = vlk b e.1) && decide (a.length = b.length)

/-! ### With their rows' places -/
abbrev CE := Int × List Int × Nat × Nat
def ce0 : CE := (0, [], 0, 0)
def CE.er (e : CE) : Int × List Int := (e.1, e.2.1)
def addC (k v : Int) (b c : Nat) : List CE → List CE
  | [] => [(k, [v], b, c)]
  | e :: es => if k = e.1 then (k, e.2.1 ++ [v], b, c) :: es else e :: addC k v b c es
theorem addC_er (k v : Int) (b c : Nat) : ∀ E : List CE, (addC k v b c E).map CE.er = addK k v (E.map CE.er)
  | [] => rfl
  | e :: E => by
    simp only [addC, List.map_cons, addK, CE.er]
    split
    · rfl
    · rw [List.map_cons, addC_er k v b c E]; rfl
def ceV (e : CE) : D := .sl 1 (e.2.1.map irow) (.own e.2.2.1 e.2.2.2)
def ceE (E : List CE) : List (D × D) := E.map fun e => (.int .i64 e.1, ceV e)
def ceS (E : List CE) : Store := E.map fun e => (e.2.2.1, .tail 1 e.2.1.length e.2.2.2)
theorem ce_get (k : Int) : ∀ E : List CE, mget (.int .i64 k) (ceE E) = some ((E.find? fun e => decide (k = e.1)).map ceV)
  | [] => rfl
  | e :: E => by
    have ih := ce_get k E
    unfold ceE at ih ⊢
    simp only [List.map_cons, mget, keq_int, List.find?_cons]
    by_cases h : k = e.1
    · simp [h]
    · simp [h, ih]
theorem ce_put (k v : Int) (b c : Nat) (ids : List Int) : ∀ E : List CE, ids = ((E.find? fun e => decide (k = e.1)).map fun e => e.2.1).getD [] → mput (.int .i64 k) (.sl 1 ((ids ++ [v]).map irow) (.own b c)) (ceE E) = some (ceE (addC k v b c E))
  | [], h => by subst h; rfl
  | e :: E, h => by
    have ih := ce_put k v b c ids E
    unfold ceE at ih ⊢
    simp only [List.map_cons, mput, keq_int, addC]
    by_cases hk : k = e.1
    · have hi : ids = e.2.1 := by rw [h]; simp [hk]
      subst hi
      simp only [hk, decide_true, if_true, List.map_cons]
      rfl
    · have hi : ids = ((E.find? fun e => decide (k = e.1)).map fun e => e.2.1).getD [] := by rw [h]; simp [hk]
      simp only [hk, decide_false, if_false, List.map_cons]
      rw [ih hi]
      rfl
theorem find_key {k : Int} {E : List CE} {e : CE} (h : E.find? (fun e => decide (k = e.1)) = some e) : e ∈ E ∧ k = e.1 := by
  have h1 := List.mem_of_find?_eq_some h
  have h2 := List.find?_some h
  exact ⟨h1, by simpa using h2⟩
theorem addC_new {k v : Int} {b c : Nat} : ∀ {E : List CE}, E.find? (fun e => decide (k = e.1)) = none → addC k v b c E = E ++ [(k, [v], b, c)]
  | [], _ => rfl
  | e :: E, h => by
    rw [List.find?_cons] at h
    by_cases hk : k = e.1
    · simp [hk] at h
    · simp only [hk, decide_false] at h
      simp only [addC, hk, if_false, List.cons_append]
      rw [addC_new h]
theorem ce_ren {k v : Int} {b c : Nat} : ∀ {E : List CE} {e : CE}, E.find? (fun e => decide (k = e.1)) = some e → (ceS E).keys.Nodup → (ceS E).ren e.2.2.1 b (.tail 1 (e.2.1.length + 1) c) = ceS (addC k v b c E)
  | [], _, h, _ => by simp at h
  | x :: E, e, h, hn => by
    rw [List.find?_cons] at h
    have hn2 : (x.2.2.1 :: Store.keys (ceS E)).Nodup := hn
    obtain ⟨hx, hnE⟩ := List.nodup_cons.1 hn2
    show Store.ren ((x.2.2.1, .tail 1 x.2.1.length x.2.2.2) :: ceS E) e.2.2.1 b _ = _
    unfold Store.ren
    by_cases hk : k = x.1
    · simp only [hk, decide_true] at h
      cases h
      rw [if_pos rfl]
      simp only [addC, hk, if_true, ceS, List.map_cons, List.length_append, List.length_singleton]
    · simp only [hk, decide_false] at h
      have hne : ¬ e.2.2.1 = x.2.2.1 := by
        intro he
        apply hx
        rw [← he]
        exact List.mem_map_of_mem (f := Prod.fst) (List.mem_map_of_mem (f := fun e : CE => (e.2.2.1, Box.tail 1 e.2.1.length e.2.2.2)) (find_key h).1)
      rw [if_neg hne, ce_ren (v := v) h hnE]
      simp only [addC, hk, if_false, ceS, List.map_cons]
theorem ce_tail {E : List CE} {b : Nat} {x : Box} (h : (ceS E).get b = some x) : x.isTail = true := by
  have := Store.mem_of_get h
  unfold ceS at this
  obtain ⟨e, _, he⟩ := List.mem_map.1 this
  cases he
  rfl
theorem ce_at {E : List CE} {e : CE} (hn : (ceS E).keys.Nodup) (h : e ∈ E) : (ceS E).get e.2.2.1 = some (.tail 1 e.2.1.length e.2.2.2) := Store.get_of_mem hn (List.mem_map_of_mem (f := fun e : CE => (e.2.2.1, Box.tail 1 e.2.1.length e.2.2.2)) h)
theorem Ext_ce (m : Nat) (x : Box) (E : List CE) (τ : Store) : Ext ((m, x) :: ceS E) ((m, x) :: τ) := by
  intro b y h
  unfold Store.get at h
  split at h
  · rename_i hb
    cases h
    right
    simp [Store.get, hb]
  · exact .inl (ce_tail h)
/-- A number behind those of a key that there is. -/
theorem napp_ce {P : Program} {ts : Array TypeId} {T U V : TypeId} {g : Bool} {by_ m : Nat} {x : Box} {z : List D} {tk : Tok} {k v : Int} {E : List CE} {e : CE} {K : D → Store → Prop}
    (hf : E.find? (fun e => decide (k = e.1)) = some e) (hnd : Store.keys ((m, x) :: ceS E) |>.Nodup) (hT : ts[0]? = some T) (hV : ts[1]? = some V) (hV' : (sle P V).isSome = true) (hs : sle P T = some (U, g, 1)) (hy : eby P T = some by_) (hz : zc P U = some z)
    (hside : z.length = 1 ∧ 0 < by_ ∧ (e.2.1.length + 1) * by_ ≤ capB)
    (hK : ∀ b c, K (.sl 1 ((e.2.1 ++ [v]).map irow) (.own b c)) ((m, x) :: ceS (addC k v b c E))) :
    napp P ((m, x) :: ceS E) ts (.sl 1 (e.2.1.map irow) (.own e.2.2.1 e.2.2.2)) (.sl 1 [[.int .i64 v]] tk) K := by
  obtain ⟨hz1, hb0, hfit⟩ := hside
  have hnd2 : (m :: Store.keys (ceS E)).Nodup := hnd
  obtain ⟨hm, hnE⟩ := List.nodup_cons.1 hnd2
  obtain ⟨hmem, _⟩ := find_key hf
  have hat := ce_at hnE hmem
  have hne : ¬ e.2.2.1 = m := fun he => hm (he ▸ Store.get_mem hat)
  unfold napp
  simp only [hT, Option.bind_some, hs, hy, rowsOf]
  refine ⟨⟨⟨z, hz, hz1⟩, ⟨V, hV, .inl hV'⟩, by decide, hb0, by simp, by simp, by simp [D.isCell], by simpa using hfit⟩, ⟨trivial, by simp [Store.get, hne, hat]⟩, fun b' cap' _ => ?_⟩
  have e1 : Store.ren ((m, x) :: ceS E) e.2.2.1 b' (.tail 1 (e.2.1.length + 1) cap') = (m, x) :: ceS (addC k v b' cap' E) := by
    unfold Store.ren
    rw [if_neg hne, ce_ren (v := v) hf hnE]
  have h1 := hK b' cap'
  rw [← e1] at h1
  simpa [irow] using h1
theorem len_chM (l : List Nd) (but : Int) : ∀ n, ∀ e ∈ chM l but n, e.2.length ≤ n
  | 0, e, h => by simp [chM] at h
  | n + 1, e, h => by
    have ih := len_chM l but n
    unfold chM at h
    split at h
    · have := ih e h; omega
    · generalize chM l but n = a at ih h
      generalize (nat l n).par = k at h
      generalize (nat l n).id = v at h
      induction a with
      | nil => simp [addK] at h; subst h; simp
      | cons x xs ih2 =>
        simp only [addK] at h
        split at h
        · rcases List.mem_cons.1 h with rfl | h
          · have := ih x (by simp); simp; omega
          · have := ih e (List.mem_cons_of_mem _ h); omega
        · rcases List.mem_cons.1 h with rfl | h
          · have := ih e (by simp); omega
          · exact ih2 (fun y hy => ih y (List.mem_cons_of_mem _ hy)) h
theorem num_chM (l : List Nd) (but : Int) : ∀ n, (chM l but n).length ≤ n
  | 0 => by simp [chM]
  | n + 1 => by
    have ih := num_chM l but n
    unfold chM
    split
    · omega
    · generalize chM l but n = a at ih
      have h2 : ∀ a : List (Int × List Int), (addK (nat l n).par (nat l n).id a).length ≤ a.length + 1 := by
        intro a
        induction a with
        | nil => simp [addK]
        | cons x xs ih2 => simp only [addK]; split <;> simp; omega
      have := h2 a
      omega
theorem filter_lt {p q : Nat → Bool} : ∀ (l : List Nat), (∀ x ∈ l, q x = true → p x = true) → (∃ x ∈ l, p x = true ∧ q x = false) → (l.filter q).length < (l.filter p).length
  | [], _, h => by obtain ⟨x, hx, _⟩ := h; simp at hx
  | x :: l, h1, h2 => by
    have hle : (l.filter q).length ≤ (l.filter p).length := by
      clear h2
      induction l with
      | nil => simp
      | cons y l ih =>
        have := ih (fun z hz => h1 z (by
          rcases List.mem_cons.1 hz with h | h
          · exact h ▸ List.mem_cons_self ..
          · exact List.mem_cons_of_mem _ (List.mem_cons_of_mem _ h)))
        have hy := h1 y (by simp)
        cases hq : q y <;> cases hp : p y <;> simp_all <;> omega
    have hx := h1 x (by simp)
    cases hq : q x with
    | true =>
      have hp := hx hq
      simp only [List.filter_cons, hq, hp, if_true, List.length_cons]
      obtain ⟨y, hy, h3, h4⟩ := h2
      have := filter_lt l (fun z hz => h1 z (List.mem_cons_of_mem _ hz)) (by
        rcases List.mem_cons.1 hy with rfl | hy
        · rw [hq] at h4; cases h4
        · exact ⟨y, hy, h3, h4⟩)
      omega
    | false =>
      cases hp : p x with
      | true => simp only [List.filter_cons, hq, hp, if_true, List.length_cons, Bool.false_eq_true, if_false]; omega
      | false =>
        simp only [List.filter_cons, hq, hp, Bool.false_eq_true, if_false]
        obtain ⟨y, hy, h3, h4⟩ := h2
        exact filter_lt l (fun z hz => h1 z (List.mem_cons_of_mem _ hz)) (by
          rcases List.mem_cons.1 hy with rfl | hy
          · rw [hp] at h3; cases h3
          · exact ⟨y, hy, h3, h4⟩)
/-- How many entries are not seen yet. -/
def left (n : Nat) (pos : List Nat) : Nat := ((List.range n).filter fun i => decide (i ∉ pos)).length
theorem left_lt {n : Nat} {pos : List Nat} {i : Nat} (hi : i < n) (hp : i ∉ pos) : left n (pos ++ [i]) < left n pos := by
  refine filter_lt _ (fun x _ h => ?_) ⟨i, List.mem_range.2 hi, by simpa using hp, by simp⟩
  simp only [List.mem_append, not_or, decide_eq_true_eq] at h ⊢
  exact h.1
theorem vlk_er (E : List CE) (k : Int) : vlk (E.map CE.er) k = ((E.find? fun e => decide (k = e.1)).map fun e => e.2.1).getD [] := by
  unfold vlk
  rw [List.find?_map]
  simp only [Option.map_map]
  rfl
end Go.Proofs.Ytgccnkihonmlbaa
