/- Own layer, part 22: a row out of a contract. -/
import Derived.Test.YtgccnkihonmlbaaAl
namespace Go.Proofs.Ytgccnkihonmlbaa
open Go Go.RowKit Go.ChangeShapes Go.WideShapes
set_option linter.unusedSimpArgs false
set_option linter.unusedVariables false

/-- The plain data of an argument of a type. -/
def ArgD (P : Program) (n : Nat) (t : TypeId) (d : D) : Prop :=
  match P.underlying t with
  | some (.struct _) | some (.array _ _) => ∃ cs, d = .ag cs ∧ Sh P n t cs
  | _ => Sh P n t [d]
def ArgSh (P : Program) (n : Nat) : List TypeId → List D → Prop
  | [], [] => True
  | t :: ts, d :: ds => ArgD P n t d ∧ ArgSh P n ts ds
  | _, _ => False

section
variable {H : Type} {enc : TypeId × Value → H} {P : Program} {w : World}

theorem arg_good {n : Nat} {t : TypeId} {v : Value} {dd : DataW H} {ps : List MemPlace} {base : Nat} (hp : plainT P n t = true) (hval : Value.okWide P w .any base t v) (h : DataW.Trod enc P w 0 (fun _ => true) true t v dd ps) :
    ∃ d, R (wholeMem w) d v ∧ ArgD P n t d := by
  obtain ⟨fuel, h⟩ := h
  obtain ⟨ds, r1, s1, l1, c1⟩ := good_trod n t fuel _ _ hp h
  cases n with
  | zero => simp [plainT] at hp
  | succ n =>
    have one : ∀ (hv : v.cells = #[v]) (hns : ∀ fs, P.underlying t ≠ some (.struct fs)) (hna : ∀ k e, P.underlying t ≠ some (.array k e)), ∃ d, R (wholeMem w) d v ∧ ArgD P (n + 1) t d := by
      intro hv hns hna
      rw [hv] at r1
      cases ds with
      | nil => simp [RAll] at r1
      | cons d ds =>
        cases ds with
        | cons _ _ => simp [RAll] at r1
        | nil =>
          simp only [RAll, and_true] at r1
          refine ⟨d, r1, ?_⟩
          unfold ArgD
          split
          · rename_i fs hu; exact absurd hu (hns fs)
          · rename_i k e hu; exact absurd hu (hna k e)
          · exact s1
    unfold plainT at hp
    split at hp
    · rename_i hu
      obtain ⟨b, rfl⟩ := okWide_bool hu hval
      exact one rfl (fun fs => by rw [hu]; simp) (fun k e => by rw [hu]; simp)
    · rename_i k hu
      obtain ⟨b, rfl⟩ := okWide_int hu hval
      exact one rfl (fun fs => by rw [hu]; simp) (fun k e => by rw [hu]; simp)
    · rename_i hu
      obtain ⟨b, rfl⟩ := okWide_string hu hval
      exact one rfl (fun fs => by rw [hu]; simp) (fun k e => by rw [hu]; simp)
    · rename_i e hu
      obtain ⟨a, b, c, rfl⟩ := okWide_slice hu hval
      exact one rfl (fun fs => by rw [hu]; simp) (fun k e => by rw [hu]; simp)
    · rename_i fs hu
      unfold Value.okWide at hval
      simp only [hu] at hval
      obtain ⟨cs, rfl, _⟩ := hval
      refine ⟨.ag ds, by simp only [R]; exact ⟨cs.toList, by simp, r1⟩, ?_⟩
      unfold ArgD
      simp only [hu]
      exact ⟨ds, rfl, s1⟩
    · rename_i k e hu
      unfold Value.okWide at hval
      simp only [hu] at hval
      obtain ⟨cs, rfl, _⟩ := hval
      refine ⟨.ag ds, by simp only [R]; exact ⟨cs.toList, by simp, r1⟩, ?_⟩
      unfold ArgD
      simp only [hu]
      exact ⟨ds, rfl, s1⟩
    · cases hp

theorem args_good {n : Nat} {base : Nat} : ∀ {ts : List TypeId} {vs : List Value} {dds : List (DataW H)} {ps : List MemPlace}, (∀ t ∈ ts, plainT P n t = true) →
    (∀ (j : Nat) (t : TypeId) (v : Value), ts[j]? = some t → vs[j]? = some v → Value.okWide P w .any base t v) → DataW.TrodAll enc P w 0 (fun _ => true) true ts vs dds ps → ∃ ds, RAll (wholeMem w) ds vs ∧ ArgSh P n ts ds
  | [], [], [], _, _, _, _ => ⟨[], by simp [RAll], trivial⟩
  | t :: ts, v :: vs, dd :: dds, ps, hp, hv, ⟨p, q, h1, h2, _⟩ => by
    obtain ⟨d, r1, a1⟩ := arg_good (hp t (by simp)) (hv 0 t v rfl rfl) h1
    obtain ⟨ds, r2, a2⟩ := args_good (fun u hu => hp u (List.mem_cons_of_mem _ hu)) (fun j u x hu hx => hv (j + 1) u x (by simpa using hu) (by simpa using hx)) h2
    exact ⟨d :: ds, by simp only [RAll]; exact ⟨r1, r2⟩, a1, a2⟩
  | [], _ :: _, _, _, _, _, h => h.elim
  | [], [], _ :: _, _, _, _, h => h.elim
  | _ :: _, [], _, _, _, _, h => h.elim
  | _ :: _, _ :: _, [], _, _, _, h => h.elim

theorem trodAll_len {sp : Nat → Bool} {W : World} : ∀ {ts : List TypeId} {vs : List Value} {dds : List (DataW H)} {ps : List MemPlace}, DataW.TrodAll enc P W 0 sp true ts vs dds ps → dds.length = ts.length
  | [], [], [], _, _ => rfl
  | t :: ts, v :: vs, dd :: dds, _, ⟨_, _, _, h2, _⟩ => by simp [trodAll_len h2]
  | [], _ :: _, _, _, h => h.elim
  | [], [], _ :: _, _, h => h.elim
  | _ :: _, [], _, _, h => h.elim
  | _ :: _, _ :: _, [], _, h => h.elim

theorem trodAll_below {W W' : World} {sp : Nat → Bool} (hl : laidOutB P = true) (hb : Below W.heap.size W W') : ∀ {ts : List TypeId} {vs : List Value} {dds : List (DataW H)} {ps : List MemPlace}, (∀ t ∈ ts, P.readableRec t = true ∧ t < P.types.size) → (∀ x ∈ ps, x.block < W.heap.size) → (∀ x ∈ ps, sp x.block = true) →
    DataW.TrodAll enc P W 0 (fun _ => true) true ts vs dds ps → DataW.TrodAll enc P W' 0 sp true ts vs dds ps
  | [], [], [], _, _, _, _, h => h
  | t :: ts, v :: vs, dd :: dds, ps, hp, hlt, hs, ⟨p, q, h1, h2, e⟩ => by
    subst e
    exact ⟨p, q, WideElems.Trod_stays hl (hp t (by simp)).1 (hp t (by simp)).2 h1 (fun x hx => hb.same (hlt x (List.mem_append_left _ hx))) (fun x hx => hs x (List.mem_append_left _ hx)),
      trodAll_below hl hb (fun u hu => hp u (List.mem_cons_of_mem _ hu)) (fun x hx => hlt x (List.mem_append_right _ hx)) (fun x hx => hs x (List.mem_append_right _ hx)) h2, rfl⟩
  | [], _ :: _, _, _, _, _, _, h => h.elim
  | [], [], _ :: _, _, _, _, _, h => h.elim
  | _ :: _, [], _, _, _, _, _, h => h.elim
  | _ :: _, _ :: _, [], _, _, _, _, h => h.elim

theorem Step.below {M M' : Mem} {W W' : World} {σ : Store} (h : Step M W [] M' W' σ) : Below W.heap.size W W' := ⟨h.os, h.tape, h.output, h.size, fun k hk => h.block k hk (by simp [Store.keys])⟩

/-- THE POST of a law: true, and of what was there nothing has turned. -/
theorem law_post {fn : Func} {s : ChangeSpec} {apart fresh handsOn again : Bool} {tb : TypeId} (hl : laidOutB P = true) (hvars : s.vars = []) (hres : fn.resultTypes = #[tb]) (htb : P.underlying tb = some .bool)
    (hps : ∀ t ∈ fn.params.toList, P.readableRec t = true ∧ t < P.types.size) {W W' : World} {args : Array Value} {ds gs : List (DataW H)} {before : List MemPlace}
    (hsf : s.fn H ds = { results := [.lit (.bool true)], args := ds })
    (hW : DataW.Whole enc P fn.params.toList s.vars apart W args.toList ds gs before) (hb : Below W.heap.size W W') : s.post enc P fn apart fresh handsOn again W args (.bool true) W' := by
  have hlt : ∀ x ∈ before, x.block < W.heap.size := fun x hx => hW.lt x hx
  have hW' := hW
  obtain ⟨p, q, hA, hV, hbe, hfz, hnd⟩ := hW
  rw [hvars] at hV
  obtain ⟨rfl, rfl⟩ := trodVars_none hV
  rw [List.append_nil] at hbe
  subst hbe
  have hfn : s.fn H (ds ++ []) = { results := [.lit (.bool true)], args := ds } := by rw [List.append_nil]; exact hsf
  have hr : ∀ (b : Nat) (sp : Nat → Bool) (hd : Bool), DataW.TrodAll enc P W' b sp hd fn.resultTypes.toList ((Value.bool true).resultList fn.resultTypes.size) [.lit (.bool true)] [] := fun b sp hd => by
    rw [hres]
    exact trodAll_mk1 (shut_bool htb true)
  have ha : ∀ sp : Nat → Bool, (∀ x ∈ before, sp x.block = true) → DataW.TrodAll enc P W' 0 sp true fn.params.toList args.toList ds before := fun sp hsp => trodAll_below hl hb hps hlt hsp hA
  have hv : ∀ sp : Nat → Bool, DataW.TrodVars enc P W' sp s.vars [] [] := fun sp => by rw [hvars]; rfl
  refine ⟨ds, [], before, [], before, [], hW', ?_, ?_, ?_, hb.frame _, fun _ => ⟨ok_one hres rfl (okWide_bool_mk htb true), [.lit (.bool true)] ++ ds, [], [] ++ before, ⟨[] ++ before, [], ?_, hv _, by simp, ?_, hnd⟩, fun x hx _ => by simpa using hx⟩⟩
  · rw [hfn]; exact hr _ _ _
  · rw [hfn]; exact ha _ fun x hx => by simpa using hlt x hx
  · rw [hfn]; exact hv _
  · exact trodAll_append (ha _ fun _ _ => rfl) (hr _ _ _)
  · intro b off hx
    rw [List.nil_append] at hx
    rw [hb.frozen (p := ⟨b, off, none⟩) (hlt _ hx)]
    exact hfz b off hx

/-- Rows of one shape. -/
theorem sh_rows {α : Type} {S : List D → Prop} {f : α → List D} (h : ∀ ds, S ds → ∃ x, ds = f x) : ∀ {rows : List (List D)}, (∀ r ∈ rows, S r) → ∃ l : List α, rows = l.map f
  | [], _ => ⟨[], rfl⟩
  | r :: rows, hr => by
    obtain ⟨x, rfl⟩ := h r (hr r (by simp))
    obtain ⟨l, rfl⟩ := sh_rows h (rows := rows) fun q hq => hr q (List.mem_cons_of_mem _ hq)
    exact ⟨x :: l, rfl⟩

/-- A LAW's ROW: whatever the arguments, true; they read as they did. -/
theorem law_row {f : FuncId} {fn : Func} {s : ChangeSpec} {apart fresh handsOn again : Bool} {tb : TypeId} (n : Nat) (hl : laidOutB P = true) (hf : P.funcs[f]? = some fn) (hbody : fn.body.isNone = false) (hname : (fn.name == "runtime.NumGoroutine") = false)
    (hvars : s.vars = []) (hres : fn.resultTypes = #[tb]) (htb : P.underlying tb = some .bool)
    (hps : (fn.params.toList.all fun t => plainT P n t && P.readableRec t && decide (t < P.types.size)) = true) (hsf : ∀ ds : List (DataW H), ds.length = fn.params.toList.length → s.fn H ds = { results := [.lit (.bool true)], args := ds })
    (hlaw : ∀ Ds, ArgSh P n fn.params.toList Ds → PCall P (.func f) Ds (.bool true))
    {W : World} {base : Nat} {args : Array Value} {ds gs : List (DataW H)} {before : List MemPlace} (hval : ∀ (j : Nat) t v, fn.params[j]? = some t → args[j]? = some v → Value.okWide P W .any base t v)
    (hW : DataW.Whole enc P fn.params.toList s.vars apart W args.toList ds gs before) : Calls P f args W fun e W' => ∃ v, e = .returned v ∧ s.post enc P fn apart fresh handsOn again W args v W' := by
  have hps' : ∀ t ∈ fn.params.toList, plainT P n t = true ∧ P.readableRec t = true ∧ t < P.types.size := fun t ht => by
    rw [List.all_eq_true] at hps
    have := hps t ht
    simp only [Bool.and_eq_true, decide_eq_true_eq] at this
    exact ⟨this.1.1, this.1.2, this.2⟩
  have hW' := hW
  obtain ⟨p, q, hA, hV, hbe, hfz, hnd⟩ := hW
  obtain ⟨Ds, hR, hS⟩ := args_good (fun t ht => (hps' t ht).1) (fun j t v ht hv => hval j t v (by simpa using ht) (by simpa using hv)) hA
  have hlen : ds.length = fn.params.toList.length := trodAll_len hA
  have hc := hlaw Ds hS (wholeMem W) W args.toList (Conc.whole W) hR
  rcases hc with ⟨_, hc⟩ | ⟨v, w', hc, _⟩
  · refine (callsIn_wide.1 hc).mono fun e W' ⟨M', σ', r, st, _, hr, e1, e2⟩ => ?_
    subst e1
    cases e with
    | returned v =>
      simp only [ResR, R] at hr
      subst hr
      exact ⟨_, rfl, law_post hl hvars hres htb (fun t ht => (hps' t ht).2) (hsf ds hlen) hW' st.below⟩
    | panicked l => simp [ResR] at hr
    | outgrown => simp [ResR] at hr
  · have := callFunc_enter (w := W) hf hbody hname (List.toArray args.toList)
    rw [this] at hc
    cases hc

end

end Go.Proofs.Ytgccnkihonmlbaa
