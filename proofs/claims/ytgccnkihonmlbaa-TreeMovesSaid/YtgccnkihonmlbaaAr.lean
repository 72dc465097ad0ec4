/- Own layer, part 27: rows that are lent to a call that only computes; loops up to the order of boxes; further appends. -/
import Derived.Test.YtgccnkihonmlbaaAo
namespace Go.Proofs.Ytgccnkihonmlbaa
open Go Go.RowKit
set_option linter.unusedSimpArgs false
set_option linter.unusedVariables false

section
variable {P : Program} {M : Mem} {w : World} {σ : Store} {r : Option Nat} {nt : Nat}

/-- Data that names no place of memory. -/
def D.scal1 : D → Bool
  | .int .. | .bool _ | .str _ => true
  | _ => false
def D.scal : D → Bool
  | .tup ds => ds.all D.scal1
  | d => d.scal1
theorem scal1_R {M' : Mem} {d : D} {v : Value} (hs : d.scal1 = true) (h : R M d v) : R M' d v := by
  cases d <;> simp only [D.scal1, Bool.false_eq_true] at hs <;> simp only [R] at h ⊢ <;> exact h
theorem scalAll_R {M' : Mem} : ∀ {ds : List D} {vs : List Value}, ds.all D.scal1 = true → RAll M ds vs → RAll M' ds vs
  | [], [], _, _ => by simp only [RAll]
  | _ :: _, _ :: _, hs, h => by
    simp only [RAll, List.all_cons, Bool.and_eq_true] at h hs ⊢
    exact ⟨scal1_R hs.1 h.1, scalAll_R hs.2 h.2⟩
  | [], _ :: _, _, h => by simp [RAll] at h
  | _ :: _, [], _, h => by simp [RAll] at h
theorem scal_R {M' : Mem} {d : D} {v : Value} (hs : d.scal = true) (h : R M d v) : R M' d v := by
  cases d with
  | tup ds =>
    simp only [D.scal] at hs
    simp only [R] at h ⊢
    obtain ⟨vs, e, h1⟩ := h
    exact ⟨vs, e, scalAll_R hs h1⟩
  | _ => exact scal1_R (by simpa only [D.scal] using hs) h

theorem RAll_fra {M' : Mem} {b sz : Nat} {rows : List (List D)} (hle : Mem.le M M') (hb : RRows M' sz rows b 0) : ∀ {ds : List D} {vs : List Value}, RAll M ds vs → RAll M' (ds.map (fra b sz rows)) vs
  | [], [], _ => by simp [RAll]
  | _ :: _, _ :: _, h => by
    simp only [RAll, List.map_cons] at h ⊢
    exact ⟨R_fra hle hb h.1, RAll_fra hle hb h.2⟩
  | [], _ :: _, h => by simp [RAll] at h
  | _ :: _, [], h => by simp [RAll] at h

/-- ROWS ARE LENT to a call that only computes. -/
theorem PCall.lend1 {f : Fn} {args : List D} {d : D} {b sz cap : Nat} {rows : List (List D)} (h : PCall P f (args.map (fra b sz rows)) d) (hd : d.scal = true) :
    ACall P f args [(b, .arr sz rows cap)] fun r σ' => r = .ret d ∧ σ' = [(b, .arr sz rows cap)] := by
  intro M w vs hc hr
  have hg : Store.get [(b, .arr sz rows cap)] b = some (.arr sz rows cap) := by simp [Store.get]
  obtain ⟨⟨us, T, hh, h2, h3, h4, h5⟩, hm⟩ := hc.box b _ (Store.mem_of_get hg)
  obtain ⟨hle, c1, s1⟩ := hc.freeze hg hh hm
  have hrows : RRows (boxMem M b us) sz rows b 0 := by
    refine RRows.of_flat (fun r hr => (h5 r hr).1) (RCells_of _ b 0 (h4.mono hle) fun i v hv => ?_)
    show (if b = b then _ else _) = _
    rw [if_pos rfl, Nat.zero_add]
    rw [List.getElem?_take] at hv
    split at hv
    · exact hv
    · cases hv
  have hdel : Store.del [(b, Box.arr sz rows cap)] b = [] := by simp [Store.del]
  rw [hdel] at c1 s1
  have hlt : b < w.heap.size := (hc.box b _ (Store.mem_of_get hg)).lt
  refine (h (boxMem M b us) w vs c1 (RAll_fra hle hrows hr)).mono ?_
  rintro e w' ⟨M', σ', r, s2, c2, r2, rfl, rfl⟩
  have hM2 : ∀ b' o x, (fun b' o => if b' = b then none else M' b' o : Mem) b' o = some x → b' ≠ b ∧ M' b' o = some x := by
    intro b' o x hx
    by_cases hbb : b' = b
    · simp [hbb] at hx
    · exact ⟨hbb, by simpa [hbb] using hx⟩
  have hle2 : Mem.le M (fun b' o => if b' = b then none else M' b' o) := by
    intro b' o x hx
    by_cases hbb : b' = b
    · subst hbb; rw [hm o] at hx; cases hx
    · show (if b' = b then none else M' b' o) = some x
      rw [if_neg hbb]
      exact s2.le _ _ _ (hle _ _ _ hx)
  have hblk : w'.heap[b]? = w.heap[b]? := s2.block b hlt (by simp [Store.keys])
  refine ⟨(fun b' o => if b' = b then none else M' b' o), [(b, .arr sz rows cap)], .ret d, ?_, ?_, ?_, rfl, rfl⟩
  · refine ⟨hle2, s2.os, s2.tape, s2.output, s2.size, fun k hk hn => s2.block k hk (by simp [Store.keys]), fun k hk => .inl hk, fun b' o x hx => ?_⟩
    obtain ⟨hbb, hx'⟩ := hM2 b' o x hx
    rcases s2.grow b' o x hx' with h | h | h
    · left
      have : boxMem M b us b' o = some x := h
      unfold boxMem at this
      rwa [if_neg hbb] at this
    · exact .inr (.inl h)
    · simp [Store.keys] at h
  · refine ⟨fun b' o x hx => c2.mem b' o x (hM2 b' o x hx).2, by simp [Store.keys], fun k x hk => ?_⟩
    simp only [List.mem_singleton, Prod.mk.injEq] at hk
    obtain ⟨rfl, rfl⟩ := hk
    exact ⟨⟨us, T, hblk.trans hh, h2, h3, h4.mono hle2, h5⟩, fun o => by simp⟩
  · cases e with
    | returned v => exact scal_R hd r2
    | _ => simp only [ResR] at r2

theorem Store.perm_del : ∀ {σ : Store} {b : Nat} {x : Box}, σ.get b = some x → σ.Perm ((b, x) :: σ.del b)
  | [], _, _, h => by simp [Store.get] at h
  | (c, y) :: σ, b, x, h => by
    unfold Store.get at h
    unfold Store.del
    split at h
    · rename_i e; cases h; subst e; simp
    · rename_i e
      rw [if_neg e]
      exact (List.Perm.cons _ (Store.perm_del h)).trans (List.Perm.swap _ _ _)

theorem PCall.lend {f : Fn} {args : List D} {d : D} {b sz cap : Nat} {rows : List (List D)} (h : PCall P f (args.map (fra b sz rows)) d) (hd : d.scal = true) (hg : σ.get b = some (.arr sz rows cap)) :
    ACall P f args σ fun r σ' => r = .ret d ∧ σ'.Perm σ := by
  have h1 := ACall.frame (σ.del b) (h.lend1 (cap := cap) hd)
  refine ACall.perm (Store.perm_del hg) (ACall.mono h1 ?_)
  rintro r τ ⟨σ1, rfl, e1, rfl⟩
  exact ⟨_, .refl _, e1, (Store.perm_del hg).symm⟩

/-- A call to which rows are lent. -/
theorem callL {g : Nat} {fs cs xs : List D} {d : D} {K X : D → Store → Prop} (b : Nat) {sz cap : Nat} {rows : List (List D)} (hg : σ.get b = some (.arr sz rows cap)) (h : PCall P (.func g) ((fs ++ xs ++ cs).map (fra b sz rows)) d) (hd : d.scal = true)
    (hk : ∀ σ', σ'.Perm σ → K d σ') : CallK P (.fn (.func g) fs cs) xs K X σ := by
  refine ⟨(fun hy => by cases hy), .inr (ACall.mono (h.lend hd hg) ?_)⟩
  rintro r σ' ⟨rfl, hp⟩
  exact hk _ hp
/-- A call to which the rows of the one box that there is are lent. -/
theorem callL1 {g : Nat} {fs cs xs : List D} {d : D} {K X : D → Store → Prop} {b : Nat} {sz cap : Nat} {rows : List (List D)} (h : PCall P (.func g) ((fs ++ xs ++ cs).map (fra b sz rows)) d) (hd : d.scal = true)
    (hk : K d [(b, .arr sz rows cap)]) : CallK P (.fn (.func g) fs cs) xs K X [(b, .arr sz rows cap)] := by
  refine ⟨(fun hy => by cases hy), .inr (ACall.mono (h.lend1 hd) ?_)⟩
  rintro r σ' ⟨rfl, rfl⟩
  exact hk
theorem fra_arr {b sz n cap : Nat} {rows : List (List D)} (h : n = rows.length ∧ n ≤ cap ∧ n ≤ lim) : fra b sz rows (.arr b sz n cap) = .sl sz rows .no := by
  obtain ⟨rfl, h2, h3⟩ := h
  show (if b = b ∧ sz = sz ∧ rows.length ≤ rows.length ∧ rows.length ≤ cap ∧ rows.length ≤ lim then D.sl sz (rows.take rows.length) .no else _) = _
  rw [if_pos ⟨rfl, rfl, Nat.le_refl _, h2, h3⟩, List.take_length]

/-- A LOOP, its states' boxes listed in some order. -/
theorem lpp {α : Type} (E : α → Env) (S : α → Store) (ok : α → Prop) (μ : α → Nat) (x0 : α) {c : Code} {env : Env} {Q : AE → Env → Store → Prop} (h0 : ok x0 ∧ EnvLe (E x0) env ∧ σ.Perm (S x0))
    (h : ∀ x, ok x → AWp P r nt c (E x) (S x) (thenQ (fun env' σ' => ∃ y, (ok y ∧ μ y < μ x) ∧ EnvLe (E y) env' ∧ σ'.Perm (S y)) Q)) : AWp P r nt (.loop c) env σ Q := by
  refine lp (α := α × Store) (fun x => E x.1) (fun x => x.2) (fun x => ok x.1 ∧ x.2.Perm (S x.1)) (fun x => μ x.1) (x0, σ) ⟨⟨h0.1, h0.2.2⟩, h0.2.1, .refl _⟩ ?_
  rintro ⟨x, τ⟩ ⟨hx, hp⟩
  refine AWp.mono (weakP (E x) (EnvLe.refl _) hp (h x hx)) ?_
  intro e env' σ' hq
  cases e with
  | normal =>
    obtain ⟨y, ⟨h1, h2⟩, h3, h4⟩ := hq
    exact ⟨(y, σ'), ⟨⟨h1, h4⟩, h2⟩, h3, .refl _⟩
  | _ => exact hq

/-- append to a row with room of its own, whatever is put in. -/
theorem napp_own {ts : Array TypeId} {T U V : TypeId} {g : Bool} {sz by_ b c n : Nat} {z : List D} {rows new : List (List D)} {ρ : Store} {tk : Tok} {K : D → Store → Prop}
    (hn : rows.length = n) (hfr : b ∉ ρ.keys) (hT : ts[0]? = some T) (hV : ts[1]? = some V) (hV' : (sle P V).isSome = true) (hs : sle P T = some (U, g, sz)) (hy : eby P T = some by_) (hz : zc P U = some z)
    (hside : (z.length = sz ∧ 0 < sz ∧ 0 < by_) ∧ new.all (·.all D.isCell) = true ∧ (n + new.length) * by_ ≤ capB)
    (hK : ∀ b' c', b' ∉ ρ.keys → K (.sl sz (rows ++ new) (.own b' c')) ((b', .tail sz (n + new.length) c') :: ρ)) :
    napp P ((b, .tail sz n c) :: ρ) ts (.sl sz rows (.own b c)) (.sl sz new tk) K := by
  subst hn
  obtain ⟨⟨hz1, h0, hb0⟩, hc, hfit⟩ := hside
  unfold napp
  simp only [hT, Option.bind_some, hs, hy, rowsOf]
  refine ⟨⟨⟨z, hz, hz1⟩, ⟨V, hV, .inl hV'⟩, h0, hb0, by simp, by simp, hc, hfit⟩, ⟨by simp, by simp [Store.get]⟩, fun b' cap' hb => ?_⟩
  have hb' : b' ∉ ρ.keys := by
    rcases hb with rfl | h
    · exact hfr
    · intro hk; exact h (by simp [Store.keys] at hk ⊢; exact .inr hk)
  simpa [Store.ren] using hK b' cap' hb'
/-- append of nothing to nothing. -/
theorem napp_nn {ts : Array TypeId} {T U V : TypeId} {g : Bool} {sz by_ sz0 sz1 : Nat} {z : List D} {tk : Tok} {K : D → Store → Prop}
    (hT : ts[0]? = some T) (hV : ts[1]? = some V) (hV' : (sle P V).isSome = true) (hs : sle P T = some (U, g, sz)) (hy : eby P T = some by_) (hz : zc P U = some z)
    (hside : z.length = sz ∧ 0 < sz ∧ 0 < by_) (hK : K (.sl sz [] .nil) σ) : napp P σ ts (.sl sz0 [] .nil) (.sl sz1 [] tk) K := by
  obtain ⟨hz1, h0, hb0⟩ := hside
  unfold napp
  simp only [hT, Option.bind_some, hs, hy, rowsOf]
  exact ⟨⟨⟨z, hz, hz1⟩, ⟨V, hV, .inl hV'⟩, h0, hb0, by simp, by simp, by simp, by simp [capB]⟩, fun _ => hK, fun e => absurd rfl e⟩
/-- append to nothing. -/
theorem napp_n {ts : Array TypeId} {T U V : TypeId} {g : Bool} {sz by_ sz0 : Nat} {z : List D} {new : List (List D)} {tk : Tok} {K : D → Store → Prop}
    (hT : ts[0]? = some T) (hV : ts[1]? = some V) (hV' : (sle P V).isSome = true) (hs : sle P T = some (U, g, sz)) (hy : eby P T = some by_) (hz : zc P U = some z)
    (hside : (z.length = sz ∧ 0 < sz ∧ 0 < by_) ∧ new.all (·.all D.isCell) = true ∧ new ≠ [] ∧ new.length * by_ ≤ capB)
    (hK : ∀ b c, b ∉ σ.keys → K (.sl sz new (.own b c)) ((b, .tail sz new.length c) :: σ)) : napp P σ ts (.sl sz0 [] .nil) (.sl sz new tk) K := by
  obtain ⟨⟨hz1, h0, hb0⟩, hc, hne, hfit⟩ := hside
  unfold napp
  simp only [hT, Option.bind_some, hs, hy, rowsOf]
  exact ⟨⟨⟨z, hz, hz1⟩, ⟨V, hV, .inl hV'⟩, h0, hb0, by simp, by simp, hc, by simpa using hfit⟩, fun e => absurd e hne, fun _ b cap hb => hK b cap hb⟩
/-- A call of a function, or a closure, that only computes. -/
theorem callP {g : Nat} {fs cs xs : List D} {d : D} {K X : D → Store → Prop} (h : PCall P (.func g) (fs ++ xs ++ cs) d) (hk : K d σ) : CallK P (.fn (.func g) fs cs) xs K X σ :=
  ⟨(fun hy => by cases hy), .inl ⟨d, h, hk⟩⟩
/-- append of zeros to nothing. -/
theorem nappZ_of {ts : Array TypeId} {T U V : TypeId} {k : IntKind} {g : Bool} {sz by_ sz0 : Nat} {n : Int} {z : List D} {K : D → Store → Prop}
    (hT : ts[0]? = some T) (hV : ts[1]? = some V) (hk : ink P V = some k) (hs : sle P T = some (U, g, sz)) (hy : eby P T = some by_) (hz : zc P U = some z)
    (hside : z.length = sz ∧ 0 < sz ∧ 0 < by_ ∧ 0 < n ∧ n * by_ ≤ capB) (hK : ∀ b c, b ∉ σ.keys → n.toNat ≤ c → K (.arr b sz n.toNat c) ((b, .arr sz (List.replicate n.toNat z) c) :: σ)) :
    nappZ P σ ts (.sl sz0 [] .nil) (.int .i64 n) K := by
  unfold nappZ
  simp only [hT, hV, Option.bind_some, hs, hy, hk, hz]
  exact ⟨hside, hK⟩
/-- append into rows that are written to, where there is room. -/
theorem nappM_room {ts : Array TypeId} {T U V : TypeId} {g : Bool} {sz by_ b c n : Nat} {z : List D} {rows new : List (List D)} {tk : Tok} {K : D → Store → Prop}
    (hg : σ.get b = some (.arr sz rows c)) (hT : ts[0]? = some T) (hV : ts[1]? = some V) (hV' : (sle P V).isSome = true) (hs : sle P T = some (U, g, sz)) (hy : eby P T = some by_) (hz : zc P U = some z)
    (hside : (z.length = sz ∧ 0 < sz ∧ 0 < by_) ∧ new.all (·.all D.isCell) = true ∧ n ≤ rows.length ∧ n + new.length ≤ c ∧ (n + new.length) * by_ ≤ capB)
    (hK : K (.arr b sz (n + new.length) c) (σ.upd b (.arr sz (rows.take n ++ new ++ rows.drop (n + new.length)) c))) :
    nappM P σ ts (.arr b sz n c) (.sl sz new tk) K := by
  obtain ⟨⟨hz1, h0, hb0⟩, hc, hnr, hroom, hfit⟩ := hside
  unfold nappM
  simp only [hT, Option.bind_some, hs, hy, rowsOf, hg]
  exact ⟨⟨⟨z, hz, hz1⟩, ⟨V, hV, .inl hV'⟩, h0, hb0, by simp, hc⟩, ⟨trivial, trivial, trivial, hnr, hfit⟩, fun _ => hK, fun h => absurd h (by omega)⟩
/-- append to a row that is written to, whatever boxes there are beside it: the box comes first. -/
theorem nappM_growN' {ts : Array TypeId} {T U V : TypeId} {g : Bool} {sz by_ n : Nat} {z : List D} {rows new : List (List D)} {o : Option (Nat × Nat)} {ρ : Store} {tk : Tok} {K : D → Store → Prop}
    (hn : rows.length = n) (hok : mpC n o) (hfr : apFr o ρ) (hT : ts[0]? = some T) (hV : ts[1]? = some V) (hV' : (sle P V).isSome = true) (hs : sle P T = some (U, g, sz)) (hy : eby P T = some by_) (hz : zc P U = some z)
    (hside : (z.length = sz ∧ 0 < sz ∧ 0 < by_) ∧ new.all (·.all D.isCell) = true ∧ new ≠ [] ∧ (n + new.length) * by_ ≤ capB)
    (hK : ∀ b c, b ∉ ρ.keys → n + new.length ≤ c → K (mpD sz (n + new.length) (some (b, c))) (mpS sz (rows ++ new) (some (b, c)) ++ ρ)) :
    nappM P (mpS sz rows o ++ ρ) ts (mpD sz n o) (.sl sz new tk) K := by
  subst hn
  exact nappM_grow hok hfr hT hV hV' hs hy hz hside hK
/-- The result may be told with less. -/
theorem RCall.le {f : Fn} {args : List D} {α : Type} {F : α → D} {S : α → Store} {ok : α → Prop} (h : ACall P f args σ fun r σ' => ∃ y, ok y ∧ (∃ d', r = .ret d' ∧ DLe (F y) d') ∧ σ' = S y) : RCall P f args σ F S ok := by
  refine ACall.le (ACall.mono h ?_)
  rintro r σ' ⟨y, hy, ⟨d', rfl, hd⟩, rfl⟩
  exact ⟨.ret (F y), hd, y, hy, rfl, rfl⟩
theorem retRL {rs : List ResultVar} {α : Type} {F : α → D} {S : α → Store} {ok : α → Prop} (y : α) {env : Env} (hs : (S y).Sublist σ) (ho : ok y) (h : (resD P σ env rs).1 ∧ DLe (F y) (resD P σ env rs).2) :
    retQ P rs (fun r σ' => ∃ y, ok y ∧ (∃ d', r = .ret d' ∧ DLe (F y) d') ∧ σ' = S y) .ret env σ := ⟨h.1, S y, hs, y, ho, ⟨_, rfl, h.2⟩, rfl⟩
/-- The one thing that is known is rows that stay from now on. -/
theorem fz1 {c : Code} {t b sz n cap : Nat} {rows : List (List D)} {Q : AE → Env → Store → Prop} (hg : σ.get b = some (.arr sz rows cap)) (hn : n = rows.length ∧ n ≤ cap ∧ n ≤ lim)
    (h : AWp P r nt c (mk [(t, .sl sz rows .no)]) [] Q) : AWp P r nt c (mk [(t, .arr b sz n cap)]) σ Q := by
  refine fza b [t] [] hg ?_
  refine weak (mk [(t, .sl sz rows .no)]) (EnvLe.of_l ⟨?_, trivial⟩) (List.nil_sublist _) h
  show (bif [t].contains t then fra b sz rows (mk [(t, .arr b sz n cap)] t) else _) = _
  have e1 : [t].contains t = true := by simp
  have e2 : mk [(t, D.arr b sz n cap)] t = .arr b sz n cap := by simp [mk]
  rw [e1, e2, fra_arr hn]; rfl
end
end Go.Proofs.Ytgccnkihonmlbaa
