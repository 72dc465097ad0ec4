/- Own layer, part 24: regions where two orders matter; stores whose boxes are listed otherwise. -/
import Derived.Test.YtfjnohmdilmfhaaGreatDoorY02
import Derived.Maps.RangeRun
import Derived.LoopNIn
import Derived.SizedLaws
import Derived.Test.YtfjnohmdilmfhaaGreatDoorProg
namespace Go.Proofs.YtfjnohmdilmfhaaGreatDoor
open Go Go.RowKit
set_option linter.unusedSimpArgs false
set_option linter.unusedVariables false
section
variable {P : Program} {M : Mem} {w : World} {σ : Store} {r : Option Nat} {nt : Nat} {ops : Array Oper} {imm : List Nat} {soft : List Nat} {gt : List (Nat × Nat)}
/-- The store may list its boxes otherwise. -/
theorem weakP {c : Code} {env : Env} (E : Env) {σ' : Store} {Q : AE → Env → Store → Prop} (hle : EnvLe E env) (hp : σ.Perm σ') (h : AWp P r nt c E σ' Q) : AWp P r nt c env σ Q := by
 intro M w a B hc he hd
 have hk : σ.keys.Perm σ'.keys := hp.map Prod.fst
 have hd' : DefOK B σ' w a.defers := by obtain ⟨hB, Ds, e, hn, hh⟩ := hd; exact ⟨hB, Ds, e, hn, fun D hD => ⟨(hh D hD).1, (hh D hD).2.1, fun hk' => (hh D hD).2.2 (hk.mem_iff.2 hk')⟩⟩
 exact wpIn_mono (h M w a B (hc.perm hp) (hle.R he) hd') (rgPost.trans ((Step.refl M w σ).perm (.refl _) hp))
/-- A call, the store's boxes listed otherwise. -/
theorem ACall.perm {f : Fn} {args : List D} {Q : Res → Store → Prop} {σ' : Store} (hp : σ.Perm σ') (h : ACall P f args σ' fun r τ' => ∃ τ, τ'.Perm τ ∧ Q r τ) : ACall P f args σ Q := by
 intro M w vs hc hr
 refine (h M w vs (hc.perm hp) hr).mono ?_
 rintro e w' ⟨M', σ1, r, s1, c1, r1, τ, hp', hq⟩
 exact ⟨M', τ, r, Step.perm hp hp' s1, c1.perm hp', r1, hq⟩
theorem RCall.perm {f : Fn} {args : List D} {α : Type} {F : α → D} {S : α → Store} {ok : α → Prop} {σ' : Store} {S' : α → Store} (h : RCall P f args σ' F S' ok) (hp : σ.Perm σ') (hp' : ∀ y, (S' y).Perm (S y)) : RCall P f args σ F S ok :=
 ACall.perm hp (ACall.mono h fun r τ' ⟨y, hy, h1, h2⟩ => ⟨S y, h2 ▸ hp' y, y, hy, h1, rfl⟩)
theorem ACall.nodupQ {f : Fn} {args : List D} {Q : Res → Store → Prop} (h : ACall P f args σ Q) : ACall P f args σ fun r τ => Q r τ ∧ τ.keys.Nodup := by
 intro M w vs hc hr
 refine (h M w vs hc hr).mono ?_
 rintro e w' ⟨M', σ1, r, s1, c1, r1, hq⟩
 exact ⟨M', σ1, r, s1, c1, r1, hq, c1.nodup⟩
theorem RCall.nodup {f : Fn} {args : List D} {α : Type} {F : α → D} {S : α → Store} {ok : α → Prop} (h : RCall P f args σ F S ok) : RCall P f args σ F S fun y => ok y ∧ (S y).keys.Nodup :=
 ACall.mono (ACall.nodupQ h) fun r τ ⟨⟨y, h1, h2, h3⟩, h4⟩ => ⟨y, ⟨h1, h3 ▸ h4⟩, h2, h3⟩
/-- Different boxes of a store. -/
theorem ACall.nodup {f : Fn} {args : List D} {Q : Res → Store → Prop} (h : σ.keys.Nodup → ACall P f args σ Q) : ACall P f args σ Q :=
 fun M w vs hc hr => h hc.nodup M w vs hc hr
def chkF (soft : List Nat) (ops : Array Oper) (F : Array Bool → Bool) : List Nat → Array Bool → Bool
 | [], listed => F listed
 | i :: is, listed => (Region.ready .any ops listed).contains i && (match ops[i]? with
     | some o => ((quiet o.op || softC soft o) && Region.free .any ops listed i) || Region.ready .any ops listed == [i]
     | none => false) && chkF soft ops F is (listed.setIfInBounds i true)
/-- Orders: where two operations stand ready, both ways. -/
inductive Tr
 | fin
 | br (i : Nat) (pi : List Nat) (ti : Tr) (k : Nat) (pk : List Nat) (tk : Tr)
def Tr.size : Tr → Nat
 | .fin => 0
 | .br _ pi ti _ _ _ => pi.length + ti.size + 1
def chkTr (soft : List Nat) (ops : Array Oper) : Tr → Array Bool → Bool
 | .fin, l => (Region.ready .any ops l).isEmpty
 | .br i pi ti k pk tk, l => Region.ready .any ops l == [i, k] && pi.length + ti.size == pk.length + tk.size && chkF soft ops (chkTr soft ops ti) pi (l.setIfInBounds i true) && chkF soft ops (chkTr soft ops tk) pk (l.setIfInBounds k true)
def non (l : List Nat) : List (Nat × Option Store) := l.map fun i => (i, none)
def SET (P : Program) (imm soft : List Nat) (gt : List (Nat × Nat)) (ops : Array Oper) (κ : Env → Store → Prop) (X : D → Store → Prop) : Tr → Env → Store → Prop
 | .fin, env, σ => κ env σ
 | .br i pi ti k pk tk, env, σ => SE P imm soft gt ops (SET P imm soft gt ops κ X ti) X (non (i :: pi)) env σ ∧ SE P imm soft gt ops (SET P imm soft gt ops κ X tk) X (non (k :: pk)) env σ
/-- Operations by their numbers. -/
inductive Pk (l : List Oper) : List Nat → List Oper → Prop
 | nil : Pk l [] []
 | cons {i : Nat} {is : List Nat} {o : Oper} {os : List Oper} : l[i]? = some o → Pk l is os → Pk l (i :: is) (o :: os)
theorem Pk.map {l : List Oper} {is : List Nat} {os : List Oper} (h : Pk l is os) : is.map (fun i => l.toArray[i]?) = os.map some := by
 induction h with
 | nil => rfl
 | cons h _ ih => rw [List.map_cons, List.map_cons, ih, List.getElem?_toArray, h]
theorem SET_fin {κ : Env → Store → Prop} {X : D → Store → Prop} {env : Env} (h : κ env σ) : SET P imm soft gt ops κ X .fin env σ := h
theorem SET_br {l : List Oper} {κ : Env → Store → Prop} {X : D → Store → Prop} {env : Env} {i k : Nat} {pi pk : List Nat} {ti tk : Tr} {oi ok : List Oper} (hi : Pk l (i :: pi) oi) (hk : Pk l (k :: pk) ok)
  (h1 : vdr P imm soft gt (SET P imm soft gt l.toArray κ X ti) X oi env σ) (h2 : vdr P imm soft gt (SET P imm soft gt l.toArray κ X tk) X ok env σ) : SET P imm soft gt l.toArray κ X (.br i pi ti k pk tk) env σ :=
 ⟨SE_of_vdr hi.map h1, SE_of_vdr hk.map h2⟩
theorem SE_append {κ : Env → Store → Prop} {X : D → Store → Prop} : ∀ (c d : List (Nat × Option Store)) (env : Env) (σ : Store), SE P imm soft gt ops κ X (c ++ d) env σ = SE P imm soft gt ops (fun env σ => SE P imm soft gt ops κ X d env σ) X c env σ
 | [], d, env, σ => rfl
 | (i, q) :: c, d, env, σ => by
  have ih := fun env σ => SE_append (κ := κ) (X := X) c d env σ
  simp only [List.cons_append, SE, ih]
theorem SE_mono {κ κ' : Env → Store → Prop} {X : D → Store → Prop} (hk : ∀ env σ, κ env σ → κ' env σ) : ∀ {c : List (Nat × Option Store)} {env : Env} {σ : Store}, SE P imm soft gt ops κ X c env σ → SE P imm soft gt ops κ' X c env σ
 | [], env, σ, h => hk _ _ h
 | (i, q) :: c, env, σ, h => by
  simp only [SE] at h ⊢
  split at h
  ·rename_i o ho
   cases hs : softC soft o with
   | true =>
    simp only [hs, cond_true] at h ⊢
    obtain ⟨d, h1, h2⟩ := h
    exact ⟨d, h1, SE_mono hk h2⟩
   | false =>
    simp only [hs, cond_false] at h ⊢
    cases hq : quiet o.op with
    | true =>
     simp only [hq, cond_true] at h ⊢
     exact ⟨h.1, h.2.1, SE_mono hk h.2.2⟩
    | false =>
     simp only [hq, cond_false] at h ⊢
     exact nv_mono (fun d σ' hh => ⟨hh.1, SE_mono hk hh.2⟩) h
  ·exact h.elim
theorem chkF_append (F : Array Bool → Bool) : ∀ (c d : List Nat) (l : Array Bool), chkF soft ops F (c ++ d) l = chkF soft ops (fun l => chkF soft ops F d l) c l
 | [], d, l => rfl
 | i :: c, d, l => by simp only [List.cons_append, chkF, chkF_append F c d]
theorem ready_in_chkF {F : Array Bool → Bool} : ∀ {c : List Nat} {j : Nat} {listed : Array Bool}, chkF soft ops F c listed = true → j ∈ Region.ready .any ops listed → j ∉ c → ∃ l, F l = true ∧ j ∈ Region.ready .any ops l
 | [], j, listed, h, hj, _ => ⟨listed, h, hj⟩
 | i :: c, j, listed, h, hj, hn => by
  simp only [List.mem_cons, not_or] at hn
  simp only [chkF, Bool.and_eq_true] at h
  exact ready_in_chkF h.2 (ready_mono hj hn.1) hn.2
end
end Go.Proofs.YtfjnohmdilmfhaaGreatDoor
/- Own layer, part 27: rows that are lent to a call that only computes; loops up to the order of boxes; further appends. -/
namespace Go.Proofs.YtfjnohmdilmfhaaGreatDoor
open Go Go.RowKit
set_option linter.unusedSimpArgs false
set_option linter.unusedVariables false
section
variable {P : Program} {M : Mem} {w : World} {σ : Store} {r : Option Nat} {nt : Nat}
/-- Data that names no place of memory. -/
def D.scal1 : D → Bool
 | .int .. | .bool _ | .str _ => true
 | _ => false
def D.scal : D → Bool
 | .tup ds => ds.all D.scal1
 | d => d.scal1
theorem scal1_R {M' : Mem} {d : D} {v : Value} (hs : d.scal1 = true) (h : R M d v) : R M' d v := by
 cases d <;> simp only [D.scal1, Bool.false_eq_true] at hs <;> simp only [R] at h ⊢ <;> exact h
theorem scalAll_R {M' : Mem} : ∀ {ds : List D} {vs : List Value}, ds.all D.scal1 = true → RAll M ds vs → RAll M' ds vs
 | [], [], _, _ => by simp only [RAll]
 | _ :: _, _ :: _, hs, h => by
  simp only [RAll, List.all_cons, Bool.and_eq_true] at h hs ⊢
  exact ⟨scal1_R hs.1 h.1, scalAll_R hs.2 h.2⟩
 | [], _ :: _, _, h => by simp [RAll] at h
 | _ :: _, [], _, h => by simp [RAll] at h
theorem scal_R {M' : Mem} {d : D} {v : Value} (hs : d.scal = true) (h : R M d v) : R M' d v := by
 cases d with
 | tup ds =>
  simp only [D.scal] at hs
  simp only [R] at h ⊢
  obtain ⟨vs, e, h1⟩ := h
  exact ⟨vs, e, scalAll_R hs h1⟩
 | _ => exact scal1_R (by simpa only [D.scal] using hs) h
theorem RAll_fra {M' : Mem} {b sz : Nat} {rows : List (List D)} (hle : Mem.le M M') (hb : RRows M' sz rows b 0) : ∀ {ds : List D} {vs : List Value}, RAll M ds vs → RAll M' (ds.map (fra b sz rows)) vs
 | [], [], _ => by simp [RAll]
 | _ :: _, _ :: _, h => by
  simp only [RAll, List.map_cons] at h ⊢
  exact ⟨R_fra hle hb h.1, RAll_fra hle hb h.2⟩
 | [], _ :: _, h => by simp [RAll] at h
 | _ :: _, [], h => by simp [RAll] at h
/-- ROWS ARE LENT to a call that only computes. -/
theorem PCall.lend1 {f : Fn} {args : List D} {d : D} {b sz cap : Nat} {rows : List (List D)} (h : PCall P f (args.map (fra b sz rows)) d) (hd : d.scal = true) :
  ACall P f args [(b, .arr sz rows cap)] fun r σ' => r = .ret d ∧ σ' = [(b, .arr sz rows cap)] := by
 intro M w vs hc hr
 have hg : Store.get [(b, .arr sz rows cap)] b = some (.arr sz rows cap) := by simp [Store.get]
 obtain ⟨⟨us, T, hh, h2, h3, h4, h5⟩, hm⟩ := hc.box b _ (Store.mem_of_get hg)
 obtain ⟨hle, c1, s1⟩ := hc.freeze hg hh hm
 have hrows : RRows (boxMem M b us) sz rows b 0 := by
  refine RRows.of_flat (fun r hr => (h5 r hr).1) (RCells_of _ b 0 (h4.mono hle) fun i v hv => ?_)
  show (if b = b then _ else _) = _
  rw [if_pos rfl, Nat.zero_add]
  rw [List.getElem?_take] at hv
  split at hv
  ·exact hv
  ·cases hv
 have hdel : Store.del [(b, Box.arr sz rows cap)] b = [] := by simp [Store.del]
 rw [hdel] at c1 s1
 have hlt : b < w.heap.size := (hc.box b _ (Store.mem_of_get hg)).lt
 refine (h (boxMem M b us) w vs c1 (RAll_fra hle hrows hr)).mono ?_
 rintro e w' ⟨M', σ', r, s2, c2, r2, rfl, rfl⟩
 have hM2 : ∀ b' o x, (fun b' o => if b' = b then none else M' b' o : Mem) b' o = some x → b' ≠ b ∧ M' b' o = some x := by
  intro b' o x hx
  by_cases hbb : b' = b
  ·simp [hbb] at hx
  ·exact ⟨hbb, by simpa [hbb] using hx⟩
 have hle2 : Mem.le M (fun b' o => if b' = b then none else M' b' o) := by
  intro b' o x hx
  by_cases hbb : b' = b
  ·subst hbb; rw [hm o] at hx; cases hx
  ·show (if b' = b then none else M' b' o) = some x
   rw [if_neg hbb]
   exact s2.le _ _ _ (hle _ _ _ hx)
 have hblk : w'.heap[b]? = w.heap[b]? := s2.block b hlt (by simp [Store.keys])
 refine ⟨(fun b' o => if b' = b then none else M' b' o), [(b, .arr sz rows cap)], .ret d, ?_, ?_, ?_, rfl, rfl⟩
 ·refine ⟨hle2, s2.os, s2.tape, s2.output, s2.size, fun k hk hn => s2.block k hk (by simp [Store.keys]), fun k hk => .inl hk, fun b' o x hx => ?_⟩
  obtain ⟨hbb, hx'⟩ := hM2 b' o x hx
  rcases s2.grow b' o x hx' with h | h | h
  ·left
   have : boxMem M b us b' o = some x := h
   unfold boxMem at this
   rwa [if_neg hbb] at this
  ·exact .inr (.inl h)
  ·simp [Store.keys] at h
 ·refine ⟨fun b' o x hx => c2.mem b' o x (hM2 b' o x hx).2, by simp [Store.keys], fun k x hk => ?_, hc.glob.of (fun k hk hn => s2.block k hk (by simp [Store.keys])) (fun k hk => .inl hk)⟩
  simp only [List.mem_singleton, Prod.mk.injEq] at hk
  obtain ⟨rfl, rfl⟩ := hk
  exact ⟨⟨us, T, hblk.trans hh, h2, h3, h4.mono hle2, h5⟩, fun o => by simp⟩
 ·cases e with
  | returned v => exact scal_R hd r2
  | _ => simp only [ResR] at r2
/-- A call to which the rows of the one box that there is are lent. -/
theorem callL1 {g : Nat} {fs cs xs : List D} {d : D} {K X : D → Store → Prop} {b : Nat} {sz cap : Nat} {rows : List (List D)} (h : PCall P (.func g) ((fs ++ xs ++ cs).map (fra b sz rows)) d) (hd : d.scal = true)
  (hk : K d [(b, .arr sz rows cap)]) : CallK P (.fn (.func g) fs cs) xs K X [(b, .arr sz rows cap)] := by
 refine ⟨(fun hy => by cases hy), .inr (ACall.mono (h.lend1 hd) ?_)⟩
 rintro r σ' ⟨rfl, rfl⟩
 exact hk
theorem fra_arr {b sz n cap : Nat} {rows : List (List D)} (h : n = rows.length ∧ n ≤ cap ∧ n ≤ lim) : fra b sz rows (.arr b sz n cap) = .sl sz rows .no := by
 obtain ⟨rfl, h2, h3⟩ := h
 show (if b = b ∧ sz = sz ∧ rows.length ≤ rows.length ∧ rows.length ≤ cap ∧ rows.length ≤ lim then D.sl sz (rows.take rows.length) .no else _) = _
 rw [if_pos ⟨rfl, rfl, Nat.le_refl _, h2, h3⟩, List.take_length]
/-- A LOOP, its states' boxes listed in some order. -/
theorem lpp {α : Type} (E : α → Env) (S : α → Store) (ok : α → Prop) (μ : α → Nat) (x0 : α) {c : Code} {env : Env} {Q : AE → Env → Store → Prop} (h0 : ok x0 ∧ EnvLe (E x0) env ∧ σ.Perm (S x0))
  (h : ∀ x, ok x → AWp P r nt c (E x) (S x) (thenQ (fun env' σ' => ∃ y, (ok y ∧ μ y < μ x) ∧ EnvLe (E y) env' ∧ σ'.Perm (S y)) Q)) : AWp P r nt (.loop c) env σ Q := by
 refine lp (α := α × Store) (fun x => E x.1) (fun x => x.2) (fun x => ok x.1 ∧ x.2.Perm (S x.1)) (fun x => μ x.1) (x0, σ) ⟨⟨h0.1, h0.2.2⟩, h0.2.1, .refl _⟩ ?_
 rintro ⟨x, τ⟩ ⟨hx, hp⟩
 refine AWp.mono (weakP (E x) (EnvLe.refl _) hp (h x hx)) ?_
 intro e env' σ' hq
 cases e with
 | normal =>
  obtain ⟨y, ⟨h1, h2⟩, h3, h4⟩ := hq
  exact ⟨(y, σ'), ⟨⟨h1, h4⟩, h2⟩, h3, .refl _⟩
 | _ => exact hq
/-- append to nothing. -/
theorem napp_n {ts : Array TypeId} {T U V : TypeId} {g : Bool} {sz by_ sz0 : Nat} {z : List D} {new : List (List D)} {tk : Tok} {K : D → Store → Prop}
  (hT : ts[0]? = some T) (hV : ts[1]? = some V) (hV' : (sle P V).isSome = true) (hs : sle P T = some (U, g, sz)) (hy : eby P T = some by_) (hz : zc P U = some z)
  (hside : (z.length = sz ∧ 0 < sz ∧ 0 < by_) ∧ new.all (·.all D.isCell) = true ∧ new ≠ [] ∧ new.length * by_ ≤ capB)
  (hK : ∀ b c, b ∉ σ.keys → K (.sl sz new (.own b c)) ((b, .tail sz new.length c) :: σ)) : napp P σ ts (.sl sz0 [] .nil) (.sl sz new tk) K := by
 obtain ⟨⟨hz1, h0, hb0⟩, hc, hne, hfit⟩ := hside
 unfold napp
 simp only [hT, Option.bind_some, hs, hy, rowsOf]
 exact ⟨⟨⟨z, hz, hz1⟩, ⟨V, hV, .inl hV'⟩, h0, hb0, by simp, by simp, hc, by simpa using hfit⟩, fun e => absurd e hne, fun _ b cap hb => hK b cap hb⟩
/-- The result may be told with less. -/
theorem RCall.le {f : Fn} {args : List D} {α : Type} {F : α → D} {S : α → Store} {ok : α → Prop} (h : ACall P f args σ fun r σ' => ∃ y, ok y ∧ (∃ d', r = .ret d' ∧ DLe (F y) d') ∧ σ' = S y) : RCall P f args σ F S ok := by
 refine ACall.le (ACall.mono h ?_)
 rintro r σ' ⟨y, hy, ⟨d', rfl, hd⟩, rfl⟩
 exact ⟨.ret (F y), hd, y, hy, rfl, rfl⟩
theorem retRL {rs : List ResultVar} {α : Type} {F : α → D} {S : α → Store} {ok : α → Prop} (y : α) {env : Env} (hs : (S y).Sublist σ) (ho : ok y) (h : (resD P σ env rs).1 ∧ DLe (F y) (resD P σ env rs).2) :
  retQ P rs (fun r σ' => ∃ y, ok y ∧ (∃ d', r = .ret d' ∧ DLe (F y) d') ∧ σ' = S y) .ret env σ := ⟨h.1, S y, hs, y, ho, ⟨_, rfl, h.2⟩, rfl⟩
end
end Go.Proofs.YtfjnohmdilmfhaaGreatDoor
/- Own layer, part 28: regions told operation by operation, of the machine; ranges over maps. -/
namespace Go.Proofs.YtfjnohmdilmfhaaGreatDoor
open Go Go.RowKit
set_option linter.unusedSimpArgs false
set_option linter.unusedVariables false
section
variable {P : Program} {M : Mem} {w : World} {σ : Store} {r : Option Nat} {nt : Nat}
/-- What an operation comes to, said of the machine. -/
def opS (P : Program) (nt : Nat) (o : Oper) (env : Env) (σ : Store) (K X : D → Store → Prop) : Prop := ∀ M w (a : Act), Conc M w σ → EnvR M nt env a → NOut P M w σ (execOp a.eval o) K X
def vopsS (P : Program) (nt : Nat) (κ : Env → Store → Prop) (X : D → Store → Prop) : List Oper → Env → Store → Prop
 | [], env, σ => κ env σ
 | o :: os, env, σ => opS P nt o env σ (fun d σ' => vopsS P nt κ X os (env.put o.dst d) σ') X
theorem vopsS_sound {ops : Array Oper} {Q : AE → Env → Store → Prop} (keep : List Nat) {M0 : Mem} {w0 : World} {σ0 : Store} {a0 : Act} {B : Nat × List Deferred} : ∀ (l : List Oper) (k : Nat), (∀ j, l[j]? = ops[k + j]?) → l.all (okOp nt) = true → l.all (·.guard.isNone) = true → ∀ (env : Env) (σ : Store) (M : Mem) (w : World) (a : Act),
  vopsS P nt (fun env σ => Q .normal (prune keep env) σ) (fun d σ => Q (.pan d) (fun _ => .top) σ) l env σ →
  Conc M w σ → EnvR M nt env a → DefOK B σ0 w0 a0.defers → a.defers = a0.defers → Step M0 w0 σ0 M w σ → wpOpsIn (WF r) 0 P ops (rgPost M0 w0 σ0 nt B Q) (List.range' k l.length) a w
 | [], k, _, _, _, env, σ, M, w, a, h, hc, he, hd, hda, hs => by
  simp only [List.length_nil, List.range'_zero, wpOpsIn]
  exact ⟨M, _, σ, .normal, hs, hc, he.prune keep, hda ▸ hd.step hs, trivial, h⟩
 | o :: l, k, hl, hok, hgd, env, σ, M, w, a, h, hc, he, hd, hda, hs => by
  have h0 : ops[k]? = some o := by simpa using (hl 0).symm
  simp only [List.all_cons, Bool.and_eq_true] at hok hgd
  simp only [List.length_cons, List.range'_succ]
  rw [wpOpsIn_cons]
  unfold wpOpIn
  simp only [h0]
  have hg : o.guard = none := by simpa using hgd.1
  rw [if_pos (by simp [Region.wanted, hg])]
  refine wpIn_of_out (quiet_not_defer hok.1) (h M w a hc he) ?_ ?_
  ·intro M' w' σ' d v s1 c1 r1 k1
   have hdef : (a.put o.dst v).defers = a.defers := by cases o.dst <;> rfl
   exact vopsS_sound keep l (k + 1) (fun j => by have := hl (j + 1); simpa [Nat.add_assoc, Nat.add_comm 1 j] using this) hok.2 hgd.2 _ σ' M' w' _ k1 c1 ((he.mono s1.le).put (okOp_dst hok.1) r1) hd (hdef.trans hda) (hs.trans s1)
  ·intro M' w' σ' d v s1 c1 r1 x1
   exact ⟨M', fun _ => .top, σ', .pan d, hs.trans s1, c1, ⟨he.1, fun _ => by simp only [R]⟩, hda ▸ hd.step (hs.trans s1), ⟨v, rfl, r1⟩, x1⟩
/-- A REGION IN THE TEXT's ORDER, whose operations are told of the machine. -/
theorem rgS (keep : List Nat) {id : Nat} {l : List Oper} {env : Env} {Q : AE → Env → Store → Prop} (hok : (l.all (okOp nt) && l.all (·.guard.isNone)) = true)
  (h : ∀ (κ : Env → Store → Prop) (ξ : D → Store → Prop), (∀ env σ, Q .normal env σ → κ env σ) → (∀ d σ, Q (.pan d) (fun _ => .top) σ → ξ d σ) → vopsS P nt (fun env σ => κ (prune keep env) σ) ξ l env σ) : AWp P r nt (.region id l.toArray false) env σ Q := by
 intro M w a B hc he hd
 refine wpIn_region ?_
 simp only [Bool.and_eq_true] at hok
 have := vopsS_sound (P := P) (r := r) (ops := l.toArray) (Q := Q) keep l 0 (by simp) hok.1 hok.2 env σ M w a (h (fun env σ => Q .normal env σ) (fun d σ => Q (.pan d) (fun _ => .top) σ) (fun _ _ h => h) (fun _ _ h => h)) hc he hd rfl (Step.refl _ _ _)
 rw [List.range_eq_range', show l.toArray.size = l.length from by simp]
 exact this
variable {κ : Env → Store → Prop} {X : D → Store → Prop} {dst : Option Nat} {T : TypeId} {pos_ : String} {aft : Array Edge} {os : List Oper} {env : Env}
theorem vS_nil (h : κ env σ) : vopsS P nt κ X [] env σ := h
theorem vS_q {op : Op} (h1 : (qev P σ (opd env) op).1) (h2 : vopsS P nt κ X os (env.put dst (qev P σ (opd env) op).2) σ) : vopsS P nt κ X (⟨dst, op, T, pos_, aft, none⟩ :: os) env σ := by
 intro M w a hc he
 obtain ⟨v, r1, r2⟩ := qev_sound hc (opd_R he) ⟨dst, op, T, pos_, aft, none⟩ h1
 exact .value M w σ _ v r1 (Step.refl _ _ _) hc r2 h2
/-! ### Ranges over maps -/
theorem EntsR.all : ∀ {es : List (D × D)} {ms : List MapEntry}, EntsR M es ms → RAll M (es.map Prod.fst) (ms.map (·.key)) ∧ RAll M (es.map Prod.snd) (ms.map (·.val)) ∧ es.length = ms.length
 | [], [], _ => by simp [RAll]
 | e :: es, m :: ms, ⟨h1, h2⟩ => by
  obtain ⟨a, b, c⟩ := EntsR.all h2
  simp only [List.map_cons, RAll, List.length_cons]
  exact ⟨⟨h1.1, a⟩, ⟨h1.2, b⟩, by omega⟩
 | [], _ :: _, h => h.elim
 | _ :: _, [], h => h.elim
/-- What a range over a map knows of the map. -/
structure MIt (es : List (D × D)) where
 m : Nat
 ms : List MapEntry
 clock : Nat
 nodup : (ms.map (·.born)).Nodup
 old : ∀ x ∈ ms, x.born < clock
 len : es.length = ms.length
def MIt.at {es : List (D × D)} (it : MIt es) (i : Nat) : MapEntry := it.ms.getD i { key := undef, val := undef, born := 0 }
/-- The map, as a range sees it. -/
def MIt.mb {es : List (D × D)} (it : MIt es) : Box := .obj (.map it.ms.toArray it.clock) (fun i => (es.map Prod.fst ++ es.map Prod.snd).getD i .top) (it.ms.map (·.key) ++ it.ms.map (·.val)).toArray
theorem MIt.born_inj {es : List (D × D)} (it : MIt es) {i j : Nat} (hi : i < es.length) (hj : j < es.length) (h : (it.at i).born = (it.at j).born) : i = j := by
 have hi2 : i < it.ms.length := by rw [← it.len]; exact hi
 have hj2 : j < it.ms.length := by rw [← it.len]; exact hj
 have e : ∀ k (hk : k < it.ms.length), (it.at k).born = (it.ms.map (·.born))[k]'(by simpa using hk) := fun k hk => by
  unfold MIt.at
  rw [List.getD_eq_getElem?_getD, List.getElem?_eq_getElem hk]
  simp
 rw [e i hi2, e j hj2] at h
 exact (List.getElem_inj it.nodup).1 h
theorem MIt.seen {es : List (D × D)} (it : MIt es) {pos : List Nat} (hpos : ∀ i ∈ pos, i < es.length) {i : Nat} (hi : i < es.length) : (pos.map fun i => (it.at i).born).toArray.contains (it.at i).born = decide (i ∈ pos) := by
 rw [Bool.eq_iff_iff]
 simp only [List.contains_toArray, decide_eq_true_eq, List.contains_iff_mem, List.mem_map]
 constructor
 ·rintro ⟨j, hj, e⟩
  rw [← it.born_inj (hpos j hj) hi e]; exact hj
 ·intro h
  exact ⟨i, h, rfl⟩
end
end Go.Proofs.YtfjnohmdilmfhaaGreatDoor
/- Own layer, part 30: the same rules, in fewer words: what is asked beside them is found where they are used. -/
namespace Go.Proofs.YtfjnohmdilmfhaaGreatDoor
open Go Go.RowKit
set_option linter.unusedSimpArgs false
set_option linter.unusedVariables false
theorem an_ {p q : Prop} (hq : q) (hp : p := by first | assumption | omega | (simp; done) | (simp; omega) | (intro hg; simp +decide only [go_sem, hg]; done) | (intro hg; simp +decide only [go_sem, hg]; omega)) : p ∧ q := ⟨hp, hq⟩
section
variable {P : Program} {σ : Store} {r : Option Nat} {nt : Nat} {id : Nat} {l : List Oper} {env : Env} {Q : AE → Env → Store → Prop} {y : Code}
theorem rr_ (keep imm : List Nat) (gt : List (Nat × Nat))
  (h : ∀ (κ : Env → Store → Prop) (ξ : D → Store → Prop), (∀ env σ, Q .normal env σ → κ env σ) → (∀ d σ, Q (.pan d) (fun _ => .top) σ → ξ d σ) → vops P imm gt (fun env σ => κ (prune keep env) σ) ξ l env σ) (hok : rgOK nt l.toArray gt = true := by kernel_rfl) : AWp P r nt (.region id l.toArray false) env σ Q := rg keep imm gt hok h
theorem sr_ (keep imm : List Nat) (gt : List (Nat × Nat))
  (h : ∀ (κ : Env → Store → Prop) (ξ : D → Store → Prop), (∀ env σ, AWp P r nt y env σ Q → κ env σ) → (∀ d σ, Q (.pan d) (fun _ => .top) σ → ξ d σ) → vops P imm gt (fun env σ => κ (prune keep env) σ) ξ l env σ) (hok : rgOK nt l.toArray gt = true := by kernel_rfl) : AWp P r nt (.seq (.region id l.toArray false) y) env σ Q := sq (rg keep imm gt hok h)
theorem srz_ (fzl : List (Nat × List Nat)) (keep imm : List Nat) (gt : List (Nat × Nat))
  (h : ∀ (κ : Env → Store → Prop) (ξ : D → Store → Prop), (∀ env σ, AWp P r nt y env σ Q → κ env σ) → (∀ d σ, Q (.pan d) (fun _ => .top) σ → ξ d σ) → vops P imm gt (fun env σ => FZ κ fzl (prune keep env) σ) ξ l env σ) (hok : rgOK nt l.toArray gt = true := by kernel_rfl) : AWp P r nt (.seq (.region id l.toArray false) y) env σ Q := sq (rgz fzl keep imm gt hok h)
theorem srd_ (keep imm soft : List Nat) (gt : List (Nat × Nat))
  (h : ∀ (κ : Env → Store → Prop) (ξ : D → Store → Prop), (∀ env σ, AWp P r nt y env σ Q → κ env σ) → (∀ d σ, Q (.pan d) (fun _ => .top) σ → ξ d σ) → vdr P imm soft gt (fun env σ => κ (prune keep env) σ) ξ l env σ) (hm : P.follows .mixedOrders = true := by kernel_rfl) (hok : drOK nt soft l.toArray gt (List.range l.length) = true := by kernel_rfl) : AWp P r nt (.seq (.region id l.toArray true) y) env σ Q := sq (rgd keep imm soft gt hm hok h)
theorem cd_ {c : Operand} {x y : Code} {b : Bool} (ht : b = true → AWp P r nt x env σ Q) (hf : b = false → AWp P r nt y env σ Q) (hb : opd env c = .bool b := by rfl) : AWp P r nt (.cond c x y) env σ Q := cd hb ht hf
/-- A guarded call of a plain function that only computes, whatever the guard. -/
theorem gcF {g : Nat} {b ok : Bool} {xs : List D} {d : D} {K : D → Store → Prop} (h : PCall P (.func g) xs d) (hk : K (.cnd b d) σ)
  (hok : b = true → ok = true := by first | (intro _; rfl) | (intro hg; simp +decide only [go_sem, hg]; done) | exact id | (intro hg; simpa using hg) | (intro hg; simp +decide only [go_sem, hg, *]; done)) : GCallK P (some b) ok (.fn (.func g) [] []) xs K σ := gcallF (fun e => ⟨hok e, h⟩) hk
/-- A loop of so many rounds, walked round by round. -/
def ARounds (P : Program) (r : Option Nat) (nt : Nat) (c : Code) (Q : AE → Env → Store → Prop) : Nat → Env → Store → Prop
 | 0, _, _ => False
 | m + 1, env, σ => AWp P r nt c env σ (thenQ (ARounds P r nt c Q m) Q)
theorem rounds_sound {c : Code} {M0 : Mem} {w0 : World} {σ0 : Store} {B : Nat × List Deferred} : ∀ (m : Nat) (env : Env) (σ : Store) (M : Mem) (w : World) (a : Act), ARounds P r nt c Q m env σ → Step M0 w0 σ0 M w σ → Conc M w σ → EnvR M nt env a → DefOK B σ w a.defers →
  Code.roundsIn (WF r) 0 P c (rgPost M0 w0 σ0 nt B Q) m a w
 | 0, _, _, _, _, _, h, _, _, _, _ => h.elim
 | m + 1, env, σ, M, w, a, h, hs, hc, he, hd => by
  rw [roundsIn_succ]
  refine wpIn_mono (h M w a B hc he hd) ?_
  rintro e a' w' ⟨M2, env2, σ2, ae, h1, h2, h3, h4, h5, h6⟩
  cases e with
  | normal =>
   cases ae <;> simp only [AER] at h5
   exact rounds_sound m env2 σ2 M2 w' a' h6 (hs.trans h1) h2 h3 h4
  | exit i => cases ae <;> simp only [AER] at h5; exact ⟨M2, env2, σ2, .exit _, hs.trans h1, h2, h3, h4, h5, h6⟩
  | goto i => cases ae <;> simp only [AER] at h5; exact ⟨M2, env2, σ2, .goto _, hs.trans h1, h2, h3, h4, h5, h6⟩
  | ret => cases ae <;> simp only [AER] at h5; exact ⟨M2, env2, σ2, .ret, hs.trans h1, h2, h3, h4, trivial, h6⟩
  | panic c =>
   have h5' := h5
   cases ae <;> simp only [AER] at h5
   exact ⟨M2, env2, σ2, .pan _, hs.trans h1, h2, h3, h4, h5', h6⟩
  | outgrown => cases ae <;> simp only [AER] at h5
theorem lpN {c : Code} (m : Nat) (h : ARounds P r nt c Q m env σ) : AWp P r nt (.loop c) env σ Q := fun M w a _ hc he hd => wpIn_loop_rounds m (rounds_sound m env σ M w a h (Step.refl M w σ) hc he hd)
theorem rnd {c : Code} {m : Nat} (h : AWp P r nt c env σ (thenQ (ARounds P r nt c Q m) Q)) : ARounds P r nt c Q (m + 1) env σ := h
end
end Go.Proofs.YtfjnohmdilmfhaaGreatDoor
/- Own layer, part 25: scopes through which no jump goes. -/
namespace Go.Proofs.YtfjnohmdilmfhaaGreatDoor
open Go Go.RowKit
set_option linter.unusedSimpArgs false
set_option linter.unusedVariables false
section
variable {F : Fence} {n : Nat} {P : Program} {Q : Exit → Act → World → Prop} {a : Act} {w : World} {b : Frame} {k : List Item} {cs : List Frame}
end
section
variable {P : Program} {σ : Store} {r : Option Nat} {nt : Nat}
theorem lb {l : Nat} {env : Env} {Q : AE → Env → Store → Prop} (h : Q .normal env σ) : AWp P r nt (.label l) env σ Q :=
 fun _ _ _ _ hc he hd => wpIn_label (rgPost.here hc he hd (ae := .normal) trivial h)
end
end Go.Proofs.YtfjnohmdilmfhaaGreatDoor
/- Own layer, part 26: laws whose arguments are no longer than memory. -/
namespace Go.Proofs.YtfjnohmdilmfhaaGreatDoor
open Go Go.RowKit Go.ChangeShapes Go.WideShapes
set_option linter.unusedSimpArgs false
set_option linter.unusedVariables false
section
variable {H : Type} {enc : TypeId × Value → H} {P : Program} {w : World}
end
end Go.Proofs.YtfjnohmdilmfhaaGreatDoor
/- Own layer, part 29: arguments of recursive types. -/
namespace Go.Proofs.YtfjnohmdilmfhaaGreatDoor
open Go Go.RowKit Go.ChangeShapes Go.WideShapes
set_option linter.unusedSimpArgs false
set_option linter.unusedVariables false
/-- One level of a type of plain data, whose parts' types are of a kind. -/
def plain1 (P : Program) (C : TypeId → Bool) (t : TypeId) : Bool := match P.underlying t with
 | some .bool | some (.int _) | some .string => P.cellsOf t == 1
 | some (.slice e) => P.cellsOf t == 1 && decide (0 < P.cellsOf e) && C e
 | some (.struct fs) => contig P 0 fs.toList (P.cellsOf t) && fs.toList.all fun f => C f.type
 | some (.array k e) => k * P.cellsOf e == P.cellsOf t && C e
 | _ => false
/-- Types of plain data that are made of each other. -/
def closedT (P : Program) (ts : List TypeId) : Bool := ts.all fun t => plain1 P (fun e => ts.contains e) t
section
variable {H : Type} {enc : TypeId × Value → H} {P : Program} {w : World} {spare : Nat → Bool} {held : Bool} {C : TypeId → Bool}
theorem good_fieldsC {n fuel : Nat} (ih : ∀ t cs x, C t = true → DataW.trod enc P w 0 spare held fuel t cs = some x → GoodRow P w n t cs) {cs : List Value} :
  ∀ (fs : List Field) (off N : Nat), contig P off fs N = true → (fs.all fun f => C f.type) = true → cs.length = N →
   (∀ f ∈ fs, ∃ y, DataW.trod enc P w 0 spare held fuel f.type ((cs.drop f.offset).take (P.cellsOf f.type)) = some y) →
   ∃ ds, RAll (wholeMem w) ds (cs.drop off) ∧ ShF (Sh P n) fs ds ∧ ds.all D.isCell = true
 | [], off, N, hc, _, hl, _ => by
  simp only [contig, beq_iff_eq] at hc
  exact ⟨[], by rw [List.drop_eq_nil_of_le (by omega)]; simp [RAll], rfl, rfl⟩
 | f :: fs, off, N, hc, hp, hl, hf => by
  simp only [contig, Bool.and_eq_true, beq_iff_eq] at hc
  simp only [List.all_cons, Bool.and_eq_true] at hp
  obtain ⟨y, hy⟩ := hf f (by simp)
  obtain ⟨d1, r1, s1, l1, c1⟩ := ih _ _ _ hp.1 hy
  obtain ⟨d2, r2, s2, c2⟩ := good_fieldsC ih fs (off + P.cellsOf f.type) N hc.2 hp.2 hl (fun g hg => hf g (List.mem_cons_of_mem _ hg))
  rw [hc.1] at r1 l1
  have hd1 : d1.length = P.cellsOf f.type := by rw [r1.length]; exact l1
  refine ⟨d1 ++ d2, RAll_split (by rw [hd1]; exact r1) (by rw [hd1, List.drop_drop]; exact r2), ⟨d1, d2, rfl, s1, s2⟩, by simp [c1, c2]⟩
theorem good_elemsC {n fuel : Nat} {e : TypeId} (hp : C e = true) (ih : ∀ t cs x, C t = true → DataW.trod enc P w 0 spare held fuel t cs = some x → GoodRow P w n t cs) {cs : List Value} :
  ∀ (k i : Nat), cs.length = (i + k) * P.cellsOf e → (∀ j, i ≤ j → j < i + k → ∃ y, DataW.trod enc P w 0 spare held fuel e ((cs.drop (j * P.cellsOf e)).take (P.cellsOf e)) = some y) →
   ∃ ds, RAll (wholeMem w) ds (cs.drop (i * P.cellsOf e)) ∧ ShN (Sh P n e) k ds ∧ ds.all D.isCell = true
 | 0, i, hl, _ => ⟨[], by rw [List.drop_eq_nil_of_le (by simp at hl; omega)]; simp [RAll], rfl, rfl⟩
 | k + 1, i, hl, hf => by
  obtain ⟨y, hy⟩ := hf i (Nat.le_refl _) (by omega)
  obtain ⟨d1, r1, s1, l1, c1⟩ := ih _ _ _ hp hy
  obtain ⟨d2, r2, s2, c2⟩ := good_elemsC hp ih k (i + 1) (by rw [hl]; congr 1; omega) (fun j h1 h2 => hf j (by omega) (by omega))
  have hd1 : d1.length = P.cellsOf e := by rw [r1.length]; exact l1
  refine ⟨d1 ++ d2, RAll_split (by rw [hd1]; exact r1) (by rw [hd1, List.drop_drop, show i * P.cellsOf e + P.cellsOf e = (i + 1) * P.cellsOf e by rw [Nat.add_mul, Nat.one_mul]]; exact r2), ⟨d1, d2, rfl, s1, s2⟩, by simp [c1, c2]⟩
theorem good_rowsC {n fuel : Nat} {e : TypeId} (hp : C e = true) (hc : 0 < P.cellsOf e) (ih : ∀ t cs x, C t = true → DataW.trod enc P w 0 spare held fuel t cs = some x → GoodRow P w n t cs) {b o : Nat} :
  ∀ (k i : Nat), (∀ j, i ≤ j → j < i + k → ∃ row y, w.cells? 0 ((⟨b, o, none⟩ : Addr).add (j * P.cellsOf e)) (P.cellsOf e) = some row ∧ DataW.trod enc P w 0 spare held fuel e row = some y) →
   ∃ rows, rows.length = k ∧ (∀ r ∈ rows, Sh P n e r) ∧ RRows (wholeMem w) (P.cellsOf e) rows b (o + i * P.cellsOf e)
 | 0, i, _ => ⟨[], rfl, by simp, by simp [RRows]⟩
 | k + 1, i, hf => by
  obtain ⟨row, y, h1, h2⟩ := hf i (Nat.le_refl _) (by omega)
  obtain ⟨ds, r1, s1, l1, c1⟩ := ih _ _ _ hp h2
  obtain ⟨rows, q1, q2, q4⟩ := good_rowsC hp hc ih (b := b) (o := o) k (i + 1) (fun j g1 g2 => hf j (by omega) (by omega))
  obtain ⟨z1, z2, z3⟩ := cells_get hc h1
  rw [addr_add] at z3
  refine ⟨ds :: rows, by simp [q1], fun r hr => ?_, ?_⟩
  ·rcases List.mem_cons.1 hr with rfl | hr
   ·exact s1
   ·exact q2 r hr
  ·simp only [RRows]
   exact ⟨by rw [r1.length]; exact l1, RCells_of _ _ _ r1 z3, by rw [Nat.add_assoc, show i * P.cellsOf e + P.cellsOf e = (i + 1) * P.cellsOf e by rw [Nat.add_mul, Nat.one_mul]]; exact q4⟩
/-- WHAT IS TROD IS PLAIN DATA, as deep as it was trod. -/
theorem good_trodC {ts : List TypeId} (hts : closedT P ts = true) : ∀ (fuel : Nat) (t : TypeId) (cs : List Value) (x : DataW H × List MemPlace), ts.contains t = true → DataW.trod enc P w 0 spare held fuel t cs = some x → GoodRow P w fuel t cs
 | 0, t, _, _, _, h => by simp [DataW.trod] at h
 | fuel + 1, t, cs, x, hp, h => by
  have ih := good_trodC hts fuel
  have hp : plain1 P (fun e => ts.contains e) t = true := by
   unfold closedT at hts
   rw [List.all_eq_true] at hts
   exact hts t (by simpa using hp)
  unfold plain1 at hp
  unfold DataW.trod at h
  split at hp
  ·rename_i hu
   simp only [beq_iff_eq] at hp
   simp only [hu] at h
   split at h <;> first | (cases h; done) | (rename_i heq; cases heq; done) | (rename_i heq _; cases heq; done) | (rename_i heq _ _; cases heq; done) | skip
   exact good_one (d := .bool _) R_bool rfl (by unfold Sh; simp only [hu]; exact ⟨_, rfl⟩) hp
  ·rename_i k hu
   simp only [beq_iff_eq] at hp
   simp only [hu] at h
   split at h <;> first | (cases h; done) | (rename_i heq; cases heq; done) | (rename_i heq _; cases heq; done) | (rename_i heq _ _; cases heq; done) | skip
   rename_i k1 k2 x1 heq
   cases heq
   split at h
   ·rename_i hk
    obtain ⟨rfl, hwf⟩ := hk
    simp only [Lit.wf, Bool.and_eq_true, decide_eq_true_eq] at hwf
    exact good_one (d := .int _ _) (R_int hwf) rfl (by unfold Sh; simp only [hu]; exact ⟨_, rfl⟩) hp
   ·cases h
  ·rename_i hu
   simp only [beq_iff_eq] at hp
   simp only [hu] at h
   split at h <;> first | (cases h; done) | (rename_i heq; cases heq; done) | (rename_i heq _; cases heq; done) | (rename_i heq _ _; cases heq; done) | skip
   rename_i s1 heq
   split at h
   ·rename_i hl
    cases s1 with
    | mk dd =>
     cases dd with
     | mk ll =>
      refine good_one (d := .str ll) (R_str ?_) rfl (by unfold Sh; simp only [hu]; exact ⟨_, rfl⟩) hp
      have : ll.length ≤ maxLen := hl
      simpa [lim, maxLen] using this
   ·cases h
  ·rename_i e hu
   simp only [Bool.and_eq_true, beq_iff_eq, decide_eq_true_eq] at hp
   obtain ⟨⟨hp1, hp2⟩, hp3⟩ := hp
   simp only [hu] at h
   split at h <;> first | (cases h; done) | (rename_i heq; cases heq; done) | (rename_i heq _; cases heq; done) | (rename_i heq _ _; cases heq; done) | skip
   ·refine good_one (d := .sl (P.cellsOf e) [] .no) ?_ rfl (by unfold Sh; simp only [hu]; exact ⟨[], rfl, by simp⟩) hp1
    simp only [R]
    exact ⟨none, 0, rfl, by simp, by simp, by simp, trivial⟩
   ·rename_i e1 a1 len cap heq
    cases heq
    split at h
    ·rename_i hb
     obtain ⟨_, hb2, hb3⟩ := hb
     simp only [Option.bind_eq_some_iff] at h
     obtain ⟨elems, hel, _⟩ := h
     have each : ∀ j, j < len → ∃ row y, w.cells? 0 (a1.add (j * P.cellsOf e)) (P.cellsOf e) = some row ∧ DataW.trod enc P w 0 spare held fuel e row = some y := by
      intro j hj
      obtain ⟨y, hy⟩ := (mapM_get hel).2 j j (by simp [hj])
      simp only [Option.bind_eq_some_iff] at hy
      obtain ⟨row, h1, h2⟩ := hy
      exact ⟨row, y, h1, h2⟩
     have hlim : len ≤ lim := by have : maxLen = lim := rfl; omega
     rcases Nat.eq_zero_or_pos len with rfl | hpos
     ·refine good_one (d := .sl (P.cellsOf e) [] .no) ?_ rfl (by unfold Sh; simp only [hu]; exact ⟨[], rfl, by simp⟩) hp1
      simp only [R]
      exact ⟨some a1, cap, rfl, by simp, by simp, by simp, trivial⟩
     ·have hsp : a1.spot = none := by
       obtain ⟨row, y, h1, _⟩ := each 0 hpos
       rw [Nat.zero_mul] at h1
       exact (cells_get hp2 h1).1
      cases a1 with
      | mk b o sp =>
       simp only at hsp
       subst hsp
       obtain ⟨rows, q1, q2, q4⟩ := good_rowsC hp3 hp2 ih (b := b) (o := o) len 0 (fun j _ hj => each j (by omega))
       subst q1
       refine good_one (d := .sl (P.cellsOf e) rows .no) ?_ rfl (by unfold Sh; simp only [hu]; exact ⟨rows, rfl, q2⟩) hp1
       simp only [R]
       rw [Nat.zero_mul, Nat.add_zero] at q4
       exact ⟨_, cap, rfl, hb2, hlim, fun _ => ⟨b, o, rfl, q4⟩, trivial⟩
    ·cases h
  ·rename_i fs hu
   simp only [Bool.and_eq_true] at hp
   simp only [hu] at h
   split at h <;> first | (cases h; done) | (rename_i heq; cases heq; done) | (rename_i heq _; cases heq; done) | (rename_i heq _ _; cases heq; done) | skip
   ·rename_i hl
    simp only [Option.map_eq_some_iff] at h
    obtain ⟨xs, hxs, _⟩ := h
    obtain ⟨ds, r1, s1, c1⟩ := good_fieldsC ih fs.toList 0 (P.cellsOf t) hp.1 hp.2 hl (fun f hf => by
      obtain ⟨i, hi, e⟩ := List.getElem_of_mem hf
      exact (mapM_get hxs).2 i f (by rw [List.getElem?_eq_getElem hi, e]))
    exact ⟨ds, by simpa using r1, by unfold Sh; simp only [hu]; exact s1, hl, c1⟩
  ·rename_i k e hu
   simp only [Bool.and_eq_true, beq_iff_eq] at hp
   simp only [hu] at h
   split at h <;> first | (cases h; done) | (rename_i heq; cases heq; done) | (rename_i heq _; cases heq; done) | (rename_i heq _ _; cases heq; done) | skip
   ·rename_i hl
    simp only [Option.map_eq_some_iff] at h
    obtain ⟨xs, hxs, _⟩ := h
    obtain ⟨ds, r1, s1, c1⟩ := good_elemsC hp.2 ih k 0 (by rw [hl, Nat.zero_add]; exact hp.1.symm) (fun j _ hj => (mapM_get hxs).2 j j (List.getElem?_range (by omega)))
    exact ⟨ds, by simpa using r1, by unfold Sh; simp only [hu]; exact s1, hl, c1⟩
  ·cases hp
end
section
variable {H : Type} {enc : TypeId × Value → H} {P : Program} {w : World}
def ArgShC (P : Program) : List TypeId → List D → Prop
 | [], [] => True
 | t :: ts, d :: ds => (∃ n, ArgD P n t d) ∧ ArgShC P ts ds
 | _, _ => False
theorem arg_goodC {ts : List TypeId} (hts : closedT P ts = true) {t : TypeId} {v : Value} {dd : DataW H} {ps : List MemPlace} {base : Nat} (hp : ts.contains t = true) (hval : Value.okWide P w .any base t v) (h : DataW.Trod enc P w 0 (fun _ => true) true t v dd ps) :
  ∃ d, R (wholeMem w) d v ∧ ∃ n, ArgD P n t d := by
 obtain ⟨fuel, h⟩ := h
 obtain ⟨ds, r1, s1, l1, c1⟩ := good_trodC hts fuel t _ _ hp h
 have hp : plain1 P (fun e => ts.contains e) t = true := by
  unfold closedT at hts
  rw [List.all_eq_true] at hts
  exact hts t (by simpa using hp)
 cases fuel with
 | zero => simp [DataW.trod] at h
 | succ n =>
  have one : ∀ (hv : v.cells = #[v]) (hns : ∀ fs, P.underlying t ≠ some (.struct fs)) (hna : ∀ k e, P.underlying t ≠ some (.array k e)), ∃ d, R (wholeMem w) d v ∧ ∃ n, ArgD P n t d := by
   intro hv hns hna
   rw [hv] at r1
   cases ds with
   | nil => simp [RAll] at r1
   | cons d ds =>
    cases ds with
    | cons _ _ => simp [RAll] at r1
    | nil =>
     simp only [RAll, and_true] at r1
     refine ⟨d, r1, n + 1, ?_⟩
     unfold ArgD
     split
     ·rename_i fs hu; exact absurd hu (hns fs)
     ·rename_i k e hu; exact absurd hu (hna k e)
     ·exact s1
  unfold plain1 at hp
  split at hp
  ·rename_i hu
   obtain ⟨b, rfl⟩ := okWide_bool hu hval
   exact one rfl (fun fs => by rw [hu]; simp) (fun k e => by rw [hu]; simp)
  ·rename_i k hu
   obtain ⟨b, rfl⟩ := okWide_int hu hval
   exact one rfl (fun fs => by rw [hu]; simp) (fun k e => by rw [hu]; simp)
  ·rename_i hu
   obtain ⟨b, rfl⟩ := okWide_string hu hval
   exact one rfl (fun fs => by rw [hu]; simp) (fun k e => by rw [hu]; simp)
  ·rename_i e hu
   obtain ⟨a, b, c, rfl⟩ := okWide_slice hu hval
   exact one rfl (fun fs => by rw [hu]; simp) (fun k e => by rw [hu]; simp)
  ·rename_i fs hu
   unfold Value.okWide at hval
   simp only [hu] at hval
   obtain ⟨cs, rfl, _⟩ := hval
   refine ⟨.ag ds, by simp only [R]; exact ⟨cs.toList, by simp, r1⟩, n + 1, ?_⟩
   unfold ArgD
   simp only [hu]
   exact ⟨ds, rfl, s1⟩
  ·rename_i k e hu
   unfold Value.okWide at hval
   simp only [hu] at hval
   obtain ⟨cs, rfl, _⟩ := hval
   refine ⟨.ag ds, by simp only [R]; exact ⟨cs.toList, by simp, r1⟩, n + 1, ?_⟩
   unfold ArgD
   simp only [hu]
   exact ⟨ds, rfl, s1⟩
  ·cases hp
theorem args_goodC {us : List TypeId} (hts : closedT P us = true) {base : Nat} : ∀ {ts : List TypeId} {vs : List Value} {dds : List (DataW H)} {ps : List MemPlace}, (∀ t ∈ ts, us.contains t = true) →
  (∀ (j : Nat) (t : TypeId) (v : Value), ts[j]? = some t → vs[j]? = some v → Value.okWide P w .any base t v) → DataW.TrodAll enc P w 0 (fun _ => true) true ts vs dds ps → ∃ ds, RAll (wholeMem w) ds vs ∧ ArgShC P ts ds
 | [], [], [], _, _, _, _ => ⟨[], by simp [RAll], trivial⟩
 | t :: ts, v :: vs, dd :: dds, ps, hp, hv, ⟨p, q, h1, h2, _⟩ => by
  obtain ⟨d, r1, a1⟩ := arg_goodC hts (hp t (by simp)) (hv 0 t v rfl rfl) h1
  obtain ⟨ds, r2, a2⟩ := args_goodC hts (fun u hu => hp u (List.mem_cons_of_mem _ hu)) (fun j u x hu hx => hv (j + 1) u x (by simpa using hu) (by simpa using hx)) h2
  exact ⟨d :: ds, by simp only [RAll]; exact ⟨r1, r2⟩, a1, a2⟩
 | [], _ :: _, _, _, _, _, h => h.elim
 | [], [], _ :: _, _, _, _, h => h.elim
 | _ :: _, [], _, _, _, _, h => h.elim
 | _ :: _, _ :: _, [], _, _, _, h => h.elim
/-- A LAW's ROW: whatever the arguments, true; they read as they did. -/
theorem law_rowC {f : FuncId} {fn : Func} {s : ChangeSpec} {apart fresh handsOn again : Bool} {tb : TypeId} (us : List TypeId) (hts : closedT P us = true) (hl : laidOutB P = true) (hf : P.funcs[f]? = some fn) (hbody : fn.body.isNone = false) (hname : (fn.name == "runtime.NumGoroutine") = false)
  (hvars : s.vars = []) (hres : fn.resultTypes = #[tb]) (htb : P.underlying tb = some .bool)
  (hps : (fn.params.toList.all fun t => us.contains t && P.readableRec t && decide (t < P.types.size)) = true) (hsf : ∀ ds : List (DataW H), ds.length = fn.params.toList.length → s.fn H ds = { results := [.lit (.bool true)], args := ds })
  (hlaw : ∀ Ds, ArgShC P fn.params.toList Ds → PCall P (.func f) Ds (.bool true))
  {W : World} {base : Nat} {args : Array Value} {ds gs : List (DataW H)} {before : List MemPlace} (hval : ∀ (j : Nat) t v, fn.params[j]? = some t → args[j]? = some v → Value.okWide P W .any base t v)
  (hW : DataW.Whole enc P fn.params.toList s.vars apart W args.toList ds gs before) (hG : GlobW W [] := by intro x hx; unfold globs at hx; cases hx) :
  Calls P f args W fun e W' => ∃ v, e = .returned v ∧ s.post enc P fn apart fresh handsOn again W args v W' := by
 have hps' : ∀ t ∈ fn.params.toList, us.contains t = true ∧ P.readableRec t = true ∧ t < P.types.size := fun t ht => by
  rw [List.all_eq_true] at hps
  have := hps t ht
  simp only [Bool.and_eq_true, decide_eq_true_eq] at this
  exact ⟨this.1.1, this.1.2, this.2⟩
 have hW' := hW
 obtain ⟨p, q, hA, hV, hbe, hfz, hnd⟩ := hW
 obtain ⟨Ds, hR, hS⟩ := args_goodC hts (fun t ht => (hps' t ht).1) (fun j t v ht hv => hval j t v (by simpa using ht) (by simpa using hv)) hA
 have hlen : ds.length = fn.params.toList.length := trodAll_len hA
 have hc := hlaw Ds hS (wholeMem W) W args.toList (Conc.whole hG) hR
 rcases hc with ⟨_, hc⟩ | ⟨v, w', hc, _⟩
 ·refine (callsIn_wide.1 hc).mono fun e W' ⟨M', σ', r, st, _, hr, e1, e2⟩ => ?_
  subst e1
  cases e with
  | returned v =>
   simp only [ResR, R] at hr
   subst hr
   exact ⟨_, rfl, law_post hl hvars hres htb (fun t ht => (hps' t ht).2) (hsf ds hlen) hW' st.below⟩
  | panicked l => simp [ResR] at hr
  | outgrown => simp [ResR] at hr
 ·have := callFunc_enter (w := W) hf hbody hname (List.toArray args.toList)
  rw [this] at hc
  cases hc
end
end Go.Proofs.YtfjnohmdilmfhaaGreatDoor
/- Own facts of the program's types, printed by a tool of our own. -/
namespace Go.Proofs.YtfjnohmdilmfhaaGreatDoor
open Go Go.RowKit
set_option linter.unusedSimpArgs false
set_option linter.unusedVariables false
theorem tf0 : knownT Tryz.prog 0 = true := by kernel_rfl
theorem tf1 : isStrT Tryz.prog 0 = false := by kernel_rfl
theorem tf2 : isBoolT Tryz.prog 0 = false := by kernel_rfl
theorem tf3 : isIfaceT Tryz.prog 0 = false := by kernel_rfl
theorem tf4 : ink Tryz.prog 0 = none := by kernel_rfl
theorem tf5 : sle Tryz.prog 0 = none := by kernel_rfl
theorem tf6 : are Tryz.prog 0 = none := by kernel_rfl
theorem tf7 : mpt Tryz.prog 0 = none := by kernel_rfl
theorem tf8 : lsz Tryz.prog 1 = some (false, 1) := by kernel_rfl
theorem tf9 : knownT Tryz.prog 1 = true := by kernel_rfl
theorem tf10 : isStrT Tryz.prog 1 = false := by kernel_rfl
theorem tf11 : isBoolT Tryz.prog 1 = false := by kernel_rfl
theorem tf12 : isIfaceT Tryz.prog 1 = false := by kernel_rfl
theorem tf13 : ink Tryz.prog 1 = none := by kernel_rfl
theorem tf14 : sle Tryz.prog 1 = none := by kernel_rfl
theorem tf15 : are Tryz.prog 1 = none := by kernel_rfl
theorem tf16 : zc Tryz.prog 1 = some [(.v .nilFunc)] := by kernel_rfl
theorem tf17 : mpt Tryz.prog 1 = none := by kernel_rfl
theorem tf18 : lsz Tryz.prog 2 = some (false, 1) := by kernel_rfl
theorem tf19 : knownT Tryz.prog 2 = true := by kernel_rfl
theorem tf20 : isStrT Tryz.prog 2 = false := by kernel_rfl
theorem tf21 : isBoolT Tryz.prog 2 = false := by kernel_rfl
theorem tf22 : isIfaceT Tryz.prog 2 = false := by kernel_rfl
theorem tf23 : ink Tryz.prog 2 = some .i64 := by kernel_rfl
theorem tf24 : sle Tryz.prog 2 = none := by kernel_rfl
theorem tf25 : are Tryz.prog 2 = none := by kernel_rfl
theorem tf26 : zc Tryz.prog 2 = some [(.int .i64 0)] := by kernel_rfl
theorem tf27 : mpt Tryz.prog 2 = none := by kernel_rfl
theorem tf28 : lsz Tryz.prog 3 = some (false, 1) := by kernel_rfl
theorem tf29 : knownT Tryz.prog 3 = true := by kernel_rfl
theorem tf30 : isStrT Tryz.prog 3 = false := by kernel_rfl
theorem tf31 : isBoolT Tryz.prog 3 = false := by kernel_rfl
theorem tf32 : isIfaceT Tryz.prog 3 = false := by kernel_rfl
theorem tf33 : ink Tryz.prog 3 = some .i64 := by kernel_rfl
theorem tf34 : sle Tryz.prog 3 = none := by kernel_rfl
theorem tf35 : are Tryz.prog 3 = none := by kernel_rfl
theorem tf36 : zc Tryz.prog 3 = some [(.int .i64 0)] := by kernel_rfl
theorem tf37 : mpt Tryz.prog 3 = none := by kernel_rfl
theorem tf38 : lsz Tryz.prog 4 = some (false, 1) := by kernel_rfl
theorem tf39 : knownT Tryz.prog 4 = true := by kernel_rfl
theorem tf40 : isStrT Tryz.prog 4 = false := by kernel_rfl
theorem tf41 : isBoolT Tryz.prog 4 = true := by kernel_rfl
theorem tf42 : isIfaceT Tryz.prog 4 = false := by kernel_rfl
theorem tf43 : ink Tryz.prog 4 = none := by kernel_rfl
theorem tf44 : sle Tryz.prog 4 = none := by kernel_rfl
theorem tf45 : are Tryz.prog 4 = none := by kernel_rfl
theorem tf46 : zc Tryz.prog 4 = some [(.bool false)] := by kernel_rfl
theorem tf47 : mpt Tryz.prog 4 = none := by kernel_rfl
theorem tf48 : zval Tryz.prog 4 = some (.bool false) := by kernel_rfl
theorem tf49 : lsz Tryz.prog 5 = some (false, 1) := by kernel_rfl
theorem tf50 : knownT Tryz.prog 5 = true := by kernel_rfl
theorem tf51 : isStrT Tryz.prog 5 = false := by kernel_rfl
theorem tf52 : isBoolT Tryz.prog 5 = false := by kernel_rfl
theorem tf53 : isIfaceT Tryz.prog 5 = false := by kernel_rfl
theorem tf54 : ink Tryz.prog 5 = some .u8 := by kernel_rfl
theorem tf55 : sle Tryz.prog 5 = none := by kernel_rfl
theorem tf56 : are Tryz.prog 5 = none := by kernel_rfl
theorem tf57 : zc Tryz.prog 5 = some [(.int .u8 0)] := by kernel_rfl
theorem tf58 : mpt Tryz.prog 5 = none := by kernel_rfl
theorem tf59 : lsz Tryz.prog 6 = some (false, 1) := by kernel_rfl
theorem tf60 : knownT Tryz.prog 6 = true := by kernel_rfl
theorem tf61 : isStrT Tryz.prog 6 = false := by kernel_rfl
theorem tf62 : isBoolT Tryz.prog 6 = false := by kernel_rfl
theorem tf63 : isIfaceT Tryz.prog 6 = false := by kernel_rfl
theorem tf64 : ink Tryz.prog 6 = some .u8 := by kernel_rfl
theorem tf65 : sle Tryz.prog 6 = none := by kernel_rfl
theorem tf66 : are Tryz.prog 6 = none := by kernel_rfl
theorem tf67 : zc Tryz.prog 6 = some [(.int .u8 0)] := by kernel_rfl
theorem tf68 : mpt Tryz.prog 6 = none := by kernel_rfl
theorem tf69 : lsz Tryz.prog 9 = some (false, 1) := by kernel_rfl
theorem tf70 : knownT Tryz.prog 9 = true := by kernel_rfl
theorem tf71 : isStrT Tryz.prog 9 = true := by kernel_rfl
theorem tf72 : isBoolT Tryz.prog 9 = false := by kernel_rfl
theorem tf73 : isIfaceT Tryz.prog 9 = false := by kernel_rfl
theorem tf74 : ink Tryz.prog 9 = none := by kernel_rfl
theorem tf75 : sle Tryz.prog 9 = none := by kernel_rfl
theorem tf76 : are Tryz.prog 9 = none := by kernel_rfl
theorem tf77 : zc Tryz.prog 9 = some [(.str [])] := by kernel_rfl
theorem tf78 : mpt Tryz.prog 9 = none := by kernel_rfl
theorem tf79 : lsz Tryz.prog 20 = some (false, 1) := by kernel_rfl
theorem tf80 : knownT Tryz.prog 20 = true := by kernel_rfl
theorem tf81 : isStrT Tryz.prog 20 = false := by kernel_rfl
theorem tf82 : isBoolT Tryz.prog 20 = false := by kernel_rfl
theorem tf83 : isIfaceT Tryz.prog 20 = true := by kernel_rfl
theorem tf84 : ink Tryz.prog 20 = none := by kernel_rfl
theorem tf85 : sle Tryz.prog 20 = none := by kernel_rfl
theorem tf86 : are Tryz.prog 20 = none := by kernel_rfl
theorem tf87 : zc Tryz.prog 20 = some [(.v .nilIface)] := by kernel_rfl
theorem tf88 : mpt Tryz.prog 20 = none := by kernel_rfl
theorem tf89 : lsz Tryz.prog 21 = some (false, 1) := by kernel_rfl
theorem tf90 : knownT Tryz.prog 21 = true := by kernel_rfl
theorem tf91 : isStrT Tryz.prog 21 = false := by kernel_rfl
theorem tf92 : isBoolT Tryz.prog 21 = false := by kernel_rfl
theorem tf93 : isIfaceT Tryz.prog 21 = false := by kernel_rfl
theorem tf94 : ink Tryz.prog 21 = some .i32 := by kernel_rfl
theorem tf95 : sle Tryz.prog 21 = none := by kernel_rfl
theorem tf96 : are Tryz.prog 21 = none := by kernel_rfl
theorem tf97 : zc Tryz.prog 21 = some [(.int .i32 0)] := by kernel_rfl
theorem tf98 : mpt Tryz.prog 21 = none := by kernel_rfl
theorem tf99 : lsz Tryz.prog 22 = some (false, 1) := by kernel_rfl
theorem tf100 : knownT Tryz.prog 22 = true := by kernel_rfl
theorem tf101 : isStrT Tryz.prog 22 = false := by kernel_rfl
theorem tf102 : isBoolT Tryz.prog 22 = false := by kernel_rfl
theorem tf103 : isIfaceT Tryz.prog 22 = false := by kernel_rfl
theorem tf104 : ink Tryz.prog 22 = none := by kernel_rfl
theorem tf105 : sle Tryz.prog 22 = some (45, true, 7) := by kernel_rfl
theorem tf106 : eby Tryz.prog 22 = some 72 := by kernel_rfl
theorem tf107 : are Tryz.prog 22 = none := by kernel_rfl
theorem tf108 : zc Tryz.prog 22 = some [(.sl 0 [] .nil)] := by kernel_rfl
theorem tf109 : mpt Tryz.prog 22 = none := by kernel_rfl
theorem tf110 : lsz Tryz.prog 23 = some (false, 1) := by kernel_rfl
theorem tf111 : knownT Tryz.prog 23 = true := by kernel_rfl
theorem tf112 : isStrT Tryz.prog 23 = false := by kernel_rfl
theorem tf113 : isBoolT Tryz.prog 23 = false := by kernel_rfl
theorem tf114 : isIfaceT Tryz.prog 23 = false := by kernel_rfl
theorem tf115 : ink Tryz.prog 23 = none := by kernel_rfl
theorem tf116 : sle Tryz.prog 23 = some (25, true, 5) := by kernel_rfl
theorem tf117 : eby Tryz.prog 23 = some 56 := by kernel_rfl
theorem tf118 : are Tryz.prog 23 = none := by kernel_rfl
theorem tf119 : zc Tryz.prog 23 = some [(.sl 0 [] .nil)] := by kernel_rfl
theorem tf120 : mpt Tryz.prog 23 = none := by kernel_rfl
theorem tf121 : lsz Tryz.prog 25 = some (true, 5) := by kernel_rfl
theorem tf122 : knownT Tryz.prog 25 = true := by kernel_rfl
theorem tf123 : isStrT Tryz.prog 25 = false := by kernel_rfl
theorem tf124 : isBoolT Tryz.prog 25 = false := by kernel_rfl
theorem tf125 : isIfaceT Tryz.prog 25 = false := by kernel_rfl
theorem tf126 : ink Tryz.prog 25 = none := by kernel_rfl
theorem tf127 : sle Tryz.prog 25 = none := by kernel_rfl
theorem tf128 : are Tryz.prog 25 = none := by kernel_rfl
theorem tf129 : zc Tryz.prog 25 = some [(.int .i64 0), (.int .i64 0), (.int .i64 0), (.int .i64 0), (.sl 0 [] .nil)] := by kernel_rfl
theorem tf130 : fld Tryz.prog 25 0 = some (0, false, 1) := by kernel_rfl
theorem tf131 : fld Tryz.prog 25 1 = some (1, false, 1) := by kernel_rfl
theorem tf132 : fld Tryz.prog 25 2 = some (2, false, 1) := by kernel_rfl
theorem tf133 : fld Tryz.prog 25 3 = some (3, false, 1) := by kernel_rfl
theorem tf134 : fld Tryz.prog 25 4 = some (4, false, 1) := by kernel_rfl
theorem tf135 : zp Tryz.prog 25 = some ([(.int .i64 0), (.int .i64 0), (.int .i64 0), (.int .i64 0), (.sl 0 [] .nil)], [(0, 1), (1, 1), (2, 1), (3, 1), (4, 1)]) := by kernel_rfl
theorem tf136 : mpt Tryz.prog 25 = none := by kernel_rfl
theorem tf137 : lsz Tryz.prog 28 = some (false, 1) := by kernel_rfl
theorem tf138 : knownT Tryz.prog 28 = true := by kernel_rfl
theorem tf139 : isStrT Tryz.prog 28 = false := by kernel_rfl
theorem tf140 : isBoolT Tryz.prog 28 = false := by kernel_rfl
theorem tf141 : isIfaceT Tryz.prog 28 = false := by kernel_rfl
theorem tf142 : ink Tryz.prog 28 = some .i64 := by kernel_rfl
theorem tf143 : sle Tryz.prog 28 = none := by kernel_rfl
theorem tf144 : are Tryz.prog 28 = none := by kernel_rfl
theorem tf145 : zc Tryz.prog 28 = some [(.int .i64 0)] := by kernel_rfl
theorem tf146 : mpt Tryz.prog 28 = none := by kernel_rfl
theorem tf147 : lsz Tryz.prog 31 = some (false, 1) := by kernel_rfl
theorem tf148 : knownT Tryz.prog 31 = true := by kernel_rfl
theorem tf149 : isStrT Tryz.prog 31 = false := by kernel_rfl
theorem tf150 : isBoolT Tryz.prog 31 = false := by kernel_rfl
theorem tf151 : isIfaceT Tryz.prog 31 = false := by kernel_rfl
theorem tf152 : ink Tryz.prog 31 = none := by kernel_rfl
theorem tf153 : sle Tryz.prog 31 = none := by kernel_rfl
theorem tf154 : are Tryz.prog 31 = none := by kernel_rfl
theorem tf155 : zc Tryz.prog 31 = some [(.v .nilFunc)] := by kernel_rfl
theorem tf156 : mpt Tryz.prog 31 = none := by kernel_rfl
theorem tf157 : lsz Tryz.prog 43 = some (false, 1) := by kernel_rfl
theorem tf158 : knownT Tryz.prog 43 = true := by kernel_rfl
theorem tf159 : isStrT Tryz.prog 43 = false := by kernel_rfl
theorem tf160 : isBoolT Tryz.prog 43 = false := by kernel_rfl
theorem tf161 : isIfaceT Tryz.prog 43 = false := by kernel_rfl
theorem tf162 : ink Tryz.prog 43 = none := by kernel_rfl
theorem tf163 : sle Tryz.prog 43 = some (47, true, 5) := by kernel_rfl
theorem tf164 : eby Tryz.prog 43 = some 48 := by kernel_rfl
theorem tf165 : are Tryz.prog 43 = none := by kernel_rfl
theorem tf166 : zc Tryz.prog 43 = some [(.sl 0 [] .nil)] := by kernel_rfl
theorem tf167 : mpt Tryz.prog 43 = none := by kernel_rfl
theorem tf168 : lsz Tryz.prog 45 = some (true, 7) := by kernel_rfl
theorem tf169 : knownT Tryz.prog 45 = true := by kernel_rfl
theorem tf170 : isStrT Tryz.prog 45 = false := by kernel_rfl
theorem tf171 : isBoolT Tryz.prog 45 = false := by kernel_rfl
theorem tf172 : isIfaceT Tryz.prog 45 = false := by kernel_rfl
theorem tf173 : ink Tryz.prog 45 = none := by kernel_rfl
theorem tf174 : sle Tryz.prog 45 = none := by kernel_rfl
theorem tf175 : are Tryz.prog 45 = none := by kernel_rfl
theorem tf176 : zc Tryz.prog 45 = some [(.int .i64 0), (.int .i64 0), (.int .i64 0), (.int .i64 0), (.int .i64 0), (.bool false), (.sl 0 [] .nil)] := by kernel_rfl
theorem tf177 : fld Tryz.prog 45 0 = some (0, false, 1) := by kernel_rfl
theorem tf178 : fld Tryz.prog 45 1 = some (1, false, 1) := by kernel_rfl
theorem tf179 : fld Tryz.prog 45 2 = some (2, false, 1) := by kernel_rfl
theorem tf180 : fld Tryz.prog 45 3 = some (3, false, 1) := by kernel_rfl
theorem tf181 : fld Tryz.prog 45 4 = some (4, false, 1) := by kernel_rfl
theorem tf182 : fld Tryz.prog 45 5 = some (5, false, 1) := by kernel_rfl
theorem tf183 : fld Tryz.prog 45 6 = some (6, false, 1) := by kernel_rfl
theorem tf184 : zp Tryz.prog 45 = some ([(.int .i64 0), (.int .i64 0), (.int .i64 0), (.int .i64 0), (.int .i64 0), (.bool false), (.sl 0 [] .nil)], [(0, 1), (1, 1), (2, 1), (3, 1), (4, 1), (5, 1), (6, 1)]) := by kernel_rfl
theorem tf185 : mpt Tryz.prog 45 = none := by kernel_rfl
theorem tf186 : lsz Tryz.prog 47 = some (true, 5) := by kernel_rfl
theorem tf187 : knownT Tryz.prog 47 = true := by kernel_rfl
theorem tf188 : isStrT Tryz.prog 47 = false := by kernel_rfl
theorem tf189 : isBoolT Tryz.prog 47 = false := by kernel_rfl
theorem tf190 : isIfaceT Tryz.prog 47 = false := by kernel_rfl
theorem tf191 : ink Tryz.prog 47 = none := by kernel_rfl
theorem tf192 : sle Tryz.prog 47 = none := by kernel_rfl
theorem tf193 : are Tryz.prog 47 = none := by kernel_rfl
theorem tf194 : zc Tryz.prog 47 = some [(.str []), (.int .i64 0), (.int .i64 0), (.int .i64 0), (.int .i64 0)] := by kernel_rfl
theorem tf195 : fld Tryz.prog 47 0 = some (0, false, 1) := by kernel_rfl
theorem tf196 : fld Tryz.prog 47 1 = some (1, false, 1) := by kernel_rfl
theorem tf197 : fld Tryz.prog 47 2 = some (2, false, 1) := by kernel_rfl
theorem tf198 : fld Tryz.prog 47 3 = some (3, false, 1) := by kernel_rfl
theorem tf199 : fld Tryz.prog 47 4 = some (4, false, 1) := by kernel_rfl
theorem tf200 : zp Tryz.prog 47 = some ([(.str []), (.int .i64 0), (.int .i64 0), (.int .i64 0), (.int .i64 0)], [(0, 1), (1, 1), (2, 1), (3, 1), (4, 1)]) := by kernel_rfl
theorem tf201 : mpt Tryz.prog 47 = none := by kernel_rfl
theorem tf202 : steq Tryz.prog 47 = some [9, 3, 3, 3, 3] := by kernel_rfl
theorem tf203 : lsz Tryz.prog 50 = some (false, 1) := by kernel_rfl
theorem tf204 : knownT Tryz.prog 50 = true := by kernel_rfl
theorem tf205 : isStrT Tryz.prog 50 = false := by kernel_rfl
theorem tf206 : isBoolT Tryz.prog 50 = false := by kernel_rfl
theorem tf207 : isIfaceT Tryz.prog 50 = false := by kernel_rfl
theorem tf208 : ink Tryz.prog 50 = none := by kernel_rfl
theorem tf209 : sle Tryz.prog 50 = some (9, false, 1) := by kernel_rfl
theorem tf210 : eby Tryz.prog 50 = some 16 := by kernel_rfl
theorem tf211 : are Tryz.prog 50 = none := by kernel_rfl
theorem tf212 : zc Tryz.prog 50 = some [(.sl 0 [] .nil)] := by kernel_rfl
theorem tf213 : mpt Tryz.prog 50 = none := by kernel_rfl
theorem tf214 : lsz Tryz.prog 51 = some (false, 1) := by kernel_rfl
theorem tf215 : knownT Tryz.prog 51 = true := by kernel_rfl
theorem tf216 : isStrT Tryz.prog 51 = false := by kernel_rfl
theorem tf217 : isBoolT Tryz.prog 51 = false := by kernel_rfl
theorem tf218 : isIfaceT Tryz.prog 51 = false := by kernel_rfl
theorem tf219 : ink Tryz.prog 51 = none := by kernel_rfl
theorem tf220 : sle Tryz.prog 51 = some (4, false, 1) := by kernel_rfl
theorem tf221 : eby Tryz.prog 51 = some 1 := by kernel_rfl
theorem tf222 : are Tryz.prog 51 = none := by kernel_rfl
theorem tf223 : zc Tryz.prog 51 = some [(.sl 0 [] .nil)] := by kernel_rfl
theorem tf224 : mpt Tryz.prog 51 = none := by kernel_rfl
theorem tf225 : lsz Tryz.prog 53 = some (false, 1) := by kernel_rfl
theorem tf226 : knownT Tryz.prog 53 = true := by kernel_rfl
theorem tf227 : isStrT Tryz.prog 53 = false := by kernel_rfl
theorem tf228 : isBoolT Tryz.prog 53 = false := by kernel_rfl
theorem tf229 : isIfaceT Tryz.prog 53 = false := by kernel_rfl
theorem tf230 : ink Tryz.prog 53 = none := by kernel_rfl
theorem tf231 : sle Tryz.prog 53 = some (45, true, 7) := by kernel_rfl
theorem tf232 : eby Tryz.prog 53 = some 72 := by kernel_rfl
theorem tf233 : are Tryz.prog 53 = none := by kernel_rfl
theorem tf234 : zc Tryz.prog 53 = some [(.sl 0 [] .nil)] := by kernel_rfl
theorem tf235 : mpt Tryz.prog 53 = none := by kernel_rfl
theorem tf236 : lsz Tryz.prog 55 = some (false, 1) := by kernel_rfl
theorem tf237 : knownT Tryz.prog 55 = true := by kernel_rfl
theorem tf238 : isStrT Tryz.prog 55 = false := by kernel_rfl
theorem tf239 : isBoolT Tryz.prog 55 = false := by kernel_rfl
theorem tf240 : isIfaceT Tryz.prog 55 = false := by kernel_rfl
theorem tf241 : ink Tryz.prog 55 = none := by kernel_rfl
theorem tf242 : sle Tryz.prog 55 = none := by kernel_rfl
theorem tf243 : are Tryz.prog 55 = none := by kernel_rfl
theorem tf244 : zc Tryz.prog 55 = some [(.v (.pointer none))] := by kernel_rfl
theorem tf245 : mpt Tryz.prog 55 = none := by kernel_rfl
theorem tf246 : lsz Tryz.prog 60 = some (false, 1) := by kernel_rfl
theorem tf247 : knownT Tryz.prog 60 = true := by kernel_rfl
theorem tf248 : isStrT Tryz.prog 60 = false := by kernel_rfl
theorem tf249 : isBoolT Tryz.prog 60 = false := by kernel_rfl
theorem tf250 : isIfaceT Tryz.prog 60 = false := by kernel_rfl
theorem tf251 : ink Tryz.prog 60 = none := by kernel_rfl
theorem tf252 : sle Tryz.prog 60 = none := by kernel_rfl
theorem tf253 : are Tryz.prog 60 = none := by kernel_rfl
theorem tf254 : zc Tryz.prog 60 = some [(.v (.pointer none))] := by kernel_rfl
theorem tf255 : mpt Tryz.prog 60 = none := by kernel_rfl
theorem tf256 : lsz Tryz.prog 63 = some (true, 1) := by kernel_rfl
theorem tf257 : knownT Tryz.prog 63 = true := by kernel_rfl
theorem tf258 : isStrT Tryz.prog 63 = false := by kernel_rfl
theorem tf259 : isBoolT Tryz.prog 63 = false := by kernel_rfl
theorem tf260 : isIfaceT Tryz.prog 63 = false := by kernel_rfl
theorem tf261 : ink Tryz.prog 63 = none := by kernel_rfl
theorem tf262 : sle Tryz.prog 63 = none := by kernel_rfl
theorem tf263 : are Tryz.prog 63 = none := by kernel_rfl
theorem tf264 : zc Tryz.prog 63 = some [(.sl 0 [] .nil)] := by kernel_rfl
theorem tf265 : fld Tryz.prog 63 0 = some (0, false, 1) := by kernel_rfl
theorem tf266 : zp Tryz.prog 63 = some ([(.sl 0 [] .nil)], [(0, 1)]) := by kernel_rfl
theorem tf267 : mpt Tryz.prog 63 = none := by kernel_rfl
theorem tf268 : lsz Tryz.prog 66 = some (true, 0) := by kernel_rfl
theorem tf269 : knownT Tryz.prog 66 = true := by kernel_rfl
theorem tf270 : isStrT Tryz.prog 66 = false := by kernel_rfl
theorem tf271 : isBoolT Tryz.prog 66 = false := by kernel_rfl
theorem tf272 : isIfaceT Tryz.prog 66 = false := by kernel_rfl
theorem tf273 : ink Tryz.prog 66 = none := by kernel_rfl
theorem tf274 : sle Tryz.prog 66 = none := by kernel_rfl
theorem tf275 : are Tryz.prog 66 = none := by kernel_rfl
theorem tf276 : zc Tryz.prog 66 = some [] := by kernel_rfl
theorem tf277 : zp Tryz.prog 66 = some ([], []) := by kernel_rfl
theorem tf278 : mpt Tryz.prog 66 = none := by kernel_rfl
theorem tf279 : lsz Tryz.prog 70 = some (false, 1) := by kernel_rfl
theorem tf280 : knownT Tryz.prog 70 = true := by kernel_rfl
theorem tf281 : isStrT Tryz.prog 70 = false := by kernel_rfl
theorem tf282 : isBoolT Tryz.prog 70 = false := by kernel_rfl
theorem tf283 : isIfaceT Tryz.prog 70 = false := by kernel_rfl
theorem tf284 : ink Tryz.prog 70 = none := by kernel_rfl
theorem tf285 : sle Tryz.prog 70 = none := by kernel_rfl
theorem tf286 : are Tryz.prog 70 = none := by kernel_rfl
theorem tf287 : zc Tryz.prog 70 = some [(.v (.map none))] := by kernel_rfl
theorem tf288 : mpt Tryz.prog 70 = some (3, 4) := by kernel_rfl
theorem tf289 : lsz Tryz.prog 72 = some (false, 1) := by kernel_rfl
theorem tf290 : knownT Tryz.prog 72 = true := by kernel_rfl
theorem tf291 : isStrT Tryz.prog 72 = false := by kernel_rfl
theorem tf292 : isBoolT Tryz.prog 72 = false := by kernel_rfl
theorem tf293 : isIfaceT Tryz.prog 72 = false := by kernel_rfl
theorem tf294 : ink Tryz.prog 72 = none := by kernel_rfl
theorem tf295 : sle Tryz.prog 72 = none := by kernel_rfl
theorem tf296 : are Tryz.prog 72 = none := by kernel_rfl
theorem tf297 : zc Tryz.prog 72 = some [(.v .nilFunc)] := by kernel_rfl
theorem tf298 : mpt Tryz.prog 72 = none := by kernel_rfl
theorem tf299 : lsz Tryz.prog 73 = some (false, 1) := by kernel_rfl
theorem tf300 : knownT Tryz.prog 73 = true := by kernel_rfl
theorem tf301 : isStrT Tryz.prog 73 = false := by kernel_rfl
theorem tf302 : isBoolT Tryz.prog 73 = false := by kernel_rfl
theorem tf303 : isIfaceT Tryz.prog 73 = false := by kernel_rfl
theorem tf304 : ink Tryz.prog 73 = none := by kernel_rfl
theorem tf305 : sle Tryz.prog 73 = none := by kernel_rfl
theorem tf306 : are Tryz.prog 73 = none := by kernel_rfl
theorem tf307 : zc Tryz.prog 73 = some [(.v .nilFunc)] := by kernel_rfl
theorem tf308 : mpt Tryz.prog 73 = none := by kernel_rfl
theorem tf309 : lsz Tryz.prog 78 = some (false, 1) := by kernel_rfl
theorem tf310 : knownT Tryz.prog 78 = true := by kernel_rfl
theorem tf311 : isStrT Tryz.prog 78 = false := by kernel_rfl
theorem tf312 : isBoolT Tryz.prog 78 = false := by kernel_rfl
theorem tf313 : isIfaceT Tryz.prog 78 = false := by kernel_rfl
theorem tf314 : ink Tryz.prog 78 = none := by kernel_rfl
theorem tf315 : sle Tryz.prog 78 = none := by kernel_rfl
theorem tf316 : are Tryz.prog 78 = none := by kernel_rfl
theorem tf317 : zc Tryz.prog 78 = some [(.v .nilFunc)] := by kernel_rfl
theorem tf318 : mpt Tryz.prog 78 = none := by kernel_rfl
theorem tf319 : lsz Tryz.prog 94 = some (false, 1) := by kernel_rfl
theorem tf320 : knownT Tryz.prog 94 = true := by kernel_rfl
theorem tf321 : isStrT Tryz.prog 94 = false := by kernel_rfl
theorem tf322 : isBoolT Tryz.prog 94 = false := by kernel_rfl
theorem tf323 : isIfaceT Tryz.prog 94 = false := by kernel_rfl
theorem tf324 : ink Tryz.prog 94 = none := by kernel_rfl
theorem tf325 : sle Tryz.prog 94 = some (3, false, 1) := by kernel_rfl
theorem tf326 : eby Tryz.prog 94 = some 8 := by kernel_rfl
theorem tf327 : are Tryz.prog 94 = none := by kernel_rfl
theorem tf328 : zc Tryz.prog 94 = some [(.sl 0 [] .nil)] := by kernel_rfl
theorem tf329 : mpt Tryz.prog 94 = none := by kernel_rfl
theorem tf330 : lsz Tryz.prog 103 = some (false, 1) := by kernel_rfl
theorem tf331 : knownT Tryz.prog 103 = true := by kernel_rfl
theorem tf332 : isStrT Tryz.prog 103 = false := by kernel_rfl
theorem tf333 : isBoolT Tryz.prog 103 = false := by kernel_rfl
theorem tf334 : isIfaceT Tryz.prog 103 = false := by kernel_rfl
theorem tf335 : ink Tryz.prog 103 = none := by kernel_rfl
theorem tf336 : sle Tryz.prog 103 = none := by kernel_rfl
theorem tf337 : are Tryz.prog 103 = none := by kernel_rfl
theorem tf338 : zc Tryz.prog 103 = some [(.v .nilFunc)] := by kernel_rfl
theorem tf339 : mpt Tryz.prog 103 = none := by kernel_rfl
theorem tf340 : lsz Tryz.prog 106 = some (false, 1) := by kernel_rfl
theorem tf341 : knownT Tryz.prog 106 = true := by kernel_rfl
theorem tf342 : isStrT Tryz.prog 106 = false := by kernel_rfl
theorem tf343 : isBoolT Tryz.prog 106 = false := by kernel_rfl
theorem tf344 : isIfaceT Tryz.prog 106 = true := by kernel_rfl
theorem tf345 : ink Tryz.prog 106 = none := by kernel_rfl
theorem tf346 : sle Tryz.prog 106 = none := by kernel_rfl
theorem tf347 : are Tryz.prog 106 = none := by kernel_rfl
theorem tf348 : zc Tryz.prog 106 = some [(.v .nilIface)] := by kernel_rfl
theorem tf349 : mpt Tryz.prog 106 = none := by kernel_rfl
theorem tf350 : lsz Tryz.prog 110 = some (false, 1) := by kernel_rfl
theorem tf351 : knownT Tryz.prog 110 = true := by kernel_rfl
theorem tf352 : isStrT Tryz.prog 110 = false := by kernel_rfl
theorem tf353 : isBoolT Tryz.prog 110 = false := by kernel_rfl
theorem tf354 : isIfaceT Tryz.prog 110 = false := by kernel_rfl
theorem tf355 : ink Tryz.prog 110 = none := by kernel_rfl
theorem tf356 : sle Tryz.prog 110 = none := by kernel_rfl
theorem tf357 : are Tryz.prog 110 = none := by kernel_rfl
theorem tf358 : zc Tryz.prog 110 = some [(.v (.pointer none))] := by kernel_rfl
theorem tf359 : mpt Tryz.prog 110 = none := by kernel_rfl
theorem tf360 : lsz Tryz.prog 111 = some (false, 1) := by kernel_rfl
theorem tf361 : knownT Tryz.prog 111 = true := by kernel_rfl
theorem tf362 : isStrT Tryz.prog 111 = false := by kernel_rfl
theorem tf363 : isBoolT Tryz.prog 111 = false := by kernel_rfl
theorem tf364 : isIfaceT Tryz.prog 111 = false := by kernel_rfl
theorem tf365 : ink Tryz.prog 111 = none := by kernel_rfl
theorem tf366 : sle Tryz.prog 111 = some (5, false, 1) := by kernel_rfl
theorem tf367 : eby Tryz.prog 111 = some 1 := by kernel_rfl
theorem tf368 : are Tryz.prog 111 = none := by kernel_rfl
theorem tf369 : zc Tryz.prog 111 = some [(.sl 0 [] .nil)] := by kernel_rfl
theorem tf370 : mpt Tryz.prog 111 = none := by kernel_rfl
theorem tf371 : lsz Tryz.prog 113 = some (true, 2) := by kernel_rfl
theorem tf372 : knownT Tryz.prog 113 = true := by kernel_rfl
theorem tf373 : isStrT Tryz.prog 113 = false := by kernel_rfl
theorem tf374 : isBoolT Tryz.prog 113 = false := by kernel_rfl
theorem tf375 : isIfaceT Tryz.prog 113 = false := by kernel_rfl
theorem tf376 : ink Tryz.prog 113 = none := by kernel_rfl
theorem tf377 : sle Tryz.prog 113 = none := by kernel_rfl
theorem tf378 : are Tryz.prog 113 = none := by kernel_rfl
theorem tf379 : zc Tryz.prog 113 = some [(.v (.pointer none)), (.sl 0 [] .nil)] := by kernel_rfl
theorem tf380 : fld Tryz.prog 113 0 = some (0, false, 1) := by kernel_rfl
theorem tf381 : fld Tryz.prog 113 1 = some (1, false, 1) := by kernel_rfl
theorem tf382 : zp Tryz.prog 113 = some ([(.v (.pointer none)), (.sl 0 [] .nil)], [(0, 1), (1, 1)]) := by kernel_rfl
theorem tf383 : mpt Tryz.prog 113 = none := by kernel_rfl
theorem tf384 : lsz Tryz.prog 124 = some (false, 1) := by kernel_rfl
theorem tf385 : knownT Tryz.prog 124 = true := by kernel_rfl
theorem tf386 : isStrT Tryz.prog 124 = false := by kernel_rfl
theorem tf387 : isBoolT Tryz.prog 124 = false := by kernel_rfl
theorem tf388 : isIfaceT Tryz.prog 124 = false := by kernel_rfl
theorem tf389 : ink Tryz.prog 124 = none := by kernel_rfl
theorem tf390 : sle Tryz.prog 124 = none := by kernel_rfl
theorem tf391 : are Tryz.prog 124 = none := by kernel_rfl
theorem tf392 : zc Tryz.prog 124 = some [(.v (.pointer none))] := by kernel_rfl
theorem tf393 : mpt Tryz.prog 124 = none := by kernel_rfl
theorem tf394 : lsz Tryz.prog 128 = some (false, 1) := by kernel_rfl
theorem tf395 : knownT Tryz.prog 128 = true := by kernel_rfl
theorem tf396 : isStrT Tryz.prog 128 = false := by kernel_rfl
theorem tf397 : isBoolT Tryz.prog 128 = false := by kernel_rfl
theorem tf398 : isIfaceT Tryz.prog 128 = false := by kernel_rfl
theorem tf399 : ink Tryz.prog 128 = some .i64 := by kernel_rfl
theorem tf400 : sle Tryz.prog 128 = none := by kernel_rfl
theorem tf401 : are Tryz.prog 128 = none := by kernel_rfl
theorem tf402 : zc Tryz.prog 128 = some [(.int .i64 0)] := by kernel_rfl
theorem tf403 : mpt Tryz.prog 128 = none := by kernel_rfl
theorem tf404 : lsz Tryz.prog 131 = some (false, 1) := by kernel_rfl
theorem tf405 : knownT Tryz.prog 131 = true := by kernel_rfl
theorem tf406 : isStrT Tryz.prog 131 = false := by kernel_rfl
theorem tf407 : isBoolT Tryz.prog 131 = false := by kernel_rfl
theorem tf408 : isIfaceT Tryz.prog 131 = false := by kernel_rfl
theorem tf409 : ink Tryz.prog 131 = none := by kernel_rfl
theorem tf410 : sle Tryz.prog 131 = none := by kernel_rfl
theorem tf411 : are Tryz.prog 131 = none := by kernel_rfl
theorem tf412 : zc Tryz.prog 131 = some [(.v (.pointer none))] := by kernel_rfl
theorem tf413 : mpt Tryz.prog 131 = none := by kernel_rfl
theorem tf414 : lsz Tryz.prog 134 = some (true, 24) := by kernel_rfl
theorem tf415 : knownT Tryz.prog 134 = true := by kernel_rfl
theorem tf416 : isStrT Tryz.prog 134 = false := by kernel_rfl
theorem tf417 : isBoolT Tryz.prog 134 = false := by kernel_rfl
theorem tf418 : isIfaceT Tryz.prog 134 = false := by kernel_rfl
theorem tf419 : ink Tryz.prog 134 = none := by kernel_rfl
theorem tf420 : sle Tryz.prog 134 = none := by kernel_rfl
theorem tf421 : are Tryz.prog 134 = some (24, false, 1) := by kernel_rfl
theorem tf422 : zc Tryz.prog 134 = some [(.int .u8 0), (.int .u8 0), (.int .u8 0), (.int .u8 0), (.int .u8 0), (.int .u8 0), (.int .u8 0), (.int .u8 0), (.int .u8 0), (.int .u8 0), (.int .u8 0), (.int .u8 0), (.int .u8 0), (.int .u8 0), (.int .u8 0), (.int .u8 0), (.int .u8 0), (.int .u8 0), (.int .u8 0), (.int .u8 0), (.int .u8 0), (.int .u8 0), (.int .u8 0), (.int .u8 0)] := by kernel_rfl
theorem tf423 : mpt Tryz.prog 134 = none := by kernel_rfl
theorem tf424 : steq Tryz.prog 134 = some (List.replicate 24 5) := by kernel_rfl
theorem tf425 : zp Tryz.prog 134 = some ([(.int .u8 0), (.int .u8 0), (.int .u8 0), (.int .u8 0), (.int .u8 0), (.int .u8 0), (.int .u8 0), (.int .u8 0), (.int .u8 0), (.int .u8 0), (.int .u8 0), (.int .u8 0), (.int .u8 0), (.int .u8 0), (.int .u8 0), (.int .u8 0), (.int .u8 0), (.int .u8 0), (.int .u8 0), (.int .u8 0), (.int .u8 0), (.int .u8 0), (.int .u8 0), (.int .u8 0)], [(0, 1), (1, 1), (2, 1), (3, 1), (4, 1), (5, 1), (6, 1), (7, 1), (8, 1), (9, 1), (10, 1), (11, 1), (12, 1), (13, 1), (14, 1), (15, 1), (16, 1), (17, 1), (18, 1), (19, 1), (20, 1), (21, 1), (22, 1), (23, 1)]) := by kernel_rfl
theorem tf426 : lsz Tryz.prog 135 = some (false, 1) := by kernel_rfl
theorem tf427 : knownT Tryz.prog 135 = true := by kernel_rfl
theorem tf428 : isStrT Tryz.prog 135 = false := by kernel_rfl
theorem tf429 : isBoolT Tryz.prog 135 = false := by kernel_rfl
theorem tf430 : isIfaceT Tryz.prog 135 = false := by kernel_rfl
theorem tf431 : ink Tryz.prog 135 = some .u64 := by kernel_rfl
theorem tf432 : sle Tryz.prog 135 = none := by kernel_rfl
theorem tf433 : are Tryz.prog 135 = none := by kernel_rfl
theorem tf434 : zc Tryz.prog 135 = some [(.int .u64 0)] := by kernel_rfl
theorem tf435 : mpt Tryz.prog 135 = none := by kernel_rfl
theorem tf436 : lsz Tryz.prog 140 = some (false, 1) := by kernel_rfl
theorem tf437 : knownT Tryz.prog 140 = true := by kernel_rfl
theorem tf438 : isStrT Tryz.prog 140 = false := by kernel_rfl
theorem tf439 : isBoolT Tryz.prog 140 = false := by kernel_rfl
theorem tf440 : isIfaceT Tryz.prog 140 = false := by kernel_rfl
theorem tf441 : ink Tryz.prog 140 = none := by kernel_rfl
theorem tf442 : sle Tryz.prog 140 = none := by kernel_rfl
theorem tf443 : are Tryz.prog 140 = none := by kernel_rfl
theorem tf444 : zc Tryz.prog 140 = some [(.v (.pointer none))] := by kernel_rfl
theorem tf445 : mpt Tryz.prog 140 = none := by kernel_rfl
theorem tf446 : lsz Tryz.prog 144 = some (false, 1) := by kernel_rfl
theorem tf447 : knownT Tryz.prog 144 = true := by kernel_rfl
theorem tf448 : isStrT Tryz.prog 144 = false := by kernel_rfl
theorem tf449 : isBoolT Tryz.prog 144 = false := by kernel_rfl
theorem tf450 : isIfaceT Tryz.prog 144 = false := by kernel_rfl
theorem tf451 : ink Tryz.prog 144 = some .u64 := by kernel_rfl
theorem tf452 : sle Tryz.prog 144 = none := by kernel_rfl
theorem tf453 : are Tryz.prog 144 = none := by kernel_rfl
theorem tf454 : zc Tryz.prog 144 = some [(.int .u64 0)] := by kernel_rfl
theorem tf455 : mpt Tryz.prog 144 = none := by kernel_rfl
theorem tf456 : lsz Tryz.prog 145 = some (true, 256) := by kernel_rfl
theorem tf457 : knownT Tryz.prog 145 = true := by kernel_rfl
theorem tf458 : isStrT Tryz.prog 145 = false := by kernel_rfl
theorem tf459 : isBoolT Tryz.prog 145 = false := by kernel_rfl
theorem tf460 : isIfaceT Tryz.prog 145 = false := by kernel_rfl
theorem tf461 : ink Tryz.prog 145 = none := by kernel_rfl
theorem tf462 : sle Tryz.prog 145 = none := by kernel_rfl
theorem tf463 : are Tryz.prog 145 = some (256, false, 1) := by kernel_rfl
theorem tf464 : zc Tryz.prog 145 = some [(.int .u8 0), (.int .u8 0), (.int .u8 0), (.int .u8 0), (.int .u8 0), (.int .u8 0), (.int .u8 0), (.int .u8 0), (.int .u8 0), (.int .u8 0), (.int .u8 0), (.int .u8 0), (.int .u8 0), (.int .u8 0), (.int .u8 0), (.int .u8 0), (.int .u8 0), (.int .u8 0), (.int .u8 0), (.int .u8 0), (.int .u8 0), (.int .u8 0), (.int .u8 0), (.int .u8 0), (.int .u8 0), (.int .u8 0), (.int .u8 0), (.int .u8 0), (.int .u8 0), (.int .u8 0), (.int .u8 0), (.int .u8 0), (.int .u8 0), (.int .u8 0), (.int .u8 0), (.int .u8 0), (.int .u8 0), (.int .u8 0), (.int .u8 0), (.int .u8 0), (.int .u8 0), (.int .u8 0), (.int .u8 0), (.int .u8 0), (.int .u8 0), (.int .u8 0), (.int .u8 0), (.int .u8 0), (.int .u8 0), (.int .u8 0), (.int .u8 0), (.int .u8 0), (.int .u8 0), (.int .u8 0), (.int .u8 0), (.int .u8 0), (.int .u8 0), (.int .u8 0), (.int .u8 0), (.int .u8 0), (.int .u8 0), (.int .u8 0), (.int .u8 0), (.int .u8 0), (.int .u8 0), (.int .u8 0), (.int .u8 0), (.int .u8 0), (.int .u8 0), (.int .u8 0), (.int .u8 0), (.int .u8 0), (.int .u8 0), (.int .u8 0), (.int .u8 0), (.int .u8 0), (.int .u8 0), (.int .u8 0), (.int .u8 0), (.int .u8 0), (.int .u8 0), (.int .u8 0), (.int .u8 0), (.int .u8 0), (.int .u8 0), (.int .u8 0), (.int .u8 0), (.int .u8 0), (.int .u8 0), (.int .u8 0), (.int .u8 0), (.int .u8 0), (.int .u8 0), (.int .u8 0), (.int .u8 0), (.int .u8 0), (.int .u8 0), (.int .u8 0), (.int .u8 0), (.int .u8 0), (.int .u8 0), (.int .u8 0), (.int .u8 0), (.int .u8 0), (.int .u8 0), (.int .u8 0), (.int .u8 0), (.int .u8 0), (.int .u8 0), (.int .u8 0), (.int .u8 0), (.int .u8 0), (.int .u8 0), (.int .u8 0), (.int .u8 0), (.int .u8 0), (.int .u8 0), (.int .u8 0), (.int .u8 0), (.int .u8 0), (.int .u8 0), (.int .u8 0), (.int .u8 0), (.int .u8 0), (.int .u8 0), (.int .u8 0), (.int .u8 0), (.int .u8 0), (.int .u8 0), (.int .u8 0), (.int .u8 0), (.int .u8 0), (.int .u8 0), (.int .u8 0), (.int .u8 0), (.int .u8 0), (.int .u8 0), (.int .u8 0), (.int .u8 0), (.int .u8 0), (.int .u8 0), (.int .u8 0), (.int .u8 0), (.int .u8 0), (.int .u8 0), (.int .u8 0), (.int .u8 0), (.int .u8 0), (.int .u8 0), (.int .u8 0), (.int .u8 0), (.int .u8 0), (.int .u8 0), (.int .u8 0), (.int .u8 0), (.int .u8 0), (.int .u8 0), (.int .u8 0), (.int .u8 0), (.int .u8 0), (.int .u8 0), (.int .u8 0), (.int .u8 0), (.int .u8 0), (.int .u8 0), (.int .u8 0), (.int .u8 0), (.int .u8 0), (.int .u8 0), (.int .u8 0), (.int .u8 0), (.int .u8 0), (.int .u8 0), (.int .u8 0), (.int .u8 0), (.int .u8 0), (.int .u8 0), (.int .u8 0), (.int .u8 0), (.int .u8 0), (.int .u8 0), (.int .u8 0), (.int .u8 0), (.int .u8 0), (.int .u8 0), (.int .u8 0), (.int .u8 0), (.int .u8 0), (.int .u8 0), (.int .u8 0), (.int .u8 0), (.int .u8 0), (.int .u8 0), (.int .u8 0), (.int .u8 0), (.int .u8 0), (.int .u8 0), (.int .u8 0), (.int .u8 0), (.int .u8 0), (.int .u8 0), (.int .u8 0), (.int .u8 0), (.int .u8 0), (.int .u8 0), (.int .u8 0), (.int .u8 0), (.int .u8 0), (.int .u8 0), (.int .u8 0), (.int .u8 0), (.int .u8 0), (.int .u8 0), (.int .u8 0), (.int .u8 0), (.int .u8 0), (.int .u8 0), (.int .u8 0), (.int .u8 0), (.int .u8 0), (.int .u8 0), (.int .u8 0), (.int .u8 0), (.int .u8 0), (.int .u8 0), (.int .u8 0), (.int .u8 0), (.int .u8 0), (.int .u8 0), (.int .u8 0), (.int .u8 0), (.int .u8 0), (.int .u8 0), (.int .u8 0), (.int .u8 0), (.int .u8 0), (.int .u8 0), (.int .u8 0), (.int .u8 0), (.int .u8 0), (.int .u8 0), (.int .u8 0), (.int .u8 0), (.int .u8 0), (.int .u8 0), (.int .u8 0), (.int .u8 0), (.int .u8 0), (.int .u8 0), (.int .u8 0), (.int .u8 0), (.int .u8 0), (.int .u8 0), (.int .u8 0), (.int .u8 0), (.int .u8 0)] := by kernel_rfl
theorem tf465 : mpt Tryz.prog 145 = none := by kernel_rfl
theorem tf466 : steq Tryz.prog 145 = some (List.replicate 256 5) := by kernel_rfl
theorem tf467 : zp Tryz.prog 145 = some ([(.int .u8 0), (.int .u8 0), (.int .u8 0), (.int .u8 0), (.int .u8 0), (.int .u8 0), (.int .u8 0), (.int .u8 0), (.int .u8 0), (.int .u8 0), (.int .u8 0), (.int .u8 0), (.int .u8 0), (.int .u8 0), (.int .u8 0), (.int .u8 0), (.int .u8 0), (.int .u8 0), (.int .u8 0), (.int .u8 0), (.int .u8 0), (.int .u8 0), (.int .u8 0), (.int .u8 0), (.int .u8 0), (.int .u8 0), (.int .u8 0), (.int .u8 0), (.int .u8 0), (.int .u8 0), (.int .u8 0), (.int .u8 0), (.int .u8 0), (.int .u8 0), (.int .u8 0), (.int .u8 0), (.int .u8 0), (.int .u8 0), (.int .u8 0), (.int .u8 0), (.int .u8 0), (.int .u8 0), (.int .u8 0), (.int .u8 0), (.int .u8 0), (.int .u8 0), (.int .u8 0), (.int .u8 0), (.int .u8 0), (.int .u8 0), (.int .u8 0), (.int .u8 0), (.int .u8 0), (.int .u8 0), (.int .u8 0), (.int .u8 0), (.int .u8 0), (.int .u8 0), (.int .u8 0), (.int .u8 0), (.int .u8 0), (.int .u8 0), (.int .u8 0), (.int .u8 0), (.int .u8 0), (.int .u8 0), (.int .u8 0), (.int .u8 0), (.int .u8 0), (.int .u8 0), (.int .u8 0), (.int .u8 0), (.int .u8 0), (.int .u8 0), (.int .u8 0), (.int .u8 0), (.int .u8 0), (.int .u8 0), (.int .u8 0), (.int .u8 0), (.int .u8 0), (.int .u8 0), (.int .u8 0), (.int .u8 0), (.int .u8 0), (.int .u8 0), (.int .u8 0), (.int .u8 0), (.int .u8 0), (.int .u8 0), (.int .u8 0), (.int .u8 0), (.int .u8 0), (.int .u8 0), (.int .u8 0), (.int .u8 0), (.int .u8 0), (.int .u8 0), (.int .u8 0), (.int .u8 0), (.int .u8 0), (.int .u8 0), (.int .u8 0), (.int .u8 0), (.int .u8 0), (.int .u8 0), (.int .u8 0), (.int .u8 0), (.int .u8 0), (.int .u8 0), (.int .u8 0), (.int .u8 0), (.int .u8 0), (.int .u8 0), (.int .u8 0), (.int .u8 0), (.int .u8 0), (.int .u8 0), (.int .u8 0), (.int .u8 0), (.int .u8 0), (.int .u8 0), (.int .u8 0), (.int .u8 0), (.int .u8 0), (.int .u8 0), (.int .u8 0), (.int .u8 0), (.int .u8 0), (.int .u8 0), (.int .u8 0), (.int .u8 0), (.int .u8 0), (.int .u8 0), (.int .u8 0), (.int .u8 0), (.int .u8 0), (.int .u8 0), (.int .u8 0), (.int .u8 0), (.int .u8 0), (.int .u8 0), (.int .u8 0), (.int .u8 0), (.int .u8 0), (.int .u8 0), (.int .u8 0), (.int .u8 0), (.int .u8 0), (.int .u8 0), (.int .u8 0), (.int .u8 0), (.int .u8 0), (.int .u8 0), (.int .u8 0), (.int .u8 0), (.int .u8 0), (.int .u8 0), (.int .u8 0), (.int .u8 0), (.int .u8 0), (.int .u8 0), (.int .u8 0), (.int .u8 0), (.int .u8 0), (.int .u8 0), (.int .u8 0), (.int .u8 0), (.int .u8 0), (.int .u8 0), (.int .u8 0), (.int .u8 0), (.int .u8 0), (.int .u8 0), (.int .u8 0), (.int .u8 0), (.int .u8 0), (.int .u8 0), (.int .u8 0), (.int .u8 0), (.int .u8 0), (.int .u8 0), (.int .u8 0), (.int .u8 0), (.int .u8 0), (.int .u8 0), (.int .u8 0), (.int .u8 0), (.int .u8 0), (.int .u8 0), (.int .u8 0), (.int .u8 0), (.int .u8 0), (.int .u8 0), (.int .u8 0), (.int .u8 0), (.int .u8 0), (.int .u8 0), (.int .u8 0), (.int .u8 0), (.int .u8 0), (.int .u8 0), (.int .u8 0), (.int .u8 0), (.int .u8 0), (.int .u8 0), (.int .u8 0), (.int .u8 0), (.int .u8 0), (.int .u8 0), (.int .u8 0), (.int .u8 0), (.int .u8 0), (.int .u8 0), (.int .u8 0), (.int .u8 0), (.int .u8 0), (.int .u8 0), (.int .u8 0), (.int .u8 0), (.int .u8 0), (.int .u8 0), (.int .u8 0), (.int .u8 0), (.int .u8 0), (.int .u8 0), (.int .u8 0), (.int .u8 0), (.int .u8 0), (.int .u8 0), (.int .u8 0), (.int .u8 0), (.int .u8 0), (.int .u8 0), (.int .u8 0), (.int .u8 0), (.int .u8 0), (.int .u8 0), (.int .u8 0), (.int .u8 0), (.int .u8 0), (.int .u8 0), (.int .u8 0), (.int .u8 0), (.int .u8 0), (.int .u8 0), (.int .u8 0), (.int .u8 0), (.int .u8 0), (.int .u8 0), (.int .u8 0), (.int .u8 0), (.int .u8 0), (.int .u8 0), (.int .u8 0), (.int .u8 0)], [(0, 1), (1, 1), (2, 1), (3, 1), (4, 1), (5, 1), (6, 1), (7, 1), (8, 1), (9, 1), (10, 1), (11, 1), (12, 1), (13, 1), (14, 1), (15, 1), (16, 1), (17, 1), (18, 1), (19, 1), (20, 1), (21, 1), (22, 1), (23, 1), (24, 1), (25, 1), (26, 1), (27, 1), (28, 1), (29, 1), (30, 1), (31, 1), (32, 1), (33, 1), (34, 1), (35, 1), (36, 1), (37, 1), (38, 1), (39, 1), (40, 1), (41, 1), (42, 1), (43, 1), (44, 1), (45, 1), (46, 1), (47, 1), (48, 1), (49, 1), (50, 1), (51, 1), (52, 1), (53, 1), (54, 1), (55, 1), (56, 1), (57, 1), (58, 1), (59, 1), (60, 1), (61, 1), (62, 1), (63, 1), (64, 1), (65, 1), (66, 1), (67, 1), (68, 1), (69, 1), (70, 1), (71, 1), (72, 1), (73, 1), (74, 1), (75, 1), (76, 1), (77, 1), (78, 1), (79, 1), (80, 1), (81, 1), (82, 1), (83, 1), (84, 1), (85, 1), (86, 1), (87, 1), (88, 1), (89, 1), (90, 1), (91, 1), (92, 1), (93, 1), (94, 1), (95, 1), (96, 1), (97, 1), (98, 1), (99, 1), (100, 1), (101, 1), (102, 1), (103, 1), (104, 1), (105, 1), (106, 1), (107, 1), (108, 1), (109, 1), (110, 1), (111, 1), (112, 1), (113, 1), (114, 1), (115, 1), (116, 1), (117, 1), (118, 1), (119, 1), (120, 1), (121, 1), (122, 1), (123, 1), (124, 1), (125, 1), (126, 1), (127, 1), (128, 1), (129, 1), (130, 1), (131, 1), (132, 1), (133, 1), (134, 1), (135, 1), (136, 1), (137, 1), (138, 1), (139, 1), (140, 1), (141, 1), (142, 1), (143, 1), (144, 1), (145, 1), (146, 1), (147, 1), (148, 1), (149, 1), (150, 1), (151, 1), (152, 1), (153, 1), (154, 1), (155, 1), (156, 1), (157, 1), (158, 1), (159, 1), (160, 1), (161, 1), (162, 1), (163, 1), (164, 1), (165, 1), (166, 1), (167, 1), (168, 1), (169, 1), (170, 1), (171, 1), (172, 1), (173, 1), (174, 1), (175, 1), (176, 1), (177, 1), (178, 1), (179, 1), (180, 1), (181, 1), (182, 1), (183, 1), (184, 1), (185, 1), (186, 1), (187, 1), (188, 1), (189, 1), (190, 1), (191, 1), (192, 1), (193, 1), (194, 1), (195, 1), (196, 1), (197, 1), (198, 1), (199, 1), (200, 1), (201, 1), (202, 1), (203, 1), (204, 1), (205, 1), (206, 1), (207, 1), (208, 1), (209, 1), (210, 1), (211, 1), (212, 1), (213, 1), (214, 1), (215, 1), (216, 1), (217, 1), (218, 1), (219, 1), (220, 1), (221, 1), (222, 1), (223, 1), (224, 1), (225, 1), (226, 1), (227, 1), (228, 1), (229, 1), (230, 1), (231, 1), (232, 1), (233, 1), (234, 1), (235, 1), (236, 1), (237, 1), (238, 1), (239, 1), (240, 1), (241, 1), (242, 1), (243, 1), (244, 1), (245, 1), (246, 1), (247, 1), (248, 1), (249, 1), (250, 1), (251, 1), (252, 1), (253, 1), (254, 1), (255, 1)]) := by kernel_rfl
theorem tf468 : lsz Tryz.prog 147 = some (true, 2) := by kernel_rfl
theorem tf469 : knownT Tryz.prog 147 = true := by kernel_rfl
theorem tf470 : isStrT Tryz.prog 147 = false := by kernel_rfl
theorem tf471 : isBoolT Tryz.prog 147 = false := by kernel_rfl
theorem tf472 : isIfaceT Tryz.prog 147 = false := by kernel_rfl
theorem tf473 : ink Tryz.prog 147 = none := by kernel_rfl
theorem tf474 : sle Tryz.prog 147 = none := by kernel_rfl
theorem tf475 : are Tryz.prog 147 = none := by kernel_rfl
theorem tf476 : zc Tryz.prog 147 = some [(.int .u8 0), (.int .u8 0)] := by kernel_rfl
theorem tf477 : fld Tryz.prog 147 0 = some (0, false, 1) := by kernel_rfl
theorem tf478 : fld Tryz.prog 147 1 = some (1, false, 1) := by kernel_rfl
theorem tf479 : zp Tryz.prog 147 = some ([(.int .u8 0), (.int .u8 0)], [(0, 1), (1, 1)]) := by kernel_rfl
theorem tf480 : mpt Tryz.prog 147 = none := by kernel_rfl
theorem tf481 : steq Tryz.prog 147 = some [5, 5] := by kernel_rfl
theorem tf482 : lsz Tryz.prog 148 = some (true, 32) := by kernel_rfl
theorem tf483 : knownT Tryz.prog 148 = true := by kernel_rfl
theorem tf484 : isStrT Tryz.prog 148 = false := by kernel_rfl
theorem tf485 : isBoolT Tryz.prog 148 = false := by kernel_rfl
theorem tf486 : isIfaceT Tryz.prog 148 = false := by kernel_rfl
theorem tf487 : ink Tryz.prog 148 = none := by kernel_rfl
theorem tf488 : sle Tryz.prog 148 = none := by kernel_rfl
theorem tf489 : are Tryz.prog 148 = some (16, true, 2) := by kernel_rfl
theorem tf490 : zc Tryz.prog 148 = some [(.int .u8 0), (.int .u8 0), (.int .u8 0), (.int .u8 0), (.int .u8 0), (.int .u8 0), (.int .u8 0), (.int .u8 0), (.int .u8 0), (.int .u8 0), (.int .u8 0), (.int .u8 0), (.int .u8 0), (.int .u8 0), (.int .u8 0), (.int .u8 0), (.int .u8 0), (.int .u8 0), (.int .u8 0), (.int .u8 0), (.int .u8 0), (.int .u8 0), (.int .u8 0), (.int .u8 0), (.int .u8 0), (.int .u8 0), (.int .u8 0), (.int .u8 0), (.int .u8 0), (.int .u8 0), (.int .u8 0), (.int .u8 0)] := by kernel_rfl
theorem tf491 : mpt Tryz.prog 148 = none := by kernel_rfl
theorem tf492 : zp Tryz.prog 148 = some ([(.int .u8 0), (.int .u8 0), (.int .u8 0), (.int .u8 0), (.int .u8 0), (.int .u8 0), (.int .u8 0), (.int .u8 0), (.int .u8 0), (.int .u8 0), (.int .u8 0), (.int .u8 0), (.int .u8 0), (.int .u8 0), (.int .u8 0), (.int .u8 0), (.int .u8 0), (.int .u8 0), (.int .u8 0), (.int .u8 0), (.int .u8 0), (.int .u8 0), (.int .u8 0), (.int .u8 0), (.int .u8 0), (.int .u8 0), (.int .u8 0), (.int .u8 0), (.int .u8 0), (.int .u8 0), (.int .u8 0), (.int .u8 0)], [(0, 2), (2, 2), (4, 2), (6, 2), (8, 2), (10, 2), (12, 2), (14, 2), (16, 2), (18, 2), (20, 2), (22, 2), (24, 2), (26, 2), (28, 2), (30, 2)]) := by kernel_rfl
theorem tf493 : lsz Tryz.prog 152 = some (true, 3) := by kernel_rfl
theorem tf494 : knownT Tryz.prog 152 = true := by kernel_rfl
theorem tf495 : isStrT Tryz.prog 152 = false := by kernel_rfl
theorem tf496 : isBoolT Tryz.prog 152 = false := by kernel_rfl
theorem tf497 : isIfaceT Tryz.prog 152 = false := by kernel_rfl
theorem tf498 : ink Tryz.prog 152 = none := by kernel_rfl
theorem tf499 : sle Tryz.prog 152 = none := by kernel_rfl
theorem tf500 : are Tryz.prog 152 = none := by kernel_rfl
theorem tf501 : zc Tryz.prog 152 = some [(.str []), (.str []), (.v .nilIface)] := by kernel_rfl
theorem tf502 : fld Tryz.prog 152 0 = some (0, false, 1) := by kernel_rfl
theorem tf503 : fld Tryz.prog 152 1 = some (1, false, 1) := by kernel_rfl
theorem tf504 : fld Tryz.prog 152 2 = some (2, false, 1) := by kernel_rfl
theorem tf505 : zp Tryz.prog 152 = some ([(.str []), (.str []), (.v .nilIface)], [(0, 1), (1, 1), (2, 1)]) := by kernel_rfl
theorem tf506 : mpt Tryz.prog 152 = none := by kernel_rfl
theorem tf507 : lsz Tryz.prog 155 = some (true, 20) := by kernel_rfl
theorem tf508 : knownT Tryz.prog 155 = true := by kernel_rfl
theorem tf509 : isStrT Tryz.prog 155 = false := by kernel_rfl
theorem tf510 : isBoolT Tryz.prog 155 = false := by kernel_rfl
theorem tf511 : isIfaceT Tryz.prog 155 = false := by kernel_rfl
theorem tf512 : ink Tryz.prog 155 = none := by kernel_rfl
theorem tf513 : sle Tryz.prog 155 = none := by kernel_rfl
theorem tf514 : are Tryz.prog 155 = some (20, false, 1) := by kernel_rfl
theorem tf515 : zc Tryz.prog 155 = some [(.int .u64 0), (.int .u64 0), (.int .u64 0), (.int .u64 0), (.int .u64 0), (.int .u64 0), (.int .u64 0), (.int .u64 0), (.int .u64 0), (.int .u64 0), (.int .u64 0), (.int .u64 0), (.int .u64 0), (.int .u64 0), (.int .u64 0), (.int .u64 0), (.int .u64 0), (.int .u64 0), (.int .u64 0), (.int .u64 0)] := by kernel_rfl
theorem tf516 : mpt Tryz.prog 155 = none := by kernel_rfl
theorem tf517 : steq Tryz.prog 155 = some (List.replicate 20 135) := by kernel_rfl
theorem tf518 : zp Tryz.prog 155 = some ([(.int .u64 0), (.int .u64 0), (.int .u64 0), (.int .u64 0), (.int .u64 0), (.int .u64 0), (.int .u64 0), (.int .u64 0), (.int .u64 0), (.int .u64 0), (.int .u64 0), (.int .u64 0), (.int .u64 0), (.int .u64 0), (.int .u64 0), (.int .u64 0), (.int .u64 0), (.int .u64 0), (.int .u64 0), (.int .u64 0)], [(0, 1), (1, 1), (2, 1), (3, 1), (4, 1), (5, 1), (6, 1), (7, 1), (8, 1), (9, 1), (10, 1), (11, 1), (12, 1), (13, 1), (14, 1), (15, 1), (16, 1), (17, 1), (18, 1), (19, 1)]) := by kernel_rfl
theorem tf519 : lsz Tryz.prog 156 = some (false, 1) := by kernel_rfl
theorem tf520 : knownT Tryz.prog 156 = true := by kernel_rfl
theorem tf521 : isStrT Tryz.prog 156 = false := by kernel_rfl
theorem tf522 : isBoolT Tryz.prog 156 = false := by kernel_rfl
theorem tf523 : isIfaceT Tryz.prog 156 = false := by kernel_rfl
theorem tf524 : ink Tryz.prog 156 = some .u32 := by kernel_rfl
theorem tf525 : sle Tryz.prog 156 = none := by kernel_rfl
theorem tf526 : are Tryz.prog 156 = none := by kernel_rfl
theorem tf527 : zc Tryz.prog 156 = some [(.int .u32 0)] := by kernel_rfl
theorem tf528 : mpt Tryz.prog 156 = none := by kernel_rfl
theorem tf529 : lsz Tryz.prog 157 = some (true, 65) := by kernel_rfl
theorem tf530 : knownT Tryz.prog 157 = true := by kernel_rfl
theorem tf531 : isStrT Tryz.prog 157 = false := by kernel_rfl
theorem tf532 : isBoolT Tryz.prog 157 = false := by kernel_rfl
theorem tf533 : isIfaceT Tryz.prog 157 = false := by kernel_rfl
theorem tf534 : ink Tryz.prog 157 = none := by kernel_rfl
theorem tf535 : sle Tryz.prog 157 = none := by kernel_rfl
theorem tf536 : are Tryz.prog 157 = some (65, false, 1) := by kernel_rfl
theorem tf537 : zc Tryz.prog 157 = some [(.int .u8 0), (.int .u8 0), (.int .u8 0), (.int .u8 0), (.int .u8 0), (.int .u8 0), (.int .u8 0), (.int .u8 0), (.int .u8 0), (.int .u8 0), (.int .u8 0), (.int .u8 0), (.int .u8 0), (.int .u8 0), (.int .u8 0), (.int .u8 0), (.int .u8 0), (.int .u8 0), (.int .u8 0), (.int .u8 0), (.int .u8 0), (.int .u8 0), (.int .u8 0), (.int .u8 0), (.int .u8 0), (.int .u8 0), (.int .u8 0), (.int .u8 0), (.int .u8 0), (.int .u8 0), (.int .u8 0), (.int .u8 0), (.int .u8 0), (.int .u8 0), (.int .u8 0), (.int .u8 0), (.int .u8 0), (.int .u8 0), (.int .u8 0), (.int .u8 0), (.int .u8 0), (.int .u8 0), (.int .u8 0), (.int .u8 0), (.int .u8 0), (.int .u8 0), (.int .u8 0), (.int .u8 0), (.int .u8 0), (.int .u8 0), (.int .u8 0), (.int .u8 0), (.int .u8 0), (.int .u8 0), (.int .u8 0), (.int .u8 0), (.int .u8 0), (.int .u8 0), (.int .u8 0), (.int .u8 0), (.int .u8 0), (.int .u8 0), (.int .u8 0), (.int .u8 0), (.int .u8 0)] := by kernel_rfl
theorem tf538 : mpt Tryz.prog 157 = none := by kernel_rfl
theorem tf539 : steq Tryz.prog 157 = some (List.replicate 65 5) := by kernel_rfl
theorem tf540 : zp Tryz.prog 157 = some ([(.int .u8 0), (.int .u8 0), (.int .u8 0), (.int .u8 0), (.int .u8 0), (.int .u8 0), (.int .u8 0), (.int .u8 0), (.int .u8 0), (.int .u8 0), (.int .u8 0), (.int .u8 0), (.int .u8 0), (.int .u8 0), (.int .u8 0), (.int .u8 0), (.int .u8 0), (.int .u8 0), (.int .u8 0), (.int .u8 0), (.int .u8 0), (.int .u8 0), (.int .u8 0), (.int .u8 0), (.int .u8 0), (.int .u8 0), (.int .u8 0), (.int .u8 0), (.int .u8 0), (.int .u8 0), (.int .u8 0), (.int .u8 0), (.int .u8 0), (.int .u8 0), (.int .u8 0), (.int .u8 0), (.int .u8 0), (.int .u8 0), (.int .u8 0), (.int .u8 0), (.int .u8 0), (.int .u8 0), (.int .u8 0), (.int .u8 0), (.int .u8 0), (.int .u8 0), (.int .u8 0), (.int .u8 0), (.int .u8 0), (.int .u8 0), (.int .u8 0), (.int .u8 0), (.int .u8 0), (.int .u8 0), (.int .u8 0), (.int .u8 0), (.int .u8 0), (.int .u8 0), (.int .u8 0), (.int .u8 0), (.int .u8 0), (.int .u8 0), (.int .u8 0), (.int .u8 0), (.int .u8 0)], [(0, 1), (1, 1), (2, 1), (3, 1), (4, 1), (5, 1), (6, 1), (7, 1), (8, 1), (9, 1), (10, 1), (11, 1), (12, 1), (13, 1), (14, 1), (15, 1), (16, 1), (17, 1), (18, 1), (19, 1), (20, 1), (21, 1), (22, 1), (23, 1), (24, 1), (25, 1), (26, 1), (27, 1), (28, 1), (29, 1), (30, 1), (31, 1), (32, 1), (33, 1), (34, 1), (35, 1), (36, 1), (37, 1), (38, 1), (39, 1), (40, 1), (41, 1), (42, 1), (43, 1), (44, 1), (45, 1), (46, 1), (47, 1), (48, 1), (49, 1), (50, 1), (51, 1), (52, 1), (53, 1), (54, 1), (55, 1), (56, 1), (57, 1), (58, 1), (59, 1), (60, 1), (61, 1), (62, 1), (63, 1), (64, 1)]) := by kernel_rfl
theorem tf541 : lsz Tryz.prog 162 = some (false, 1) := by kernel_rfl
theorem tf542 : knownT Tryz.prog 162 = true := by kernel_rfl
theorem tf543 : isStrT Tryz.prog 162 = false := by kernel_rfl
theorem tf544 : isBoolT Tryz.prog 162 = false := by kernel_rfl
theorem tf545 : isIfaceT Tryz.prog 162 = false := by kernel_rfl
theorem tf546 : ink Tryz.prog 162 = none := by kernel_rfl
theorem tf547 : sle Tryz.prog 162 = none := by kernel_rfl
theorem tf548 : are Tryz.prog 162 = none := by kernel_rfl
theorem tf549 : zc Tryz.prog 162 = some [(.v (.pointer none))] := by kernel_rfl
theorem tf550 : mpt Tryz.prog 162 = none := by kernel_rfl
theorem tf551 : lsz Tryz.prog 164 = some (true, 1) := by kernel_rfl
theorem tf552 : knownT Tryz.prog 164 = true := by kernel_rfl
theorem tf553 : isStrT Tryz.prog 164 = false := by kernel_rfl
theorem tf554 : isBoolT Tryz.prog 164 = false := by kernel_rfl
theorem tf555 : isIfaceT Tryz.prog 164 = false := by kernel_rfl
theorem tf556 : ink Tryz.prog 164 = none := by kernel_rfl
theorem tf557 : sle Tryz.prog 164 = none := by kernel_rfl
theorem tf558 : are Tryz.prog 164 = none := by kernel_rfl
theorem tf559 : zc Tryz.prog 164 = some [(.str [])] := by kernel_rfl
theorem tf560 : fld Tryz.prog 164 0 = some (0, false, 1) := by kernel_rfl
theorem tf561 : zp Tryz.prog 164 = some ([(.str [])], [(0, 1)]) := by kernel_rfl
theorem tf562 : mpt Tryz.prog 164 = none := by kernel_rfl
theorem tf563 : steq Tryz.prog 164 = some [9] := by kernel_rfl
theorem tf564 : lsz Tryz.prog 166 = some (true, 32) := by kernel_rfl
theorem tf565 : knownT Tryz.prog 166 = true := by kernel_rfl
theorem tf566 : isStrT Tryz.prog 166 = false := by kernel_rfl
theorem tf567 : isBoolT Tryz.prog 166 = false := by kernel_rfl
theorem tf568 : isIfaceT Tryz.prog 166 = false := by kernel_rfl
theorem tf569 : ink Tryz.prog 166 = none := by kernel_rfl
theorem tf570 : sle Tryz.prog 166 = none := by kernel_rfl
theorem tf571 : are Tryz.prog 166 = some (32, false, 1) := by kernel_rfl
theorem tf572 : zc Tryz.prog 166 = some [(.int .u8 0), (.int .u8 0), (.int .u8 0), (.int .u8 0), (.int .u8 0), (.int .u8 0), (.int .u8 0), (.int .u8 0), (.int .u8 0), (.int .u8 0), (.int .u8 0), (.int .u8 0), (.int .u8 0), (.int .u8 0), (.int .u8 0), (.int .u8 0), (.int .u8 0), (.int .u8 0), (.int .u8 0), (.int .u8 0), (.int .u8 0), (.int .u8 0), (.int .u8 0), (.int .u8 0), (.int .u8 0), (.int .u8 0), (.int .u8 0), (.int .u8 0), (.int .u8 0), (.int .u8 0), (.int .u8 0), (.int .u8 0)] := by kernel_rfl
theorem tf573 : mpt Tryz.prog 166 = none := by kernel_rfl
theorem tf574 : steq Tryz.prog 166 = some (List.replicate 32 5) := by kernel_rfl
theorem tf575 : zp Tryz.prog 166 = some ([(.int .u8 0), (.int .u8 0), (.int .u8 0), (.int .u8 0), (.int .u8 0), (.int .u8 0), (.int .u8 0), (.int .u8 0), (.int .u8 0), (.int .u8 0), (.int .u8 0), (.int .u8 0), (.int .u8 0), (.int .u8 0), (.int .u8 0), (.int .u8 0), (.int .u8 0), (.int .u8 0), (.int .u8 0), (.int .u8 0), (.int .u8 0), (.int .u8 0), (.int .u8 0), (.int .u8 0), (.int .u8 0), (.int .u8 0), (.int .u8 0), (.int .u8 0), (.int .u8 0), (.int .u8 0), (.int .u8 0), (.int .u8 0)], [(0, 1), (1, 1), (2, 1), (3, 1), (4, 1), (5, 1), (6, 1), (7, 1), (8, 1), (9, 1), (10, 1), (11, 1), (12, 1), (13, 1), (14, 1), (15, 1), (16, 1), (17, 1), (18, 1), (19, 1), (20, 1), (21, 1), (22, 1), (23, 1), (24, 1), (25, 1), (26, 1), (27, 1), (28, 1), (29, 1), (30, 1), (31, 1)]) := by kernel_rfl
theorem tf576 : lsz Tryz.prog 167 = some (true, 64) := by kernel_rfl
theorem tf577 : knownT Tryz.prog 167 = true := by kernel_rfl
theorem tf578 : isStrT Tryz.prog 167 = false := by kernel_rfl
theorem tf579 : isBoolT Tryz.prog 167 = false := by kernel_rfl
theorem tf580 : isIfaceT Tryz.prog 167 = false := by kernel_rfl
theorem tf581 : ink Tryz.prog 167 = none := by kernel_rfl
theorem tf582 : sle Tryz.prog 167 = none := by kernel_rfl
theorem tf583 : are Tryz.prog 167 = some (64, false, 1) := by kernel_rfl
theorem tf584 : zc Tryz.prog 167 = some [(.int .u8 0), (.int .u8 0), (.int .u8 0), (.int .u8 0), (.int .u8 0), (.int .u8 0), (.int .u8 0), (.int .u8 0), (.int .u8 0), (.int .u8 0), (.int .u8 0), (.int .u8 0), (.int .u8 0), (.int .u8 0), (.int .u8 0), (.int .u8 0), (.int .u8 0), (.int .u8 0), (.int .u8 0), (.int .u8 0), (.int .u8 0), (.int .u8 0), (.int .u8 0), (.int .u8 0), (.int .u8 0), (.int .u8 0), (.int .u8 0), (.int .u8 0), (.int .u8 0), (.int .u8 0), (.int .u8 0), (.int .u8 0), (.int .u8 0), (.int .u8 0), (.int .u8 0), (.int .u8 0), (.int .u8 0), (.int .u8 0), (.int .u8 0), (.int .u8 0), (.int .u8 0), (.int .u8 0), (.int .u8 0), (.int .u8 0), (.int .u8 0), (.int .u8 0), (.int .u8 0), (.int .u8 0), (.int .u8 0), (.int .u8 0), (.int .u8 0), (.int .u8 0), (.int .u8 0), (.int .u8 0), (.int .u8 0), (.int .u8 0), (.int .u8 0), (.int .u8 0), (.int .u8 0), (.int .u8 0), (.int .u8 0), (.int .u8 0), (.int .u8 0), (.int .u8 0)] := by kernel_rfl
theorem tf585 : mpt Tryz.prog 167 = none := by kernel_rfl
theorem tf586 : steq Tryz.prog 167 = some (List.replicate 64 5) := by kernel_rfl
theorem tf587 : zp Tryz.prog 167 = some ([(.int .u8 0), (.int .u8 0), (.int .u8 0), (.int .u8 0), (.int .u8 0), (.int .u8 0), (.int .u8 0), (.int .u8 0), (.int .u8 0), (.int .u8 0), (.int .u8 0), (.int .u8 0), (.int .u8 0), (.int .u8 0), (.int .u8 0), (.int .u8 0), (.int .u8 0), (.int .u8 0), (.int .u8 0), (.int .u8 0), (.int .u8 0), (.int .u8 0), (.int .u8 0), (.int .u8 0), (.int .u8 0), (.int .u8 0), (.int .u8 0), (.int .u8 0), (.int .u8 0), (.int .u8 0), (.int .u8 0), (.int .u8 0), (.int .u8 0), (.int .u8 0), (.int .u8 0), (.int .u8 0), (.int .u8 0), (.int .u8 0), (.int .u8 0), (.int .u8 0), (.int .u8 0), (.int .u8 0), (.int .u8 0), (.int .u8 0), (.int .u8 0), (.int .u8 0), (.int .u8 0), (.int .u8 0), (.int .u8 0), (.int .u8 0), (.int .u8 0), (.int .u8 0), (.int .u8 0), (.int .u8 0), (.int .u8 0), (.int .u8 0), (.int .u8 0), (.int .u8 0), (.int .u8 0), (.int .u8 0), (.int .u8 0), (.int .u8 0), (.int .u8 0), (.int .u8 0)], [(0, 1), (1, 1), (2, 1), (3, 1), (4, 1), (5, 1), (6, 1), (7, 1), (8, 1), (9, 1), (10, 1), (11, 1), (12, 1), (13, 1), (14, 1), (15, 1), (16, 1), (17, 1), (18, 1), (19, 1), (20, 1), (21, 1), (22, 1), (23, 1), (24, 1), (25, 1), (26, 1), (27, 1), (28, 1), (29, 1), (30, 1), (31, 1), (32, 1), (33, 1), (34, 1), (35, 1), (36, 1), (37, 1), (38, 1), (39, 1), (40, 1), (41, 1), (42, 1), (43, 1), (44, 1), (45, 1), (46, 1), (47, 1), (48, 1), (49, 1), (50, 1), (51, 1), (52, 1), (53, 1), (54, 1), (55, 1), (56, 1), (57, 1), (58, 1), (59, 1), (60, 1), (61, 1), (62, 1), (63, 1)]) := by kernel_rfl
set_option maxRecDepth 100000
attribute [go_sem ↓] vo_nil vK_eq vo_q vo_g vo_n vo_c vd_nil dK_eq eK_eq vd_q vd_g vd_n vd_ap vd_cp vd_cps vd_st vd_c wcs cgs_call cgs_builtin
attribute [go_sem] Ext_refl Ext_cons
attribute [go_sem] quiet_move quiet_assign quiet_pick quiet_binOp quiet_unOp quiet_convert quiet_field quiet_fieldAddr quiet_indexAddr quiet_index quiet_load quiet_lookup quiet_extract quiet_build quiet_makeInterface quiet_makeFunc quiet_slice quiet_nilCheck quiet_sap quiet_alloc isCall_alloc quiet_box isCall_box quiet_buildSlice isCall_buildSlice quiet_store isCall_store quiet_range isCall_range quiet_next isCall_next quiet_makeSlice isCall_makeSlice quiet_panic isCall_panic quiet_len quiet_cap quiet_min quiet_max quiet_append isCall_append quiet_copy isCall_copy quiet_delete isCall_delete nqk_alloc nqk_box nqk_buildSlice nqk_range nqk_next nqk_makeSlice nqk_panic nqk_makeMap nqk_entry nqk_delete isSt_alloc isSt_box isSt_buildSlice isSt_range isSt_next isSt_makeSlice isSt_panic isSt_makeMap isSt_entry isSt_store isSt_mapUpdate isSt_insert isSt_append isSt_copy isSt_delete quiet_makeMap isCall_makeMap quiet_mapUpdate isCall_mapUpdate quiet_insert isCall_insert
attribute [go_sem] argEnv qev opd put_some put_none set_at mk_cons mk_nil prune_eq D.ofV ofC_int ofC_nil ofC_str ofC_nilmap ofC_nilfunc ofC_nilptr true_and ofC_bool bop isSh ibop Bool.false_eq_true if_false if_true and_self D.core D.cg qpick isB bof gval look Option.bind_some opc cgs Op.operands List.all_cons List.all_nil Bool.and_true and_true true_imp_iff imp_self false_imp_iff beq_true beq_false beq_iff_eq decide_eq_true_eq List.map_cons List.map_nil Bool.not_eq_true' decide_eq_false_iff_not gof gq gev cond_some Option.isSome_some Bool.or_eq_true Bool.and_eq_true Bool.or_eq_false_iff Bool.and_eq_false_iff Bool.not_eq_true Bool.not_eq_false Bool.not_eq_false' ne_eq implies_true forall_const Bool.cond_true_left Bool.cond_false_right not_false_eq_true not_true_eq_false Int.toNat_natCast Int.toNat_zero
attribute [go_sem] qbuiltin qlook ments foldI mget mput keqD keyOK lookD_s lookD_n lookD_fs lookD_fn nput agop deqF deq1 nappZ cond_true cond_false Option.getD_some Option.getD_none Option.isSome_none ite_self qindex qslice qsap qconv qextract qfield qfaddr qiaddr qload quop qiface qbuild qnil ldC ldD ob List.drop_succ_cons take_mapr drop_mapr List.drop_zero List.take_succ_cons List.take_zero List.length_cons List.length_nil List.getElem?_cons_zero List.getElem?_cons_succ Option.map_some Option.map_none List.head?_cons
attribute [go_sem] nev isImm List.contains_cons List.contains_nil Bool.or_false Bool.or_true D.flat D.cellsOf D.isCell Bool.or_self Bool.and_self szOf nstore Store.get Store.upd putCells nk_cons not_or FZ frzE_mk frzL inL frz Store.del or_false boxCells List.headD_cons List.headD_nil List.nil_append List.append_nil List.cons_append List.drop_nil false_and and_false false_or true_or or_true Bool.false_and Bool.true_and Bool.false_or Bool.true_or Bool.and_false setPs lim_eq chunk zrep pls_eq plsF fillD resAll shop sbop bbop decide_true decide_false Bool.not_true Bool.not_false eq_self
attribute [go_sem] tf0 tf1 tf2 tf3 tf4 tf5 tf6 tf7 tf8 tf9 tf10 tf11 tf12 tf13 tf14 tf15 tf16 tf17 tf18 tf19 tf20 tf21 tf22 tf23 tf24 tf25 tf26 tf27 tf28 tf29 tf30 tf31 tf32 tf33 tf34 tf35 tf36 tf37 tf38 tf39 tf40 tf41 tf42 tf43 tf44 tf45 tf46 tf47 tf48 tf49 tf50 tf51 tf52 tf53 tf54 tf55 tf56 tf57 tf58 tf59 tf60 tf61 tf62 tf63 tf64 tf65 tf66 tf67 tf68 tf69 tf70 tf71 tf72 tf73 tf74 tf75 tf76 tf77 tf78 tf79 tf80 tf81 tf82 tf83 tf84 tf85 tf86 tf87 tf88 tf89 tf90 tf91 tf92 tf93 tf94 tf95 tf96 tf97 tf98 tf99 tf100 tf101 tf102 tf103 tf104 tf105 tf106 tf107 tf108 tf109 tf110 tf111 tf112 tf113 tf114 tf115 tf116 tf117 tf118 tf119 tf120 tf121 tf122 tf123 tf124 tf125 tf126 tf127 tf128 tf129 tf130 tf131 tf132 tf133 tf134 tf135 tf136 tf137 tf138 tf139 tf140 tf141 tf142 tf143 tf144 tf145 tf146 tf147 tf148 tf149 tf150 tf151 tf152 tf153 tf154 tf155 tf156 tf157 tf158 tf159 tf160 tf161 tf162 tf163 tf164 tf165 tf166 tf167 tf168 tf169 tf170 tf171 tf172 tf173 tf174 tf175 tf176 tf177 tf178 tf179 tf180 tf181 tf182 tf183 tf184 tf185 tf186 tf187 tf188 tf189 tf190 tf191 tf192 tf193 tf194 tf195 tf196 tf197 tf198 tf199 tf200 tf201 tf202 tf203 tf204 tf205 tf206 tf207 tf208 tf209 tf210 tf211 tf212 tf213 tf214 tf215 tf216 tf217 tf218 tf219 tf220 tf221 tf222 tf223 tf224 tf225 tf226 tf227 tf228 tf229 tf230 tf231 tf232 tf233 tf234 tf235 tf236 tf237 tf238 tf239 tf240 tf241 tf242 tf243 tf244 tf245 tf246 tf247 tf248 tf249 tf250 tf251 tf252 tf253 tf254 tf255 tf256 tf257 tf258 tf259 tf260 tf261 tf262 tf263 tf264 tf265 tf266 tf267 tf268 tf269 tf270 tf271 tf272 tf273 tf274 tf275 tf276 tf277 tf278 tf279 tf280 tf281 tf282 tf283 tf284 tf285 tf286 tf287 tf288 tf289 tf290 tf291 tf292 tf293 tf294 tf295 tf296 tf297 tf298 tf299 tf300 tf301 tf302 tf303 tf304 tf305 tf306 tf307 tf308 tf309 tf310 tf311 tf312 tf313 tf314 tf315 tf316 tf317 tf318 tf319 tf320 tf321 tf322 tf323 tf324 tf325 tf326 tf327 tf328 tf329 tf330 tf331 tf332 tf333 tf334 tf335 tf336 tf337 tf338 tf339 tf340 tf341 tf342 tf343 tf344 tf345 tf346 tf347 tf348 tf349 tf350 tf351 tf352 tf353 tf354 tf355 tf356 tf357 tf358 tf359 tf360 tf361 tf362 tf363 tf364 tf365 tf366 tf367 tf368 tf369 tf370 tf371 tf372 tf373 tf374 tf375 tf376 tf377 tf378 tf379 tf380 tf381 tf382 tf383 tf384 tf385 tf386 tf387 tf388 tf389 tf390 tf391 tf392 tf393 tf394 tf395 tf396 tf397 tf398 tf399 tf400 tf401 tf402 tf403 tf404 tf405 tf406 tf407 tf408 tf409 tf410 tf411 tf412 tf413 tf414 tf415 tf416 tf417 tf418 tf419 tf420 tf421 tf422 tf423 tf424 tf425 tf426 tf427 tf428 tf429 tf430 tf431 tf432 tf433 tf434 tf435 tf436 tf437 tf438 tf439 tf440 tf441 tf442 tf443 tf444 tf445 tf446 tf447 tf448 tf449 tf450 tf451 tf452 tf453 tf454 tf455 tf456 tf457 tf458 tf459 tf460 tf461 tf462 tf463 tf464 tf465 tf466 tf467 tf468 tf469 tf470 tf471 tf472 tf473 tf474 tf475 tf476 tf477 tf478 tf479 tf480 tf481 tf482 tf483 tf484 tf485 tf486 tf487 tf488 tf489 tf490 tf491 tf492 tf493 tf494 tf495 tf496 tf497 tf498 tf499 tf500 tf501 tf502 tf503 tf504 tf505 tf506 tf507 tf508 tf509 tf510 tf511 tf512 tf513 tf514 tf515 tf516 tf517 tf518 tf519 tf520 tf521 tf522 tf523 tf524 tf525 tf526 tf527 tf528 tf529 tf530 tf531 tf532 tf533 tf534 tf535 tf536 tf537 tf538 tf539 tf540 tf541 tf542 tf543 tf544 tf545 tf546 tf547 tf548 tf549 tf550 tf551 tf552 tf553 tf554 tf555 tf556 tf557 tf558 tf559 tf560 tf561 tf562 tf563 tf564 tf565 tf566 tf567 tf568 tf569 tf570 tf571 tf572 tf573 tf574 tf575 tf576 tf577 tf578 tf579 tf580 tf581 tf582 tf583 tf584 tf585 tf586 tf587
attribute [go_sem] Nat.reduceMul Nat.reduceAdd Nat.reduceBEq cond_false
end Go.Proofs.YtfjnohmdilmfhaaGreatDoor
