/- Own layer, part 24: regions where two orders matter; stores whose boxes are listed otherwise. -/
import Derived.Test.YtjjkgeeafjagkaaGreatVc
import Derived.Maps.RangeRun
import Derived.SizedLaws
namespace Go.Proofs.YtjjkgeeafjagkaaGreat
open Go Go.RowKit
set_option linter.unusedSimpArgs false
set_option linter.unusedVariables false

section
variable {P : Program} {M : Mem} {w : World} {σ : Store} {r : Option Nat} {nt : Nat} {ops : Array Oper} {imm : List Nat} {soft : List Nat} {gt : List (Nat × Nat)}

/-- The store may list its boxes otherwise. -/
theorem weakP {c : Code} {env : Env} (E : Env) {σ' : Store} {Q : AE → Env → Store → Prop} (hle : EnvLe E env) (hp : σ.Perm σ') (h : AWp P r nt c E σ' Q) : AWp P r nt c env σ Q := by
  intro M w a B hc he hd
  have hk : σ.keys.Perm σ'.keys := hp.map Prod.fst
  have hd' : DefOK B σ' w a.defers := by obtain ⟨hB, Ds, e, hn, hh⟩ := hd; exact ⟨hB, Ds, e, hn, fun D hD => ⟨(hh D hD).1, (hh D hD).2.1, fun hk' => (hh D hD).2.2 (hk.mem_iff.2 hk')⟩⟩
  exact wpIn_mono (h M w a B (hc.perm hp) (hle.R he) hd') (rgPost.trans ((Step.refl M w σ).perm (.refl _) hp))

/-- A call, the store's boxes listed otherwise. -/
theorem ACall.perm {f : Fn} {args : List D} {Q : Res → Store → Prop} {σ' : Store} (hp : σ.Perm σ') (h : ACall P f args σ' fun r τ' => ∃ τ, τ'.Perm τ ∧ Q r τ) : ACall P f args σ Q := by
  intro M w vs hc hr
  refine (h M w vs (hc.perm hp) hr).mono ?_
  rintro e w' ⟨M', σ1, r, s1, c1, r1, τ, hp', hq⟩
  exact ⟨M', τ, r, Step.perm hp hp' s1, c1.perm hp', r1, hq⟩
theorem RCall.perm {f : Fn} {args : List D} {α : Type} {F : α → D} {S : α → Store} {ok : α → Prop} {σ' : Store} {S' : α → Store} (h : RCall P f args σ' F S' ok) (hp : σ.Perm σ') (hp' : ∀ y, (S' y).Perm (S y)) : RCall P f args σ F S ok :=
  ACall.perm hp (ACall.mono h fun r τ' ⟨y, hy, h1, h2⟩ => ⟨S y, h2 ▸ hp' y, y, hy, h1, rfl⟩)
theorem ACall.nodupQ {f : Fn} {args : List D} {Q : Res → Store → Prop} (h : ACall P f args σ Q) : ACall P f args σ fun r τ => Q r τ ∧ τ.keys.Nodup := by
  intro M w vs hc hr
  refine (h M w vs hc hr).mono ?_
  rintro e w' ⟨M', σ1, r, s1, c1, r1, hq⟩
  exact ⟨M', σ1, r, s1, c1, r1, hq, c1.nodup⟩
theorem RCall.nodup {f : Fn} {args : List D} {α : Type} {F : α → D} {S : α → Store} {ok : α → Prop} (h : RCall P f args σ F S ok) : RCall P f args σ F S fun y => ok y ∧ (S y).keys.Nodup :=
  ACall.mono (ACall.nodupQ h) fun r τ ⟨⟨y, h1, h2, h3⟩, h4⟩ => ⟨y, ⟨h1, h3 ▸ h4⟩, h2, h3⟩
theorem callY {y : Fn} {xs : List D} {K X : D → Store → Prop} {Jt Jf : Store → Prop} (h : ACall P y xs σ fun r τ' => (r = .ret (.bool true) ∧ Jt τ') ∨ (r = .ret (.bool false) ∧ Jf τ'))
    (hk : ∀ bb τ', (bb = true → Jt τ') → (bb = false → Jf τ') → K (.bool bb) τ') : CallK P (.fn y [] []) xs K X σ := by
  unfold CallK
  refine ⟨fun _ => rfl, .inr ?_⟩
  rw [List.nil_append, List.append_nil]
  refine h.mono ?_
  rintro r σ' (⟨rfl, hj⟩ | ⟨rfl, hj⟩)
  · exact hk true σ' (fun _ => hj) (fun e => by cases e)
  · exact hk false σ' (fun e => by cases e) (fun _ => hj)
theorem nodupW {c : Code} {env : Env} {Q : AE → Env → Store → Prop} (h : σ.keys.Nodup → AWp P r nt c env σ Q) : AWp P r nt c env σ Q :=
  known fun ⟨_, _, _, hc, _⟩ => h hc.nodup
/-- A guard that is known. -/
theorem vo_gt {κ : Env → Store → Prop} {X : D → Store → Prop} {dst : Option Nat} {op : Op} {T : TypeId} {pos : String} {aft : Array Edge} {os : List Oper} {env : Env} {j : Nat} {want : Bool} (hq : quiet op = false) (hg : gq gt env j want = some true) (hs : cgs env op = true)
    (h : nev P (isImm imm dst) σ (opc env) (vK P imm gt κ X os env dst) X op) : vops P imm gt κ X (⟨dst, op, T, pos, aft, some (j, want)⟩ :: os) env σ := by
  show vop P imm gt _ env σ _ X
  unfold vop
  simp only [hq, cond_false, nv]
  unfold gq at hg
  simp only [hg]
  exact .inr ⟨fun _ => ⟨hs, h⟩, fun e => by cases e⟩
theorem vo_gf {κ : Env → Store → Prop} {X : D → Store → Prop} {dst : Option Nat} {op : Op} {T : TypeId} {pos : String} {aft : Array Edge} {os : List Oper} {env : Env} {j : Nat} {want : Bool} (hq : quiet op = false) (hg : gq gt env j want = some false)
    (h : vK P imm gt κ X os env dst (.v undef) σ) : vops P imm gt κ X (⟨dst, op, T, pos, aft, some (j, want)⟩ :: os) env σ := by
  show vop P imm gt _ env σ _ X
  unfold vop
  simp only [hq, cond_false, nv]
  unfold gq at hg
  simp only [hg]
  exact .inr ⟨(fun e => by cases e), fun _ => h⟩
/-- Different boxes of a store. -/
theorem ACall.nodup {f : Fn} {args : List D} {Q : Res → Store → Prop} (h : σ.keys.Nodup → ACall P f args σ Q) : ACall P f args σ Q :=
  fun M w vs hc hr => h hc.nodup M w vs hc hr

/-- Ways that meet again, the store listed in some order. -/
theorem jnp {α : Type} (E : α → Env) (S : α → Store) (ok : α → Prop) {x y : Code} {env : Env} {Q : AE → Env → Store → Prop}
    (h1 : AWp P r nt x env σ (thenQ (fun env' σ' => ∃ z, ok z ∧ EnvLe (E z) env' ∧ σ'.Perm (S z)) Q)) (h2 : ∀ z, ok z → AWp P r nt y (E z) (S z) Q) : AWp P r nt (.seq x y) env σ Q := by
  refine sq (h1.mono fun e env' σ' h => ?_)
  cases e with
  | normal =>
    obtain ⟨z, hz, le, hp⟩ := h
    exact weakP (E z) le hp (h2 z hz)
  | _ => exact h

def chkF (soft : List Nat) (ops : Array Oper) (F : Array Bool → Bool) : List Nat → Array Bool → Bool
  | [], listed => F listed
  | i :: is, listed => (Region.ready .any ops listed).contains i && (match ops[i]? with
      | some o => ((quiet o.op || softC soft o) && Region.free .any ops listed i) || Region.ready .any ops listed == [i]
      | none => false) && chkF soft ops F is (listed.setIfInBounds i true)

/-- Orders: where two operations stand ready, both ways. -/
inductive Tr
  | fin
  | br (i : Nat) (pi : List Nat) (ti : Tr) (k : Nat) (pk : List Nat) (tk : Tr)
def Tr.size : Tr → Nat
  | .fin => 0
  | .br _ pi ti _ _ _ => pi.length + ti.size + 1
def chkTr (soft : List Nat) (ops : Array Oper) : Tr → Array Bool → Bool
  | .fin, l => (Region.ready .any ops l).isEmpty
  | .br i pi ti k pk tk, l => Region.ready .any ops l == [i, k] && pi.length + ti.size == pk.length + tk.size && chkF soft ops (chkTr soft ops ti) pi (l.setIfInBounds i true) && chkF soft ops (chkTr soft ops tk) pk (l.setIfInBounds k true)
def non (l : List Nat) : List (Nat × Option Store) := l.map fun i => (i, none)
def SET (P : Program) (imm soft : List Nat) (gt : List (Nat × Nat)) (ops : Array Oper) (κ : Env → Store → Prop) (X : D → Store → Prop) : Tr → Env → Store → Prop
  | .fin, env, σ => κ env σ
  | .br i pi ti k pk tk, env, σ => SE P imm soft gt ops (SET P imm soft gt ops κ X ti) X (non (i :: pi)) env σ ∧ SE P imm soft gt ops (SET P imm soft gt ops κ X tk) X (non (k :: pk)) env σ

theorem napp_growN {ts : Array TypeId} {T U V : TypeId} {g : Bool} {sz by_ : Nat} {z : List D} {rows new : List (List D)} {o : Option (Nat × Nat)} {ρ : Store} {tk : Tok} {n : Nat} {K : D → Store → Prop}
    (hok : apOK rows o) (hfr : apFr o ρ) (hn : rows.length = n) (hT : ts[0]? = some T) (hV : ts[1]? = some V) (hV' : (sle P V).isSome = true) (hs : sle P T = some (U, g, sz)) (hy : eby P T = some by_) (hz : zc P U = some z)
    (hside : (z.length = sz ∧ 0 < sz ∧ 0 < by_) ∧ new.all (·.all D.isCell) = true ∧ new ≠ [] ∧ (n + new.length) * by_ ≤ capB)
    (hK : ∀ b c, b ∉ ρ.keys → K (apD sz (rows ++ new) (some (b, c))) (apS sz (n + new.length) (some (b, c)) ++ ρ)) :
    napp P (apS sz n o ++ ρ) ts (apD sz rows o) (.sl sz new tk) K := by
  subst hn
  exact napp_grow hok hfr hT hV hV' hs hy hz hside hK

/-- Operations by their numbers. -/
inductive Pk (l : List Oper) : List Nat → List Oper → Prop
  | nil : Pk l [] []
  | cons {i : Nat} {is : List Nat} {o : Oper} {os : List Oper} : l[i]? = some o → Pk l is os → Pk l (i :: is) (o :: os)
theorem Pk.map {l : List Oper} {is : List Nat} {os : List Oper} (h : Pk l is os) : is.map (fun i => l.toArray[i]?) = os.map some := by
  induction h with
  | nil => rfl
  | cons h _ ih => rw [List.map_cons, List.map_cons, ih, List.getElem?_toArray, h]
theorem SET_fin {κ : Env → Store → Prop} {X : D → Store → Prop} {env : Env} (h : κ env σ) : SET P imm soft gt ops κ X .fin env σ := h
theorem SET_br {l : List Oper} {κ : Env → Store → Prop} {X : D → Store → Prop} {env : Env} {i k : Nat} {pi pk : List Nat} {ti tk : Tr} {oi ok : List Oper} (hi : Pk l (i :: pi) oi) (hk : Pk l (k :: pk) ok)
    (h1 : vdr P imm soft gt (SET P imm soft gt l.toArray κ X ti) X oi env σ) (h2 : vdr P imm soft gt (SET P imm soft gt l.toArray κ X tk) X ok env σ) : SET P imm soft gt l.toArray κ X (.br i pi ti k pk tk) env σ :=
  ⟨SE_of_vdr hi.map h1, SE_of_vdr hk.map h2⟩

theorem SE_append {κ : Env → Store → Prop} {X : D → Store → Prop} : ∀ (c d : List (Nat × Option Store)) (env : Env) (σ : Store), SE P imm soft gt ops κ X (c ++ d) env σ = SE P imm soft gt ops (fun env σ => SE P imm soft gt ops κ X d env σ) X c env σ
  | [], d, env, σ => rfl
  | (i, q) :: c, d, env, σ => by
    have ih := fun env σ => SE_append (κ := κ) (X := X) c d env σ
    simp only [List.cons_append, SE, ih]
theorem SE_mono {κ κ' : Env → Store → Prop} {X : D → Store → Prop} (hk : ∀ env σ, κ env σ → κ' env σ) : ∀ {c : List (Nat × Option Store)} {env : Env} {σ : Store}, SE P imm soft gt ops κ X c env σ → SE P imm soft gt ops κ' X c env σ
  | [], env, σ, h => hk _ _ h
  | (i, q) :: c, env, σ, h => by
    simp only [SE] at h ⊢
    split at h
    · rename_i o ho
      cases hs : softC soft o with
      | true =>
        simp only [hs, cond_true] at h ⊢
        obtain ⟨d, h1, h2⟩ := h
        exact ⟨d, h1, SE_mono hk h2⟩
      | false =>
        simp only [hs, cond_false] at h ⊢
        cases hq : quiet o.op with
        | true =>
          simp only [hq, cond_true] at h ⊢
          exact ⟨h.1, h.2.1, SE_mono hk h.2.2⟩
        | false =>
          simp only [hq, cond_false] at h ⊢
          exact nv_mono (fun d σ' hh => ⟨hh.1, SE_mono hk hh.2⟩) h
    · exact h.elim

theorem chkF_append (F : Array Bool → Bool) : ∀ (c d : List Nat) (l : Array Bool), chkF soft ops F (c ++ d) l = chkF soft ops (fun l => chkF soft ops F d l) c l
  | [], d, l => rfl
  | i :: c, d, l => by simp only [List.cons_append, chkF, chkF_append F c d]

theorem chkF_pull (hsto : stOK soft ops = true) {F G : Array Bool → Bool} {j : Nat} (hFG : ∀ l, F l = true → G (l.setIfInBounds j true) = true) : ∀ {ps : List Nat} {listed : Array Bool}, chkF soft ops F ps listed = true → j ∈ Region.ready .any ops listed → j ∉ ps →
    (∀ p ∈ ps, ∃ op oj, ops[p]? = some op ∧ ops[j]? = some oj ∧ (quiet op.op || softC soft op) = true ∧ op.apart ops oj = true ∧ (isW soft oj = false ∨ rdSt op.op = false)) ∧ chkF soft ops G ps (listed.setIfInBounds j true) = true
  | [], listed, h, _, _ => ⟨by simp, hFG _ h⟩
  | p :: ps, listed, h, hj, hn => by
    simp only [List.mem_cons, not_or] at hn
    simp only [chkF, Bool.and_eq_true] at h
    obtain ⟨⟨h1, h2⟩, h3⟩ := h
    obtain ⟨hju, oj, hoj, hall⟩ := mem_ready.1 hj
    split at h2
    · rename_i op hop
      have hpr : p ∈ Region.ready .any ops listed := by simpa using h1
      have hpu := (mem_ready.1 hpr).1
      have hqf : (quiet op.op || softC soft op) = true ∧ Region.free .any ops listed p = true := by
        rcases Bool.or_eq_true _ _ ▸ h2 with h2 | h2
        · rwa [Bool.and_eq_true] at h2
        · rw [beq_iff_eq] at h2
          rw [h2] at hj
          simp at hj
          exact absurd hj hn.1
      have hno : ∀ e ∈ oj.after, Region.binds .any e = true → e.on ≠ p := fun e he hb heq => by
        have := hall e he hb
        rw [heq] at this
        rcases Nat.lt_or_ge p listed.size with h' | h'
        · simp [h'] at this hpu; rw [hpu] at this; cases this
        · simp [Array.getElem?_eq_none h'] at this
      have hap : op.apart ops oj = true := Region.free_spec hop hqf.2 j oj hoj hn.1 hju hno
      have hso := stOK_at hsto hop hoj (fun e => hn.1 e.symm) hno
      obtain ⟨i1, i2⟩ := chkF_pull hsto hFG h3 (ready_mono hj hn.1) hn.2
      refine ⟨fun x hx => ?_, ?_⟩
      · rcases List.mem_cons.1 hx with rfl | hx
        · exact ⟨op, oj, hop, hoj, hqf.1, hap, hso⟩
        · exact i1 x hx
      · simp only [chkF, Bool.and_eq_true]
        refine ⟨⟨by simpa using ready_mono hpr (fun e => hn.1 e.symm), ?_⟩, ?_⟩
        · simp only [hop, hqf.1, free_mono hqf.2, Bool.true_and, Bool.true_or]
        · rw [Array.setIfInBounds_comm _ _ hn.1]; exact i2
    · cases h2

theorem ready_in_chkF {F : Array Bool → Bool} : ∀ {c : List Nat} {j : Nat} {listed : Array Bool}, chkF soft ops F c listed = true → j ∈ Region.ready .any ops listed → j ∉ c → ∃ l, F l = true ∧ j ∈ Region.ready .any ops l
  | [], j, listed, h, hj, _ => ⟨listed, h, hj⟩
  | i :: c, j, listed, h, hj, hn => by
    simp only [List.mem_cons, not_or] at hn
    simp only [chkF, Bool.and_eq_true] at h
    exact ready_in_chkF h.2 (ready_mono hj hn.1) hn.2

theorem any_tree (hgt : GT ops gt) {Q : AE → Env → Store → Prop} (keep : List Nat) {M0 : Mem} {w0 : World} {σ0 : Store} {a0 : Act} {B : Nat × List Deferred} (hok : ops.toList.all (okOp nt) = true) (hsto : stOK soft ops = true) : ∀ (n : Nat) (T : Tr) (c : List (Nat × Option Store)) (listed : Array Bool), c.length + T.size = n → chkF soft ops (chkTr soft ops T) (c.map Prod.fst) listed = true →
    ∀ (env : Env) (σ : Store) (M : Mem) (w : World) (a : Act),
    SE P imm soft gt ops (SET P imm soft gt ops (fun env σ => Q .normal (prune keep env) σ) (fun d σ => Q (.pan d) (fun _ => .top) σ) T) (fun d σ => Q (.pan d) (fun _ => .top) σ) c env σ →
    Conc M w σ → EnvR M nt env a → DefOK B σ0 w0 a0.defers → a.defers = a0.defers → Step M0 w0 σ0 M w σ → wpAnyIn (WF r) 0 P .any ops (rgPost M0 w0 σ0 nt B Q) n listed a w
  | 0, T, c, listed, hl, hck, env, σ, M, w, a, h, hc, he, hd, hda, hs => by
    have hnil : c = [] := List.eq_nil_of_length_eq_zero (by omega)
    subst hnil
    cases T with
    | br => simp only [Tr.size] at hl; omega
    | fin =>
      simp only [List.map_nil, chkF, chkTr, List.isEmpty_iff] at hck
      exact ⟨hck, M, _, σ, .normal, hs, hc, he.prune keep, hda ▸ hd.step hs, trivial, h⟩
  | n + 1, T, c, listed, hl, hck, env, σ, M, w, a, h, hc, he, hd, hda, hs => by
    refine ⟨fun h0 => ?_, fun j hj => ?_⟩
    · cases c with
      | nil =>
        cases T with
        | fin => simp [Tr.size] at hl
        | br i pi ti k pk tk =>
          simp only [List.map_nil, chkF, chkTr, h0, Bool.and_eq_true] at hck
          simp at hck
      | cons i c =>
        simp only [List.map_cons, chkF, Bool.and_eq_true, h0] at hck
        simp at hck
    · obtain ⟨cs1, qj, c3, T', p1, hck0, hse, hlen0⟩ : ∃ (cs1 : List (Nat × Option Store)) (qj : Option Store) (c3 : List (Nat × Option Store)) (T' : Tr),
          (∀ p ∈ cs1.map Prod.fst, ∃ op oj, ops[p]? = some op ∧ ops[j]? = some oj ∧ (quiet op.op || softC soft op) = true ∧ op.apart ops oj = true ∧ (isW soft oj = false ∨ rdSt op.op = false)) ∧
          chkF soft ops (chkTr soft ops T') (cs1.map Prod.fst ++ c3.map Prod.fst) (listed.setIfInBounds j true) = true ∧
          SE P imm soft gt ops (SET P imm soft gt ops (fun env σ => Q .normal (prune keep env) σ) (fun d σ => Q (.pan d) (fun _ => .top) σ) T') (fun d σ => Q (.pan d) (fun _ => .top) σ) (cs1 ++ (j, qj) :: c3) env σ ∧
          cs1.length + c3.length + T'.size = n := by
        by_cases hm : j ∈ c.map Prod.fst
        · obtain ⟨ps, rest, hsplit, hnot⟩ := List.eq_append_cons_of_mem hm
          obtain ⟨cs1, c2, rfl, hc1, hc2⟩ := List.map_eq_append_iff.1 hsplit
          cases c2 with
          | nil => simp at hc2
          | cons jq c3 =>
            obtain ⟨j', qj⟩ := jq
            simp only [List.map_cons, List.cons.injEq] at hc2
            obtain ⟨rfl, hc3⟩ := hc2
            rw [hsplit, chkF_append] at hck
            obtain ⟨p1, p2⟩ := chkF_pull (G := fun l => chkF soft ops (chkTr soft ops T) rest l) hsto (fun l hl => by simp only [chkF, Bool.and_eq_true] at hl; exact hl.2) hck hj hnot
            rw [← chkF_append] at p2
            refine ⟨cs1, qj, c3, T, hc1 ▸ p1, ?_, h, ?_⟩
            · rw [hc1, hc3]; exact p2
            · simp only [List.length_append, List.length_cons] at hl; omega
        · obtain ⟨l, hFl, hjl⟩ := ready_in_chkF hck hj hm
          cases T with
          | fin =>
            simp only [chkTr, List.isEmpty_iff] at hFl
            rw [hFl] at hjl; simp at hjl
          | br i pi ti k pk tk =>
            have hFl' := hFl
            simp only [chkTr, Bool.and_eq_true, beq_iff_eq] at hFl'
            obtain ⟨⟨⟨e1, e2⟩, -⟩, -⟩ := hFl'
            rw [e1] at hjl
            simp only [Tr.size] at hl
            have hnl : ∀ x : List Nat, (non x).map Prod.fst = x := fun x => by simp [non, Function.comp_def]
            simp only [List.mem_cons, List.not_mem_nil, or_false] at hjl
            rcases hjl with rfl | rfl
            · obtain ⟨p1, p2⟩ := chkF_pull (G := fun l => chkF soft ops (chkTr soft ops ti) pi l) hsto (fun l hl => by simp only [chkTr, Bool.and_eq_true] at hl; exact hl.1.2) hck hj hm
              rw [← chkF_append] at p2
              refine ⟨c, none, non pi, ti, p1, ?_, ?_, ?_⟩
              · rw [hnl]; exact p2
              · rw [SE_append]; exact SE_mono (fun env σ hh => hh.1) h
              · simp only [non, List.length_map]; omega
            · obtain ⟨p1, p2⟩ := chkF_pull (G := fun l => chkF soft ops (chkTr soft ops tk) pk l) hsto (fun l hl => by simp only [chkTr, Bool.and_eq_true] at hl; exact hl.2) hck hj hm
              rw [← chkF_append] at p2
              refine ⟨c, none, non pk, tk, p1, ?_, ?_, ?_⟩
              · rw [hnl]; exact p2
              · rw [SE_append]; exact SE_mono (fun env σ hh => hh.2) h
              · simp only [non, List.length_map]; omega
      obtain ⟨qj', ps', hps, hsv⟩ := SE_pull hgt p1 hse
      obtain ⟨_, oj, hoj, _⟩ := mem_ready.1 hj
      have hoko : okOp nt oj = true := by
        rw [List.all_eq_true] at hok
        exact hok oj (by simpa using Array.mem_of_getElem? hoj)
      have hlen : (ps' ++ c3).length + T'.size = n := by
        have : ps'.length = cs1.length := by have := congrArg List.length hps; simpa using this
        simp only [List.length_append] at hlen0 ⊢
        omega
      have hck' : chkF soft ops (chkTr soft ops T') ((ps' ++ c3).map Prod.fst) (listed.setIfInBounds j true) = true := by
        rw [List.map_append, hps]; exact hck0
      unfold wpOpIn
      simp only [hoj]
      simp only [List.cons_append, SE, hoj] at hsv
      cases hso : softC soft oj with
      | true =>
        simp only [hso, cond_true] at hsv
        obtain ⟨d, e1, e3⟩ := hsv
        refine soft_sound (r := r) (ops := ops) hgt hc he hoko e1 ?_
        intro M' w' a' s1 c1 e4 d1
        exact any_tree hgt keep hok hsto n T' (ps' ++ c3) _ hlen hck' _ σ M' w' a' e3 c1 e4 hd (d1.trans hda) (hs.trans s1)
      | false =>
      simp only [hso, cond_false] at hsv
      cases hq : quiet oj.op with
      | true =>
        simp only [hq, cond_true] at hsv
        obtain ⟨e1, e2, e3⟩ := hsv
        obtain ⟨v, r1, r2⟩ := quiet_sound (r := r) (ops := ops) hgt hc he hoko e1 e2
        refine r2 _ _ (any_tree hgt keep hok hsto n T' (ps' ++ c3) _ hlen hck' _ σ M w _ e3 hc (he.put (okOp_dst hoko) r1) hd ?_ hs)
        rw [← hda]; cases oj.dst <;> rfl
      | false =>
        simp only [hq, cond_false] at hsv
        refine vop_sound (imm := imm) (ops := ops) (r := r) hgt hc he hoko (κ := fun env' σ' => SE P imm soft gt ops (SET P imm soft gt ops (fun env σ => Q .normal (prune keep env) σ) (fun d σ => Q (.pan d) (fun _ => .top) σ) T') (fun d σ => Q (.pan d) (fun _ => .top) σ) (ps' ++ c3) env' σ') (X := fun d σ => Q (.pan d) (fun _ => .top) σ) ?_ ?_ ?_
        · unfold vop
          simp only [hq, cond_false]
          exact nv_mono (fun d σ' hh => hh.2) hsv
        · intro M' w' σ' env' a' s1 c1 e1 d1 k1
          exact any_tree hgt keep hok hsto n T' (ps' ++ c3) _ hlen hck' env' σ' M' w' a' k1 c1 e1 hd (d1.trans hda) (hs.trans s1)
        · intro M' w' σ' d v s1 c1 r1 x1
          exact ⟨M', fun _ => .top, σ', .pan d, hs.trans s1, c1, ⟨he.1, fun _ => by simp only [R]⟩, hda ▸ hd.step (hs.trans s1), ⟨v, rfl, r1⟩, x1⟩

def drT (nt : Nat) (soft : List Nat) (ops : Array Oper) (gt : List (Nat × Nat)) (perm : List Nat) (T : Tr) : Bool := rgOK nt ops gt && stOK soft ops && perm.length + T.size == ops.size && chkF soft ops (chkTr soft ops T) perm (Array.replicate ops.size false)

/-- A REGION WHERE TWO ORDERS MATTER. -/
theorem rgt (keep imm soft : List Nat) (gt : List (Nat × Nat)) (perm : List Nat) (T : Tr) {id : Nat} {l pl : List Oper} {env : Env} {σ : Store} {Q : AE → Env → Store → Prop} (hm : P.follows .mixedOrders = true) (hok : drT nt soft l.toArray gt perm T = true)
    (hpl : Pk l perm pl)
    (h : ∀ (κ : Env → Store → Prop) (ξ : D → Store → Prop), (∀ env σ, Q .normal env σ → κ env σ) → (∀ d σ, Q (.pan d) (fun _ => .top) σ → ξ d σ) →
      vdr P imm soft gt (SET P imm soft gt l.toArray (fun env σ => κ (prune keep env) σ) ξ T) ξ pl env σ) : AWp P r nt (.region id l.toArray true) env σ Q := by
  intro M w a B hc he hd
  unfold drT rgOK at hok
  simp only [Bool.and_eq_true, beq_iff_eq] at hok
  obtain ⟨⟨⟨⟨h1, h4⟩, h5⟩, h2⟩, h3⟩ := hok
  refine wpIn_region_any hm ?_
  have := any_tree (P := P) (r := r) (imm := imm) (soft := soft) (ops := l.toArray) (Q := Q) (GT.of h4) keep h1 h5 l.toArray.size T (perm.map fun i => (i, none)) (Array.replicate l.toArray.size false) (by simpa using h2) (by simpa [Function.comp_def] using h3)
    env σ M w.drew a (SE_of_vdr hpl.map (h (fun env σ => Q .normal env σ) (fun d σ => Q (.pan d) (fun _ => .top) σ) (fun _ _ h => h) (fun _ _ h => h))) hc.drew he (a0 := a) hd rfl (M0 := M) (w0 := w) (σ0 := σ) (Step.drew M w σ)
  exact this
end

end Go.Proofs.YtjjkgeeafjagkaaGreat
/- Own layer, part 27: rows that are lent to a call that only computes; loops up to the order of boxes; further appends. -/
namespace Go.Proofs.YtjjkgeeafjagkaaGreat
open Go Go.RowKit
set_option linter.unusedSimpArgs false
set_option linter.unusedVariables false

section
variable {P : Program} {M : Mem} {w : World} {σ : Store} {r : Option Nat} {nt : Nat}

/-- Data that names no place of memory. -/
def D.scal1 : D → Bool
  | .int .. | .bool _ | .str _ => true
  | _ => false
def D.scal : D → Bool
  | .tup ds => ds.all D.scal1
  | d => d.scal1
theorem scal1_R {M' : Mem} {d : D} {v : Value} (hs : d.scal1 = true) (h : R M d v) : R M' d v := by
  cases d <;> simp only [D.scal1, Bool.false_eq_true] at hs <;> simp only [R] at h ⊢ <;> exact h
theorem scalAll_R {M' : Mem} : ∀ {ds : List D} {vs : List Value}, ds.all D.scal1 = true → RAll M ds vs → RAll M' ds vs
  | [], [], _, _ => by simp only [RAll]
  | _ :: _, _ :: _, hs, h => by
    simp only [RAll, List.all_cons, Bool.and_eq_true] at h hs ⊢
    exact ⟨scal1_R hs.1 h.1, scalAll_R hs.2 h.2⟩
  | [], _ :: _, _, h => by simp [RAll] at h
  | _ :: _, [], _, h => by simp [RAll] at h
theorem scal_R {M' : Mem} {d : D} {v : Value} (hs : d.scal = true) (h : R M d v) : R M' d v := by
  cases d with
  | tup ds =>
    simp only [D.scal] at hs
    simp only [R] at h ⊢
    obtain ⟨vs, e, h1⟩ := h
    exact ⟨vs, e, scalAll_R hs h1⟩
  | _ => exact scal1_R (by simpa only [D.scal] using hs) h

theorem RAll_fra {M' : Mem} {b sz : Nat} {rows : List (List D)} (hle : Mem.le M M') (hb : RRows M' sz rows b 0) : ∀ {ds : List D} {vs : List Value}, RAll M ds vs → RAll M' (ds.map (fra b sz rows)) vs
  | [], [], _ => by simp [RAll]
  | _ :: _, _ :: _, h => by
    simp only [RAll, List.map_cons] at h ⊢
    exact ⟨R_fra hle hb h.1, RAll_fra hle hb h.2⟩
  | [], _ :: _, h => by simp [RAll] at h
  | _ :: _, [], h => by simp [RAll] at h

/-- ROWS ARE LENT to a call that only computes. -/
theorem PCall.lend1 {f : Fn} {args : List D} {d : D} {b sz cap : Nat} {rows : List (List D)} (h : PCall P f (args.map (fra b sz rows)) d) (hd : d.scal = true) :
    ACall P f args [(b, .arr sz rows cap)] fun r σ' => r = .ret d ∧ σ' = [(b, .arr sz rows cap)] := by
  intro M w vs hc hr
  have hg : Store.get [(b, .arr sz rows cap)] b = some (.arr sz rows cap) := by simp [Store.get]
  obtain ⟨⟨us, T, hh, h2, h3, h4, h5⟩, hm⟩ := hc.box b _ (Store.mem_of_get hg)
  obtain ⟨hle, c1, s1⟩ := hc.freeze hg hh hm
  have hrows : RRows (boxMem M b us) sz rows b 0 := by
    refine RRows.of_flat (fun r hr => (h5 r hr).1) (RCells_of _ b 0 (h4.mono hle) fun i v hv => ?_)
    show (if b = b then _ else _) = _
    rw [if_pos rfl, Nat.zero_add]
    rw [List.getElem?_take] at hv
    split at hv
    · exact hv
    · cases hv
  have hdel : Store.del [(b, Box.arr sz rows cap)] b = [] := by simp [Store.del]
  rw [hdel] at c1 s1
  have hlt : b < w.heap.size := (hc.box b _ (Store.mem_of_get hg)).lt
  refine (h (boxMem M b us) w vs c1 (RAll_fra hle hrows hr)).mono ?_
  rintro e w' ⟨M', σ', r, s2, c2, r2, rfl, rfl⟩
  have hM2 : ∀ b' o x, (fun b' o => if b' = b then none else M' b' o : Mem) b' o = some x → b' ≠ b ∧ M' b' o = some x := by
    intro b' o x hx
    by_cases hbb : b' = b
    · simp [hbb] at hx
    · exact ⟨hbb, by simpa [hbb] using hx⟩
  have hle2 : Mem.le M (fun b' o => if b' = b then none else M' b' o) := by
    intro b' o x hx
    by_cases hbb : b' = b
    · subst hbb; rw [hm o] at hx; cases hx
    · show (if b' = b then none else M' b' o) = some x
      rw [if_neg hbb]
      exact s2.le _ _ _ (hle _ _ _ hx)
  have hblk : w'.heap[b]? = w.heap[b]? := s2.block b hlt (by simp [Store.keys])
  refine ⟨(fun b' o => if b' = b then none else M' b' o), [(b, .arr sz rows cap)], .ret d, ?_, ?_, ?_, rfl, rfl⟩
  · refine ⟨hle2, s2.os, s2.tape, s2.output, s2.size, fun k hk hn => s2.block k hk (by simp [Store.keys]), fun k hk => .inl hk, fun b' o x hx => ?_⟩
    obtain ⟨hbb, hx'⟩ := hM2 b' o x hx
    rcases s2.grow b' o x hx' with h | h | h
    · left
      have : boxMem M b us b' o = some x := h
      unfold boxMem at this
      rwa [if_neg hbb] at this
    · exact .inr (.inl h)
    · simp [Store.keys] at h
  · refine ⟨fun b' o x hx => c2.mem b' o x (hM2 b' o x hx).2, by simp [Store.keys], fun k x hk => ?_⟩
    simp only [List.mem_singleton, Prod.mk.injEq] at hk
    obtain ⟨rfl, rfl⟩ := hk
    exact ⟨⟨us, T, hblk.trans hh, h2, h3, h4.mono hle2, h5⟩, fun o => by simp⟩
  · cases e with
    | returned v => exact scal_R hd r2
    | _ => simp only [ResR] at r2

theorem Store.perm_del : ∀ {σ : Store} {b : Nat} {x : Box}, σ.get b = some x → σ.Perm ((b, x) :: σ.del b)
  | [], _, _, h => by simp [Store.get] at h
  | (c, y) :: σ, b, x, h => by
    unfold Store.get at h
    unfold Store.del
    split at h
    · rename_i e; cases h; subst e; simp
    · rename_i e
      rw [if_neg e]
      exact (List.Perm.cons _ (Store.perm_del h)).trans (List.Perm.swap _ _ _)

theorem PCall.lend {f : Fn} {args : List D} {d : D} {b sz cap : Nat} {rows : List (List D)} (h : PCall P f (args.map (fra b sz rows)) d) (hd : d.scal = true) (hg : σ.get b = some (.arr sz rows cap)) :
    ACall P f args σ fun r σ' => r = .ret d ∧ σ'.Perm σ := by
  have h1 := ACall.frame (σ.del b) (h.lend1 (cap := cap) hd)
  refine ACall.perm (Store.perm_del hg) (ACall.mono h1 ?_)
  rintro r τ ⟨σ1, rfl, e1, rfl⟩
  exact ⟨_, .refl _, e1, (Store.perm_del hg).symm⟩

/-- A call to which rows are lent. -/
theorem callL {g : Nat} {fs cs xs : List D} {d : D} {K X : D → Store → Prop} (b : Nat) {sz cap : Nat} {rows : List (List D)} (hg : σ.get b = some (.arr sz rows cap)) (h : PCall P (.func g) ((fs ++ xs ++ cs).map (fra b sz rows)) d) (hd : d.scal = true)
    (hk : ∀ σ', σ'.Perm σ → K d σ') : CallK P (.fn (.func g) fs cs) xs K X σ := by
  refine ⟨(fun hy => by cases hy), .inr (ACall.mono (h.lend hd hg) ?_)⟩
  rintro r σ' ⟨rfl, hp⟩
  exact hk _ hp
/-- A call to which the rows of the one box that there is are lent. -/
theorem callL1 {g : Nat} {fs cs xs : List D} {d : D} {K X : D → Store → Prop} {b : Nat} {sz cap : Nat} {rows : List (List D)} (h : PCall P (.func g) ((fs ++ xs ++ cs).map (fra b sz rows)) d) (hd : d.scal = true)
    (hk : K d [(b, .arr sz rows cap)]) : CallK P (.fn (.func g) fs cs) xs K X [(b, .arr sz rows cap)] := by
  refine ⟨(fun hy => by cases hy), .inr (ACall.mono (h.lend1 hd) ?_)⟩
  rintro r σ' ⟨rfl, rfl⟩
  exact hk
theorem fra_arr {b sz n cap : Nat} {rows : List (List D)} (h : n = rows.length ∧ n ≤ cap ∧ n ≤ lim) : fra b sz rows (.arr b sz n cap) = .sl sz rows .no := by
  obtain ⟨rfl, h2, h3⟩ := h
  show (if b = b ∧ sz = sz ∧ rows.length ≤ rows.length ∧ rows.length ≤ cap ∧ rows.length ≤ lim then D.sl sz (rows.take rows.length) .no else _) = _
  rw [if_pos ⟨rfl, rfl, Nat.le_refl _, h2, h3⟩, List.take_length]

/-- A LOOP, its states' boxes listed in some order. -/
theorem lpp {α : Type} (E : α → Env) (S : α → Store) (ok : α → Prop) (μ : α → Nat) (x0 : α) {c : Code} {env : Env} {Q : AE → Env → Store → Prop} (h0 : ok x0 ∧ EnvLe (E x0) env ∧ σ.Perm (S x0))
    (h : ∀ x, ok x → AWp P r nt c (E x) (S x) (thenQ (fun env' σ' => ∃ y, (ok y ∧ μ y < μ x) ∧ EnvLe (E y) env' ∧ σ'.Perm (S y)) Q)) : AWp P r nt (.loop c) env σ Q := by
  refine lp (α := α × Store) (fun x => E x.1) (fun x => x.2) (fun x => ok x.1 ∧ x.2.Perm (S x.1)) (fun x => μ x.1) (x0, σ) ⟨⟨h0.1, h0.2.2⟩, h0.2.1, .refl _⟩ ?_
  rintro ⟨x, τ⟩ ⟨hx, hp⟩
  refine AWp.mono (weakP (E x) (EnvLe.refl _) hp (h x hx)) ?_
  intro e env' σ' hq
  cases e with
  | normal =>
    obtain ⟨y, ⟨h1, h2⟩, h3, h4⟩ := hq
    exact ⟨(y, σ'), ⟨⟨h1, h4⟩, h2⟩, h3, .refl _⟩
  | _ => exact hq

/-- append to a row with room of its own, whatever is put in. -/
theorem napp_own {ts : Array TypeId} {T U V : TypeId} {g : Bool} {sz by_ b c n : Nat} {z : List D} {rows new : List (List D)} {ρ : Store} {tk : Tok} {K : D → Store → Prop}
    (hn : rows.length = n) (hfr : b ∉ ρ.keys) (hT : ts[0]? = some T) (hV : ts[1]? = some V) (hV' : (sle P V).isSome = true) (hs : sle P T = some (U, g, sz)) (hy : eby P T = some by_) (hz : zc P U = some z)
    (hside : (z.length = sz ∧ 0 < sz ∧ 0 < by_) ∧ new.all (·.all D.isCell) = true ∧ (n + new.length) * by_ ≤ capB)
    (hK : ∀ b' c', b' ∉ ρ.keys → K (.sl sz (rows ++ new) (.own b' c')) ((b', .tail sz (n + new.length) c') :: ρ)) :
    napp P ((b, .tail sz n c) :: ρ) ts (.sl sz rows (.own b c)) (.sl sz new tk) K := by
  subst hn
  obtain ⟨⟨hz1, h0, hb0⟩, hc, hfit⟩ := hside
  unfold napp
  simp only [hT, Option.bind_some, hs, hy, rowsOf]
  refine ⟨⟨⟨z, hz, hz1⟩, ⟨V, hV, .inl hV'⟩, h0, hb0, by simp, by simp, hc, hfit⟩, ⟨by simp, by simp [Store.get]⟩, fun b' cap' hb => ?_⟩
  have hb' : b' ∉ ρ.keys := by
    rcases hb with rfl | h
    · exact hfr
    · intro hk; exact h (by simp [Store.keys] at hk ⊢; exact .inr hk)
  simpa [Store.ren] using hK b' cap' hb'
/-- append of nothing to nothing. -/
theorem napp_nn {ts : Array TypeId} {T U V : TypeId} {g : Bool} {sz by_ sz0 sz1 : Nat} {z : List D} {tk : Tok} {K : D → Store → Prop}
    (hT : ts[0]? = some T) (hV : ts[1]? = some V) (hV' : (sle P V).isSome = true) (hs : sle P T = some (U, g, sz)) (hy : eby P T = some by_) (hz : zc P U = some z)
    (hside : z.length = sz ∧ 0 < sz ∧ 0 < by_) (hK : K (.sl sz [] .nil) σ) : napp P σ ts (.sl sz0 [] .nil) (.sl sz1 [] tk) K := by
  obtain ⟨hz1, h0, hb0⟩ := hside
  unfold napp
  simp only [hT, Option.bind_some, hs, hy, rowsOf]
  exact ⟨⟨⟨z, hz, hz1⟩, ⟨V, hV, .inl hV'⟩, h0, hb0, by simp, by simp, by simp, by simp [capB]⟩, fun _ => hK, fun e => absurd rfl e⟩
/-- append to nothing. -/
theorem napp_n {ts : Array TypeId} {T U V : TypeId} {g : Bool} {sz by_ sz0 : Nat} {z : List D} {new : List (List D)} {tk : Tok} {K : D → Store → Prop}
    (hT : ts[0]? = some T) (hV : ts[1]? = some V) (hV' : (sle P V).isSome = true) (hs : sle P T = some (U, g, sz)) (hy : eby P T = some by_) (hz : zc P U = some z)
    (hside : (z.length = sz ∧ 0 < sz ∧ 0 < by_) ∧ new.all (·.all D.isCell) = true ∧ new ≠ [] ∧ new.length * by_ ≤ capB)
    (hK : ∀ b c, b ∉ σ.keys → K (.sl sz new (.own b c)) ((b, .tail sz new.length c) :: σ)) : napp P σ ts (.sl sz0 [] .nil) (.sl sz new tk) K := by
  obtain ⟨⟨hz1, h0, hb0⟩, hc, hne, hfit⟩ := hside
  unfold napp
  simp only [hT, Option.bind_some, hs, hy, rowsOf]
  exact ⟨⟨⟨z, hz, hz1⟩, ⟨V, hV, .inl hV'⟩, h0, hb0, by simp, by simp, hc, by simpa using hfit⟩, fun e => absurd e hne, fun _ b cap hb => hK b cap hb⟩
/-- A call of a function, or a closure, that only computes. -/
theorem callP {g : Nat} {fs cs xs : List D} {d : D} {K X : D → Store → Prop} (h : PCall P (.func g) (fs ++ xs ++ cs) d) (hk : K d σ) : CallK P (.fn (.func g) fs cs) xs K X σ :=
  ⟨(fun hy => by cases hy), .inl ⟨d, h, hk⟩⟩
/-- append of zeros to nothing. -/
theorem nappZ_of {ts : Array TypeId} {T U V : TypeId} {k : IntKind} {g : Bool} {sz by_ sz0 : Nat} {n : Int} {z : List D} {K : D → Store → Prop}
    (hT : ts[0]? = some T) (hV : ts[1]? = some V) (hk : ink P V = some k) (hs : sle P T = some (U, g, sz)) (hy : eby P T = some by_) (hz : zc P U = some z)
    (hside : z.length = sz ∧ 0 < sz ∧ 0 < by_ ∧ 0 < n ∧ n * by_ ≤ capB) (hK : ∀ b c, b ∉ σ.keys → n.toNat ≤ c → K (.arr b sz n.toNat c) ((b, .arr sz (List.replicate n.toNat z) c) :: σ)) :
    nappZ P σ ts (.sl sz0 [] .nil) (.int .i64 n) K := by
  unfold nappZ
  simp only [hT, hV, Option.bind_some, hs, hy, hk, hz]
  exact ⟨hside, hK⟩
/-- append into rows that are written to, where there is room. -/
theorem nappM_room {ts : Array TypeId} {T U V : TypeId} {g : Bool} {sz by_ b c n : Nat} {z : List D} {rows new : List (List D)} {tk : Tok} {K : D → Store → Prop}
    (hg : σ.get b = some (.arr sz rows c)) (hT : ts[0]? = some T) (hV : ts[1]? = some V) (hV' : (sle P V).isSome = true) (hs : sle P T = some (U, g, sz)) (hy : eby P T = some by_) (hz : zc P U = some z)
    (hside : (z.length = sz ∧ 0 < sz ∧ 0 < by_) ∧ new.all (·.all D.isCell) = true ∧ n ≤ rows.length ∧ n + new.length ≤ c ∧ (n + new.length) * by_ ≤ capB)
    (hK : K (.arr b sz (n + new.length) c) (σ.upd b (.arr sz (rows.take n ++ new ++ rows.drop (n + new.length)) c))) :
    nappM P σ ts (.arr b sz n c) (.sl sz new tk) K := by
  obtain ⟨⟨hz1, h0, hb0⟩, hc, hnr, hroom, hfit⟩ := hside
  unfold nappM
  simp only [hT, Option.bind_some, hs, hy, rowsOf, hg]
  exact ⟨⟨⟨z, hz, hz1⟩, ⟨V, hV, .inl hV'⟩, h0, hb0, by simp, hc⟩, ⟨trivial, trivial, trivial, hnr, hfit⟩, fun _ => hK, fun h => absurd h (by omega)⟩
/-- append to a row that is written to, whatever boxes there are beside it: the box comes first. -/
theorem nappM_growN' {ts : Array TypeId} {T U V : TypeId} {g : Bool} {sz by_ n : Nat} {z : List D} {rows new : List (List D)} {o : Option (Nat × Nat)} {ρ : Store} {tk : Tok} {K : D → Store → Prop}
    (hn : rows.length = n) (hok : mpC n o) (hfr : apFr o ρ) (hT : ts[0]? = some T) (hV : ts[1]? = some V) (hV' : (sle P V).isSome = true) (hs : sle P T = some (U, g, sz)) (hy : eby P T = some by_) (hz : zc P U = some z)
    (hside : (z.length = sz ∧ 0 < sz ∧ 0 < by_) ∧ new.all (·.all D.isCell) = true ∧ new ≠ [] ∧ (n + new.length) * by_ ≤ capB)
    (hK : ∀ b c, b ∉ ρ.keys → n + new.length ≤ c → K (mpD sz (n + new.length) (some (b, c))) (mpS sz (rows ++ new) (some (b, c)) ++ ρ)) :
    nappM P (mpS sz rows o ++ ρ) ts (mpD sz n o) (.sl sz new tk) K := by
  subst hn
  exact nappM_grow hok hfr hT hV hV' hs hy hz hside hK
/-- The result may be told with less. -/
theorem RCall.le {f : Fn} {args : List D} {α : Type} {F : α → D} {S : α → Store} {ok : α → Prop} (h : ACall P f args σ fun r σ' => ∃ y, ok y ∧ (∃ d', r = .ret d' ∧ DLe (F y) d') ∧ σ' = S y) : RCall P f args σ F S ok := by
  refine ACall.le (ACall.mono h ?_)
  rintro r σ' ⟨y, hy, ⟨d', rfl, hd⟩, rfl⟩
  exact ⟨.ret (F y), hd, y, hy, rfl, rfl⟩
theorem retRL {rs : List ResultVar} {α : Type} {F : α → D} {S : α → Store} {ok : α → Prop} (y : α) {env : Env} (hs : (S y).Sublist σ) (ho : ok y) (h : (resD P σ env rs).1 ∧ DLe (F y) (resD P σ env rs).2) :
    retQ P rs (fun r σ' => ∃ y, ok y ∧ (∃ d', r = .ret d' ∧ DLe (F y) d') ∧ σ' = S y) .ret env σ := ⟨h.1, S y, hs, y, ho, ⟨_, rfl, h.2⟩, rfl⟩
/-- The one thing that is known is rows that stay from now on. -/
theorem fz1 {c : Code} {t b sz n cap : Nat} {rows : List (List D)} {Q : AE → Env → Store → Prop} (hg : σ.get b = some (.arr sz rows cap)) (hn : n = rows.length ∧ n ≤ cap ∧ n ≤ lim)
    (h : AWp P r nt c (mk [(t, .sl sz rows .no)]) [] Q) : AWp P r nt c (mk [(t, .arr b sz n cap)]) σ Q := by
  refine fza b [t] [] hg ?_
  refine weak (mk [(t, .sl sz rows .no)]) (EnvLe.of_l ⟨?_, trivial⟩) (List.nil_sublist _) h
  show (bif [t].contains t then fra b sz rows (mk [(t, .arr b sz n cap)] t) else _) = _
  have e1 : [t].contains t = true := by simp
  have e2 : mk [(t, D.arr b sz n cap)] t = .arr b sz n cap := by simp [mk]
  rw [e1, e2, fra_arr hn]; rfl
end
end Go.Proofs.YtjjkgeeafjagkaaGreat
/- Own layer, part 28: regions told operation by operation, of the machine; ranges over maps. -/
namespace Go.Proofs.YtjjkgeeafjagkaaGreat
open Go Go.RowKit
set_option linter.unusedSimpArgs false
set_option linter.unusedVariables false

section
variable {P : Program} {M : Mem} {w : World} {σ : Store} {r : Option Nat} {nt : Nat}

/-- What an operation comes to, said of the machine. -/
def opS (P : Program) (nt : Nat) (o : Oper) (env : Env) (σ : Store) (K X : D → Store → Prop) : Prop := ∀ M w (a : Act), Conc M w σ → EnvR M nt env a → NOut P M w σ (execOp a.eval o) K X
def vopsS (P : Program) (nt : Nat) (κ : Env → Store → Prop) (X : D → Store → Prop) : List Oper → Env → Store → Prop
  | [], env, σ => κ env σ
  | o :: os, env, σ => opS P nt o env σ (fun d σ' => vopsS P nt κ X os (env.put o.dst d) σ') X

theorem vopsS_sound {ops : Array Oper} {Q : AE → Env → Store → Prop} (keep : List Nat) {M0 : Mem} {w0 : World} {σ0 : Store} {a0 : Act} {B : Nat × List Deferred} : ∀ (l : List Oper) (k : Nat), (∀ j, l[j]? = ops[k + j]?) → l.all (okOp nt) = true → l.all (·.guard.isNone) = true → ∀ (env : Env) (σ : Store) (M : Mem) (w : World) (a : Act),
    vopsS P nt (fun env σ => Q .normal (prune keep env) σ) (fun d σ => Q (.pan d) (fun _ => .top) σ) l env σ →
    Conc M w σ → EnvR M nt env a → DefOK B σ0 w0 a0.defers → a.defers = a0.defers → Step M0 w0 σ0 M w σ → wpOpsIn (WF r) 0 P ops (rgPost M0 w0 σ0 nt B Q) (List.range' k l.length) a w
  | [], k, _, _, _, env, σ, M, w, a, h, hc, he, hd, hda, hs => by
    simp only [List.length_nil, List.range'_zero, wpOpsIn]
    exact ⟨M, _, σ, .normal, hs, hc, he.prune keep, hda ▸ hd.step hs, trivial, h⟩
  | o :: l, k, hl, hok, hgd, env, σ, M, w, a, h, hc, he, hd, hda, hs => by
    have h0 : ops[k]? = some o := by simpa using (hl 0).symm
    simp only [List.all_cons, Bool.and_eq_true] at hok hgd
    simp only [List.length_cons, List.range'_succ]
    rw [wpOpsIn_cons]
    unfold wpOpIn
    simp only [h0]
    have hg : o.guard = none := by simpa using hgd.1
    rw [if_pos (by simp [Region.wanted, hg])]
    refine wpIn_of_out (quiet_not_defer hok.1) (h M w a hc he) ?_ ?_
    · intro M' w' σ' d v s1 c1 r1 k1
      have hdef : (a.put o.dst v).defers = a.defers := by cases o.dst <;> rfl
      exact vopsS_sound keep l (k + 1) (fun j => by have := hl (j + 1); simpa [Nat.add_assoc, Nat.add_comm 1 j] using this) hok.2 hgd.2 _ σ' M' w' _ k1 c1 ((he.mono s1.le).put (okOp_dst hok.1) r1) hd (hdef.trans hda) (hs.trans s1)
    · intro M' w' σ' d v s1 c1 r1 x1
      exact ⟨M', fun _ => .top, σ', .pan d, hs.trans s1, c1, ⟨he.1, fun _ => by simp only [R]⟩, hda ▸ hd.step (hs.trans s1), ⟨v, rfl, r1⟩, x1⟩
/-- A REGION IN THE TEXT's ORDER, whose operations are told of the machine. -/
theorem rgS (keep : List Nat) {id : Nat} {l : List Oper} {env : Env} {Q : AE → Env → Store → Prop} (hok : (l.all (okOp nt) && l.all (·.guard.isNone)) = true)
    (h : ∀ (κ : Env → Store → Prop) (ξ : D → Store → Prop), (∀ env σ, Q .normal env σ → κ env σ) → (∀ d σ, Q (.pan d) (fun _ => .top) σ → ξ d σ) → vopsS P nt (fun env σ => κ (prune keep env) σ) ξ l env σ) : AWp P r nt (.region id l.toArray false) env σ Q := by
  intro M w a B hc he hd
  refine wpIn_region ?_
  simp only [Bool.and_eq_true] at hok
  have := vopsS_sound (P := P) (r := r) (ops := l.toArray) (Q := Q) keep l 0 (by simp) hok.1 hok.2 env σ M w a (h (fun env σ => Q .normal env σ) (fun d σ => Q (.pan d) (fun _ => .top) σ) (fun _ _ h => h) (fun _ _ h => h)) hc he hd rfl (Step.refl _ _ _)
  rw [List.range_eq_range', show l.toArray.size = l.length from by simp]
  exact this
variable {κ : Env → Store → Prop} {X : D → Store → Prop} {dst : Option Nat} {T : TypeId} {pos_ : String} {aft : Array Edge} {os : List Oper} {env : Env}
theorem vS_nil (h : κ env σ) : vopsS P nt κ X [] env σ := h
theorem vS_q {op : Op} (h1 : (qev P σ (opd env) op).1) (h2 : vopsS P nt κ X os (env.put dst (qev P σ (opd env) op).2) σ) : vopsS P nt κ X (⟨dst, op, T, pos_, aft, none⟩ :: os) env σ := by
  intro M w a hc he
  obtain ⟨v, r1, r2⟩ := qev_sound hc (opd_R he) ⟨dst, op, T, pos_, aft, none⟩ h1
  exact .value M w σ _ v r1 (Step.refl _ _ _) hc r2 h2

/-! ### Ranges over maps -/
theorem RAll_getD : ∀ {ds : List D} {vs : List Value} (i : Nat), RAll M ds vs → R M (ds.getD i .top) (vs.toArray.getD i undef)
  | [], [], i, _ => by simp [R]
  | d :: ds, x :: xs, 0, h => by simp only [RAll] at h; simpa using h.1
  | d :: ds, x :: xs, i + 1, h => by
    simp only [RAll] at h
    have := RAll_getD i h.2
    simpa using this
  | [], _ :: _, _, h => by simp [RAll] at h
  | _ :: _, [], _, h => by simp [RAll] at h
theorem EntsR.all : ∀ {es : List (D × D)} {ms : List MapEntry}, EntsR M es ms → RAll M (es.map Prod.fst) (ms.map (·.key)) ∧ RAll M (es.map Prod.snd) (ms.map (·.val)) ∧ es.length = ms.length
  | [], [], _ => by simp [RAll]
  | e :: es, m :: ms, ⟨h1, h2⟩ => by
    obtain ⟨a, b, c⟩ := EntsR.all h2
    simp only [List.map_cons, RAll, List.length_cons]
    exact ⟨⟨h1.1, a⟩, ⟨h1.2, b⟩, by omega⟩
  | [], _ :: _, h => h.elim
  | _ :: _, [], h => h.elim

/-- What a range over a map knows of the map. -/
structure MIt (es : List (D × D)) where
  m : Nat
  ms : List MapEntry
  clock : Nat
  nodup : (ms.map (·.born)).Nodup
  old : ∀ x ∈ ms, x.born < clock
  len : es.length = ms.length
def MIt.at {es : List (D × D)} (it : MIt es) (i : Nat) : MapEntry := it.ms.getD i { key := undef, val := undef, born := 0 }
/-- The map, as a range sees it. -/
def MIt.mb {es : List (D × D)} (it : MIt es) : Box := .obj (.map it.ms.toArray it.clock) (fun i => (es.map Prod.fst ++ es.map Prod.snd).getD i .top) (it.ms.map (·.key) ++ it.ms.map (·.val)).toArray
/-- The range, which has seen the entries at these places. -/
def MIt.ib {es : List (D × D)} (it : MIt es) (pos : List Nat) : Box := .obj (.mapIter (some it.m) it.clock (pos.map fun i => (it.at i).born).toArray it.clock) (fun _ => .top) #[]

theorem MIt.at_mem {es : List (D × D)} (it : MIt es) {i : Nat} (h : i < es.length) : it.at i ∈ it.ms := by
  unfold MIt.at
  have h2 : i < it.ms.length := by rw [← it.len]; exact h
  rw [List.getD_eq_getElem?_getD, List.getElem?_eq_getElem h2]
  exact List.getElem_mem h2
theorem MIt.born_inj {es : List (D × D)} (it : MIt es) {i j : Nat} (hi : i < es.length) (hj : j < es.length) (h : (it.at i).born = (it.at j).born) : i = j := by
  have hi2 : i < it.ms.length := by rw [← it.len]; exact hi
  have hj2 : j < it.ms.length := by rw [← it.len]; exact hj
  have e : ∀ k (hk : k < it.ms.length), (it.at k).born = (it.ms.map (·.born))[k]'(by simpa using hk) := fun k hk => by
    unfold MIt.at
    rw [List.getD_eq_getElem?_getD, List.getElem?_eq_getElem hk]
    simp
  rw [e i hi2, e j hj2] at h
  exact (List.getElem_inj it.nodup).1 h
theorem MIt.mem_at {es : List (D × D)} (it : MIt es) {e : MapEntry} (h : e ∈ it.ms) : ∃ i, i < es.length ∧ it.at i = e := by
  obtain ⟨i, hi, rfl⟩ := List.getElem_of_mem h
  refine ⟨i, by rw [it.len]; exact hi, ?_⟩
  unfold MIt.at
  rw [List.getD_eq_getElem?_getD, List.getElem?_eq_getElem hi]
  rfl
theorem MIt.seen {es : List (D × D)} (it : MIt es) {pos : List Nat} (hpos : ∀ i ∈ pos, i < es.length) {i : Nat} (hi : i < es.length) : (pos.map fun i => (it.at i).born).toArray.contains (it.at i).born = decide (i ∈ pos) := by
  rw [Bool.eq_iff_iff]
  simp only [List.contains_toArray, decide_eq_true_eq, List.contains_iff_mem, List.mem_map]
  constructor
  · rintro ⟨j, hj, e⟩
    rw [← it.born_inj (hpos j hj) hi e]; exact hj
  · intro h
    exact ⟨i, h, rfl⟩
/-- A map becomes what a range sees. -/
theorem Conc.toIt (hc : Conc M w σ) {m : Nat} {es : List (D × D)} (hg : σ.get m = some (.map es)) : ∃ it : MIt es, it.m = m ∧ w.heap[m]? = some (.map it.ms.toArray it.clock) ∧ Conc M w (σ.upd m it.mb) ∧ Step M w σ M w (σ.upd m it.mb) := by
  obtain ⟨⟨ms, c, h1, h2, h3, h4⟩, hm⟩ := hc.box m _ (Store.mem_of_get hg)
  obtain ⟨a, b, hl⟩ := h2.all
  refine ⟨⟨m, ms, c, h3, h4, hl⟩, rfl, h1, ?_⟩
  exact hc.turn (Store.get_mem hg) rfl rfl rfl rfl (fun _ _ => rfl) (fun o v hv => by rw [hm o] at hv; cases hv) ⟨h1, hm, fun i => RAll_getD i (a.append b)⟩
theorem mpt_isSome {T : TypeId} (h : (mpt P T).isSome = true) : ∃ k e, P.underlying T = some (.map k e) := by
  cases hm : mpt P T with
  | none => rw [hm] at h; cases h
  | some p => exact ⟨p.1, p.2, mpt_some (k := p.1) (e := p.2) hm⟩
theorem vS_range {TT : TypeId} {x : Operand} {m : Nat} {es : List (D × D)} (hx : opd env x = .mp m) (hg : σ.get m = some (.map es)) (hT : (mpt P TT).isSome = true)
    (h : ∀ (it : MIt es), it.m = m → ∀ b, b ∉ σ.keys → vopsS P nt κ X os (env.put dst (.ptr b 0)) ((b, it.ib []) :: σ.upd m it.mb)) : vopsS P nt κ X (⟨dst, .range TT x, T, pos_, aft, none⟩ :: os) env σ := by
  intro M w a hc he
  have hr := opd_R he x
  rw [hx] at hr
  simp only [R] at hr
  obtain ⟨it, hm, hh, c1, s1⟩ := hc.toIt hg
  obtain ⟨k, e, hu⟩ := mpt_isSome hT
  have hrun : (Instr.range TT (.map (some m))).run P w = .ok (.pointer (some ⟨w.heap.size, 0, none⟩)) (w.alloc (.mapIter (some m) it.clock #[] it.clock)) := by
    unfold Instr.range
    simp only [Sem.run_bind, run_underlying' hu, Result.andThen_ok, Sem.run_pure, run_newObj, getObj, Sem.run, hh]
    rfl
  obtain ⟨h1, h2, h3⟩ := c1.newBox (o := .mapIter (some m) it.clock #[] it.clock) (x := it.ib []) ⟨by rw [alloc_heap_new, hm]; rfl, c1.mem_none, fun i => by simp only [R]⟩
  have hk : w.heap.size ∉ σ.keys := by rw [Store.keys_upd] at h3; exact h3
  have hex : (execOp a.eval ⟨dst, .range TT x, T, pos_, aft, none⟩).run P w = .ok (.value (.pointer (some ⟨w.heap.size, 0, none⟩))) (w.alloc (.mapIter (some m) it.clock #[] it.clock)) := by
    show (do pure (Next.value (← Instr.range TT (a.eval x))) : Sem Next).run P w = _
    rw [hr]
    exact lift_value hrun
  exact .value _ _ _ (.ptr w.heap.size 0) _ hex (s1.trans h2) h1 (by simp only [R]) (h it hm _ hk)
theorem vS_next {x : Operand} {b : Nat} {es : List (D × D)} (it : MIt es) (pos : List Nat) (hx : opd env x = .ptr b 0) (hb : σ.get b = some (it.ib pos)) (hm : σ.get it.m = some it.mb) (hpos : ∀ i ∈ pos, i < es.length)
    (h0 : (∀ i, i < es.length → i ∈ pos) → vopsS P nt κ X os (env.put dst (.tup [.bool false])) σ)
    (h1 : ∀ i, i < es.length → i ∉ pos → vopsS P nt κ X os (env.put dst (.tup [.bool true, .top, .top])) (σ.upd b (it.ib (pos ++ [i])))) : vopsS P nt κ X (⟨dst, .next x false, T, pos_, aft, none⟩ :: os) env σ := by
  intro M w a hc he
  have hr := opd_R he x
  rw [hx] at hr
  simp only [R] at hr
  obtain ⟨hbh, hbm, -⟩ := hc.box b _ (Store.mem_of_get hb)
  obtain ⟨hmh, -, -⟩ := hc.box it.m _ (Store.mem_of_get hm)
  have hex : ∀ {v : Value} {w' : World}, (Instr.next (.pointer (some ⟨b, 0, none⟩)) false T).run P w = .ok v w' → (execOp a.eval ⟨dst, .next x false, T, pos_, aft, none⟩).run P w = .ok (.value v) w' := by
    intro v w' h
    show (do pure (Next.value (← Instr.next (a.eval x) false T)) : Sem Next).run P w = _
    rw [hr]
    exact lift_value h
  rcases run_next_at (P := P) w T b it.m it.clock it.clock _ _ it.clock hbh hmh (fun x hx => it.old x (by simpa using hx)) (Nat.le_refl _) with ⟨hz, hrun⟩ | ⟨e, he2, w1, hw, hrun⟩
  · refine .value _ _ _ (.tup [.bool false]) _ (hex hrun) (Step.refl _ _ _) hc (by simp only [R]; exact ⟨_, rfl, by simp only [RAll, R, and_self]⟩) (h0 fun i hi => ?_)
    have hs := it.seen hpos hi
    unfold leftOf at hz
    by_cases hp : i ∈ pos
    · exact hp
    · exfalso
      rw [decide_eq_false hp] at hs
      have : it.at i ∈ (it.ms.toArray.filter fun e => !(pos.map fun i => (it.at i).born).toArray.contains e.born) := by
        rw [Array.mem_filter]
        exact ⟨by simpa using it.at_mem hi, by rw [hs]; rfl⟩
      have h2 := Array.eq_empty_of_size_eq_zero hz
      rw [h2] at this
      simp at this
  · unfold leftOf at he2
    rw [Array.mem_toList_iff, Array.mem_filter] at he2
    obtain ⟨hem, hec⟩ := he2
    obtain ⟨i, hi, hie⟩ := it.mem_at (e := e) (by simpa using hem)
    subst hie
    have hs := it.seen hpos hi
    have hnp : i ∉ pos := by
      intro hp
      rw [decide_eq_true hp] at hs
      rw [hs] at hec
      cases hec
    have hcw : Conc M w1 σ ∧ Step M w σ M w1 σ ∧ w1.heap = w.heap := by
      rcases hw with rfl | rfl
      · exact ⟨hc, Step.refl _ _ _, rfl⟩
      · exact ⟨hc.drew, Step.drew _ _ _, rfl⟩
    obtain ⟨cw, sw, hwh⟩ := hcw
    have hlt : b < w1.heap.size := by rw [hwh]; exact (Array.getElem?_eq_some_iff.1 hbh).1
    have hpush : (pos.map fun i => (it.at i).born).toArray.push (it.at i).born = ((pos ++ [i]).map fun i => (it.at i).born).toArray := by simp
    obtain ⟨c2, s2⟩ := cw.turn (w' := Go.ChangeMaps.setBlock w1 b (.mapIter (some it.m) it.clock ((pos.map fun i => (it.at i).born).toArray.push (it.at i).born) it.clock)) (b := b) (y := it.ib (pos ++ [i]))
      (Store.get_mem hb) (by simp [Go.ChangeMaps.setBlock]) rfl rfl rfl (fun k hk => by simp only [Go.ChangeMaps.setBlock, Array.getElem?_setIfInBounds]; rw [if_neg (fun e => hk e.symm)]) (fun o v hv => by rw [hbm o] at hv; cases hv)
      ⟨by rw [← hpush]; simp [Go.ChangeMaps.setBlock, hlt], hbm, fun i => by simp only [R]⟩
    exact .value _ _ _ (.tup [.bool true, .top, .top]) _ (hex hrun) (sw.trans s2) c2 (by simp only [R]; exact ⟨_, rfl, by simp only [RAll, R, and_self]⟩) (h1 i hi hnp)
theorem vS_entry {x : Operand} {b i : Nat} {es : List (D × D)} (it : MIt es) (pos : List Nat) (hx : opd env x = .ptr b 0) (hb : σ.get b = some (it.ib (pos ++ [i]))) (hm : σ.get it.m = some it.mb) (hi : i < es.length)
    (h : vopsS P nt κ X os (env.put dst (.tup [(es.getD i (.top, .top)).1, (es.getD i (.top, .top)).2])) σ) : vopsS P nt κ X (⟨dst, .entry x, T, pos_, aft, none⟩ :: os) env σ := by
  intro M w a hc he
  have hr := opd_R he x
  rw [hx] at hr
  simp only [R] at hr
  obtain ⟨hbh, hbm, -⟩ := hc.box b _ (Store.mem_of_get hb)
  obtain ⟨hmh, -, hme⟩ := hc.box it.m _ (Store.mem_of_get hm)
  have hpush : ((pos ++ [i]).map fun i => (it.at i).born).toArray = (pos.map fun i => (it.at i).born).toArray.push (it.at i).born := by simp
  rw [hpush] at hbh
  have hrun := run_entry_at (P := P) w b it.m it.clock _ _ it.clock (it.at i) hbh hmh (by simpa using it.at_mem hi) (by simpa using it.nodup)
  have hil : i < it.ms.length := by rw [← it.len]; exact hi
  have hk : R M (es.getD i (.top, .top)).1 (it.at i).key := by
    have h1 : R M ((es.map Prod.fst ++ es.map Prod.snd).getD i .top) _ := hme i
    have e1 : (es.map Prod.fst ++ es.map Prod.snd).getD i .top = (es.getD i (.top, .top)).1 := by
      rw [List.getD_eq_getElem?_getD, List.getD_eq_getElem?_getD, List.getElem?_append_left (by simpa using hi), List.getElem?_map, List.getElem?_eq_getElem hi]; rfl
    have e2 : (it.ms.map (·.key) ++ it.ms.map (·.val)).toArray.getD i undef = (it.at i).key := by
      unfold MIt.at
      simp [Array.getD_eq_getD_getElem?, List.getElem?_append_left, hil]
    rw [e1, e2] at h1
    exact h1
  have hv : R M (es.getD i (.top, .top)).2 (it.at i).val := by
    have h1 : R M ((es.map Prod.fst ++ es.map Prod.snd).getD (es.length + i) .top) _ := hme (es.length + i)
    have e1 : (es.map Prod.fst ++ es.map Prod.snd).getD (es.length + i) .top = (es.getD i (.top, .top)).2 := by
      rw [List.getD_eq_getElem?_getD, List.getD_eq_getElem?_getD, List.getElem?_append_right (by simp), List.length_map, Nat.add_sub_cancel_left, List.getElem?_map, List.getElem?_eq_getElem hi]; rfl
    have e2 : (it.ms.map (·.key) ++ it.ms.map (·.val)).toArray.getD (es.length + i) undef = (it.at i).val := by
      unfold MIt.at
      rw [it.len]
      simp [Array.getD_eq_getD_getElem?, List.getElem?_append_right, hil]
    rw [e1, e2] at h1
    exact h1
  have hex : (execOp a.eval ⟨dst, .entry x, T, pos_, aft, none⟩).run P w = .ok (.value (.tuple #[(it.at i).key, (it.at i).val])) w := by
    show (do pure (Next.value (← Instr.entry (a.eval x))) : Sem Next).run P w = _
    rw [hr]
    exact lift_value hrun
  exact .value _ _ _ _ _ hex (Step.refl _ _ _) hc (by simp only [R]; exact ⟨_, rfl, by simp only [RAll, and_true]; exact ⟨hk, hv⟩⟩) h
theorem len_map_out {xs : Array Operand} {ts : Array TypeId} {x : Operand} {m n : Nat} {TT : TypeId} (hxs : xs = #[x]) (hx : opd env x = .mp m) (hT : ts[0]? = some TT) (hTT : (mpt P TT).isSome = true) (hn : n ≤ lim)
    (hlen : ∀ M w, Conc M w σ → ∃ ms c, w.heap[m]? = some (.map ms c) ∧ ms.size = n) (h : vopsS P nt κ X os (env.put dst (.int .i64 n)) σ) : vopsS P nt κ X (⟨dst, .call ⟨.builtin .len, xs, ts⟩, T, pos_, aft, none⟩ :: os) env σ := by
  intro M w a hc he
  have hr := opd_R he x
  rw [hx] at hr
  simp only [R] at hr
  obtain ⟨ms, c, hh, hs⟩ := hlen M w hc
  obtain ⟨k, e, hu⟩ := mpt_isSome hTT
  subst hxs
  have hex : (execOp a.eval ⟨dst, .call ⟨.builtin .len, #[x], ts⟩, T, pos_, aft, none⟩).run P w = .ok (.value (.int .i64 n)) w := by
    have hb : (builtin .len ts T (#[x].map fun | .const _ => true | _ => false) #[.map (some m)]).run P w = .ok (.value (.int .i64 n)) w := by
      simp [builtin, Builtin.len_, hT, run_underlying' hu, getObj, Sem.run, hh, hs, goInt]
    simp only [execOp, resolve, Sem.run_bind, Sem.run_pure, Result.andThen_ok, invoke]
    have e1 : #[x].map a.eval = #[.map (some m)] := by simp [hr]
    rw [e1]
    exact hb
  exact .value _ _ _ _ _ hex (Step.refl _ _ _) hc (by simp only [R, true_and]; exact inR_len hn) h
theorem vS_lenM {xs : Array Operand} {ts : Array TypeId} {x : Operand} {m : Nat} {TT : TypeId} {es : List (D × D)} (hxs : xs = #[x]) (hx : opd env x = .mp m) (hg : σ.get m = some (.map es)) (hT : ts[0]? = some TT) (hTT : (mpt P TT).isSome = true) (hn : es.length ≤ lim)
    (h : vopsS P nt κ X os (env.put dst (.int .i64 es.length)) σ) : vopsS P nt κ X (⟨dst, .call ⟨.builtin .len, xs, ts⟩, T, pos_, aft, none⟩ :: os) env σ :=
  len_map_out hxs hx hT hTT hn (fun M w hc => by
    obtain ⟨⟨ms, c, h1, h2, h3, h4⟩, hm⟩ := hc.box m _ (Store.mem_of_get hg)
    exact ⟨_, _, h1, by simpa using h2.all.2.2.symm⟩) h
theorem vS_lenI {xs : Array Operand} {ts : Array TypeId} {x : Operand} {TT : TypeId} {es : List (D × D)} (it : MIt es) (hxs : xs = #[x]) (hx : opd env x = .mp it.m) (hg : σ.get it.m = some it.mb) (hT : ts[0]? = some TT) (hTT : (mpt P TT).isSome = true) (hn : es.length ≤ lim)
    (h : vopsS P nt κ X os (env.put dst (.int .i64 es.length)) σ) : vopsS P nt κ X (⟨dst, .call ⟨.builtin .len, xs, ts⟩, T, pos_, aft, none⟩ :: os) env σ :=
  len_map_out hxs hx hT hTT hn (fun M w hc => by
    obtain ⟨h1, _⟩ := hc.box it.m _ (Store.mem_of_get hg)
    exact ⟨_, _, h1, by simpa using it.len.symm⟩) h
/-- A call, in such a region. -/
theorem vS_c {f : Operand} {xs : Array Operand} {ts : Array TypeId} (h : CallK P (opd env f) (xs.toList.map (opd env)) (fun d σ' => vopsS P nt κ X os (env.put dst d) σ') X σ) : vopsS P nt κ X (⟨dst, .call ⟨.value f, xs, ts⟩, T, pos_, aft, none⟩ :: os) env σ := by
  intro M w a hc he
  exact nev_sound hc (imm := false) (opd_R he) ⟨dst, .call ⟨.value f, xs, ts⟩, T, pos_, aft, none⟩ h
end
end Go.Proofs.YtjjkgeeafjagkaaGreat
/- Own layer, part 25: scopes through which no jump goes. -/
namespace Go.Proofs.YtjjkgeeafjagkaaGreat
open Go Go.RowKit
set_option linter.unusedSimpArgs false
set_option linter.unusedVariables false

section
variable {F : Fence} {n : Nat} {P : Program} {Q : Exit → Act → World → Prop} {a : Act} {w : World} {b : Frame} {k : List Item} {cs : List Frame}

def sansGo (Q : Exit → Act → World → Prop) : Exit → Act → World → Prop
  | .goto _, _, _ => False
  | e, a, w => Q e a w
theorem stepR_scope {c : Code} : step P (lone (b.atR a (.code (.scope c) :: k)) cs w) = .next (lone (b.atR a (.code c :: .inScope c :: k)) cs w) :=
  step_lone_go (by simp [stepG, stepG.exec, Frame.atR])
theorem stepR_inScope {c : Code} : step P (lone (b.atR a (.inScope c :: k)) cs w) = .next (lone (b.atR a k) cs w) :=
  step_lone_go (by simp [stepG, stepG.exec, Frame.atR])

theorem wpIn_scope {c : Code} (h : c.wpIn F n P (sansGo Q) a w) : (Code.scope c).wpIn F n P Q a w := by
  intro b k cs hro hb hr
  have h0 : (lone (b.atR a (.code (.scope c) :: k)) cs w).fenced P F := fenced_calm hb hr rfl
  obtain ⟨e, a₁, w₁, hq, harr⟩ := h b (.inScope c :: k) cs hro hb hr
  cases e with
  | normal => exact ⟨.normal, a₁, w₁, hq, .head h0 stepR_scope (StepsIn.trans harr (.one (fenced_calm hb hr rfl) stepR_inScope))⟩
  | exit id' =>
    have hx : exitTo id' (.inScope c :: k) = exitTo id' k := by simp [exitTo]
    exact ⟨.exit id', a₁, w₁, hq, fun k' hk => .head h0 stepR_scope (harr.1 k' (by rw [hx]; exact hk)),
      fun hr' hk => let ⟨k₁, h1, h2⟩ := harr.2 hr' (by rw [hx]; exact hk); ⟨k₁, h1, .head h0 stepR_scope h2⟩⟩
  | goto l => exact hq.elim
  | ret => exact ⟨.ret, a₁, w₁, hq, .of_steps (.one h0 stepR_scope) harr⟩
  | panic ch => exact ⟨.panic ch, a₁, w₁, hq, .of_steps (.one h0 stepR_scope) harr⟩
  | outgrown => exact ⟨.outgrown, a₁, w₁, hq, .of_steps (.one h0 stepR_scope) harr⟩
end

section
variable {P : Program} {σ : Store} {r : Option Nat} {nt : Nat}
def noGo (Q : AE → Env → Store → Prop) : AE → Env → Store → Prop
  | .goto _, _, _ => False
  | e, env, σ => Q e env σ
/-- A scope through which no jump goes. -/
theorem sc {c : Code} {env : Env} {Q : AE → Env → Store → Prop} (h : AWp P r nt c env σ (noGo Q)) : AWp P r nt (.scope c) env σ Q := by
  intro M w a B hc he hd
  refine wpIn_scope (wpIn_mono (h M w a B hc he hd) ?_)
  rintro e a' w' ⟨M2, env2, σ2, ae, h1, h2, h3, h4, h5, h6⟩
  cases e with
  | goto l => cases ae <;> simp only [AER] at h5; exact h6.elim
  | normal => cases ae <;> simp only [AER] at h5; exact ⟨M2, env2, σ2, .normal, h1, h2, h3, h4, trivial, h6⟩
  | exit i => cases ae <;> simp only [AER] at h5; exact ⟨M2, env2, σ2, .exit _, h1, h2, h3, h4, h5, h6⟩
  | ret => cases ae <;> simp only [AER] at h5; exact ⟨M2, env2, σ2, .ret, h1, h2, h3, h4, trivial, h6⟩
  | panic ch =>
    cases ae with
    | pan d => exact ⟨M2, env2, σ2, .pan d, h1, h2, h3, h4, h5, h6⟩
    | _ => cases ch <;> simp only [AER] at h5
  | outgrown => cases ae <;> simp only [AER] at h5
theorem lb {l : Nat} {env : Env} {Q : AE → Env → Store → Prop} (h : Q .normal env σ) : AWp P r nt (.label l) env σ Q :=
  fun _ _ _ _ hc he hd => wpIn_label (rgPost.here hc he hd (ae := .normal) trivial h)
end

end Go.Proofs.YtjjkgeeafjagkaaGreat
/- Own layer, part 26: laws whose arguments are no longer than memory. -/
namespace Go.Proofs.YtjjkgeeafjagkaaGreat
open Go Go.RowKit Go.ChangeShapes Go.WideShapes
set_option linter.unusedSimpArgs false
set_option linter.unusedVariables false

section
variable {H : Type} {enc : TypeId × Value → H} {P : Program} {w : World}

theorem trod_slice {sp : Nat → Bool} {hd : Bool} {base : Nat} {t e : TypeId} {a : Option Addr} {len cap : Nat} {d : DataW H} {ps : List MemPlace} (hu : P.underlying t = some (.slice e)) (h : DataW.Trod enc P w base sp hd t (.slice a len cap) d ps) :
    len = 0 ∨ ∃ elems spare, d = .slice elems spare ∧ elems.length = len := by
  obtain ⟨fuel, h⟩ := h
  cases fuel with
  | zero => simp [DataW.trod] at h
  | succ fuel =>
    unfold DataW.trod at h
    have e1 : (Value.slice a len cap).cells.toList = [.slice a len cap] := rfl
    rw [e1] at h
    simp only [hu] at h
    split at h <;> first | (cases h; done) | (rename_i heq; cases heq; done) | (rename_i heq _; cases heq; done) | (rename_i heq _ _; cases heq; done) | skip
    · rename_i heq; cases heq; exact .inl rfl
    · rename_i e2 a1 len1 cap1 heq
      cases heq
      split at h
      · simp only [Option.bind_eq_some_iff, Option.map_eq_some_iff] at h
        obtain ⟨elems, hel, rest, _, hx⟩ := h
        have hl := (mapM_get hel).1
        cases hx
        exact .inr ⟨_, _, rfl, by simp [hl]⟩
      · cases h

theorem short_all {base : Nat} : ∀ {ts : List TypeId} {vs : List Value} {dds : List (DataW H)} {ps : List MemPlace} {Ds : List D}, (∀ (j : Nat) (t : TypeId) (v : Value), ts[j]? = some t → vs[j]? = some v → Value.okWide P w .any base t v) →
    DataW.TrodAll enc P w 0 (fun _ => true) true ts vs dds ps → RAll (wholeMem w) Ds vs →
    ∀ (j : Nat) (t e : TypeId) (sz : Nat) (rows : List (List D)) (tk : Tok), ts[j]? = some t → P.underlying t = some (.slice e) → Ds[j]? = some (.sl sz rows tk) → rows.length = 0 ∨ ∃ elems spare, dds[j]? = some (.slice elems spare) ∧ elems.length = rows.length
  | t0 :: ts, v :: vs, dd :: dds, ps, d :: Ds, hv, ⟨p, q, h1, h2, _⟩, hr, 0, t, e, sz, rows, tk, ht, hu, hd => by
    simp only [RAll] at hr
    simp only [List.getElem?_cons_zero, Option.some.injEq] at ht hd
    subst ht
    subst hd
    obtain ⟨a, b, c, rfl⟩ := okWide_slice hu (hv 0 t0 v rfl rfl)
    have hr1 := hr.1
    simp only [R] at hr1
    obtain ⟨p1, cap1, e1, -⟩ := hr1
    cases e1
    rcases trod_slice hu h1 with h | ⟨elems, spare, rfl, hl⟩
    · exact .inl h
    · exact .inr ⟨elems, spare, rfl, hl⟩
  | t0 :: ts, v :: vs, dd :: dds, ps, d :: Ds, hv, ⟨p, q, h1, h2, _⟩, hr, j + 1, t, e, sz, rows, tk, ht, hu, hd => by
    simp only [RAll] at hr
    simp only [List.getElem?_cons_succ] at ht hd ⊢
    exact short_all (fun j u x hu hx => hv (j + 1) u x (by simpa using hu) (by simpa using hx)) h2 hr.2 j t e sz rows tk ht hu hd
  | [], _, _, _, _, _, _, _, j, _, _, _, _, _, ht, _, _ => by simp at ht
  | _ :: _, [], _, _, _, _, h, _, _, _, _, _, _, _, _, _, _ => by cases ‹List (DataW H)› <;> exact h.elim
  | _ :: _, _ :: _, [], _, _, _, h, _, _, _, _, _, _, _, _, _, _ => h.elim
  | _ :: _, _ :: _, _ :: _, _, [], _, _, hr, _, _, _, _, _, _, _, _, _ => by simp [RAll] at hr

/-- The arguments' slices are no longer than memory. -/
def Short (P : Program) (ts : List TypeId) (Ds : List D) : Prop := ∀ (j : Nat) (t e : TypeId) (sz : Nat) (rows : List (List D)) (tk : Tok), ts[j]? = some t → P.underlying t = some (.slice e) → Ds[j]? = some (.sl sz rows tk) → rows.length * P.bytesOf e ≤ reachBytes

theorem law_rowS {f : FuncId} {fn : Func} {s : ChangeSpec} {apart fresh handsOn again : Bool} {tb : TypeId} (n : Nat) (hl : laidOutB P = true) (hf : P.funcs[f]? = some fn) (hbody : fn.body.isNone = false) (hname : (fn.name == "runtime.NumGoroutine") = false)
    (hvars : s.vars = []) (hres : fn.resultTypes = #[tb]) (htb : P.underlying tb = some .bool)
    (hps : (fn.params.toList.all fun t => plainT P n t && P.readableRec t && decide (t < P.types.size)) = true) (hsf : ∀ ds : List (DataW H), ds.length = fn.params.toList.length → s.fn H ds = { results := [.lit (.bool true)], args := ds })
    (hlaw : ∀ Ds, ArgSh P n fn.params.toList Ds → Short P fn.params.toList Ds → PCall P (.func f) Ds (.bool true))
    {W : World} {base : Nat} {args : Array Value} {ds gs : List (DataW H)} {before : List MemPlace} (hval : ∀ (j : Nat) t v, fn.params[j]? = some t → args[j]? = some v → Value.okWide P W .any base t v)
    (hW : DataW.Whole enc P fn.params.toList s.vars apart W args.toList ds gs before) {us : List TypeId} (hz : (DataW.weightsEach P (fn.params.toList ++ us) (ds ++ gs)).all (· ≤ reachBytes) = true) :
    Calls P f args W fun e W' => ∃ v, e = .returned v ∧ s.post enc P fn apart fresh handsOn again W args v W' := by
  have hps' : ∀ t ∈ fn.params.toList, plainT P n t = true ∧ P.readableRec t = true ∧ t < P.types.size := fun t ht => by
    rw [List.all_eq_true] at hps
    have := hps t ht
    simp only [Bool.and_eq_true, decide_eq_true_eq] at this
    exact ⟨this.1.1, this.1.2, this.2⟩
  have hW' := hW
  obtain ⟨p, q, hA, hV, hbe, hfz, hnd⟩ := hW
  have hval' : ∀ (j : Nat) (t : TypeId) (v : Value), fn.params.toList[j]? = some t → args.toList[j]? = some v → Value.okWide P W .any base t v := fun j t v ht hv => hval j t v (by simpa using ht) (by simpa using hv)
  obtain ⟨Ds, hR, hS⟩ := args_good (fun t ht => (hps' t ht).1) hval' hA
  have hlen : ds.length = fn.params.toList.length := trodAll_len hA
  have hsh : Short P fn.params.toList Ds := by
    intro j t e sz rows tk ht hu hd
    rcases short_all hval' hA hR j t e sz rows tk ht hu hd with h | ⟨elems, spare, h1, h2⟩
    · rw [h, Nat.zero_mul]; exact Nat.zero_le _
    · have hj : j < fn.params.toList.length := (List.getElem?_eq_some_iff.1 ht).1
      have := sized_slice hz (j := j) (t := t) (e := e) (elems := elems) (spare := spare) (by rw [List.getElem?_append_left hj]; exact ht) (by rw [List.getElem?_append_left (by omega)]; exact h1) hu
      rw [← h2]
      exact Nat.le_trans (Nat.mul_le_mul_right _ (Nat.le_add_right _ _)) this
  have hc := hlaw Ds hS hsh (wholeMem W) W args.toList (Conc.whole W) hR
  rcases hc with ⟨_, hc⟩ | ⟨v, w', hc, _⟩
  · refine (callsIn_wide.1 hc).mono fun e W' ⟨M', σ', r, st, _, hr, e1, e2⟩ => ?_
    subst e1
    cases e with
    | returned v =>
      simp only [ResR, R] at hr
      subst hr
      exact ⟨_, rfl, law_post hl hvars hres htb (fun t ht => (hps' t ht).2) (hsf ds hlen) hW' st.below⟩
    | panicked l => simp [ResR] at hr
    | outgrown => simp [ResR] at hr
  · have := callFunc_enter (w := W) hf hbody hname (List.toArray args.toList)
    rw [this] at hc
    cases hc
end

end Go.Proofs.YtjjkgeeafjagkaaGreat
/- Own layer, part 29: arguments of recursive types. -/
namespace Go.Proofs.YtjjkgeeafjagkaaGreat
open Go Go.RowKit Go.ChangeShapes Go.WideShapes
set_option linter.unusedSimpArgs false
set_option linter.unusedVariables false

/-- One level of a type of plain data, whose parts' types are of a kind. -/
def plain1 (P : Program) (C : TypeId → Bool) (t : TypeId) : Bool := match P.underlying t with
  | some .bool | some (.int _) | some .string => P.cellsOf t == 1
  | some (.slice e) => P.cellsOf t == 1 && decide (0 < P.cellsOf e) && C e
  | some (.struct fs) => contig P 0 fs.toList (P.cellsOf t) && fs.toList.all fun f => C f.type
  | some (.array k e) => k * P.cellsOf e == P.cellsOf t && C e
  | _ => false
/-- Types of plain data that are made of each other. -/
def closedT (P : Program) (ts : List TypeId) : Bool := ts.all fun t => plain1 P (fun e => ts.contains e) t

section
variable {H : Type} {enc : TypeId × Value → H} {P : Program} {w : World} {spare : Nat → Bool} {held : Bool} {C : TypeId → Bool}
theorem good_fieldsC {n fuel : Nat} (ih : ∀ t cs x, C t = true → DataW.trod enc P w 0 spare held fuel t cs = some x → GoodRow P w n t cs) {cs : List Value} :
    ∀ (fs : List Field) (off N : Nat), contig P off fs N = true → (fs.all fun f => C f.type) = true → cs.length = N →
      (∀ f ∈ fs, ∃ y, DataW.trod enc P w 0 spare held fuel f.type ((cs.drop f.offset).take (P.cellsOf f.type)) = some y) →
      ∃ ds, RAll (wholeMem w) ds (cs.drop off) ∧ ShF (Sh P n) fs ds ∧ ds.all D.isCell = true
  | [], off, N, hc, _, hl, _ => by
    simp only [contig, beq_iff_eq] at hc
    exact ⟨[], by rw [List.drop_eq_nil_of_le (by omega)]; simp [RAll], rfl, rfl⟩
  | f :: fs, off, N, hc, hp, hl, hf => by
    simp only [contig, Bool.and_eq_true, beq_iff_eq] at hc
    simp only [List.all_cons, Bool.and_eq_true] at hp
    obtain ⟨y, hy⟩ := hf f (by simp)
    obtain ⟨d1, r1, s1, l1, c1⟩ := ih _ _ _ hp.1 hy
    obtain ⟨d2, r2, s2, c2⟩ := good_fieldsC ih fs (off + P.cellsOf f.type) N hc.2 hp.2 hl (fun g hg => hf g (List.mem_cons_of_mem _ hg))
    rw [hc.1] at r1 l1
    have hd1 : d1.length = P.cellsOf f.type := by rw [r1.length]; exact l1
    refine ⟨d1 ++ d2, RAll_split (by rw [hd1]; exact r1) (by rw [hd1, List.drop_drop]; exact r2), ⟨d1, d2, rfl, s1, s2⟩, by simp [c1, c2]⟩

theorem good_elemsC {n fuel : Nat} {e : TypeId} (hp : C e = true) (ih : ∀ t cs x, C t = true → DataW.trod enc P w 0 spare held fuel t cs = some x → GoodRow P w n t cs) {cs : List Value} :
    ∀ (k i : Nat), cs.length = (i + k) * P.cellsOf e → (∀ j, i ≤ j → j < i + k → ∃ y, DataW.trod enc P w 0 spare held fuel e ((cs.drop (j * P.cellsOf e)).take (P.cellsOf e)) = some y) →
      ∃ ds, RAll (wholeMem w) ds (cs.drop (i * P.cellsOf e)) ∧ ShN (Sh P n e) k ds ∧ ds.all D.isCell = true
  | 0, i, hl, _ => ⟨[], by rw [List.drop_eq_nil_of_le (by simp at hl; omega)]; simp [RAll], rfl, rfl⟩
  | k + 1, i, hl, hf => by
    obtain ⟨y, hy⟩ := hf i (Nat.le_refl _) (by omega)
    obtain ⟨d1, r1, s1, l1, c1⟩ := ih _ _ _ hp hy
    obtain ⟨d2, r2, s2, c2⟩ := good_elemsC hp ih k (i + 1) (by rw [hl]; congr 1; omega) (fun j h1 h2 => hf j (by omega) (by omega))
    have hd1 : d1.length = P.cellsOf e := by rw [r1.length]; exact l1
    refine ⟨d1 ++ d2, RAll_split (by rw [hd1]; exact r1) (by rw [hd1, List.drop_drop, show i * P.cellsOf e + P.cellsOf e = (i + 1) * P.cellsOf e by rw [Nat.add_mul, Nat.one_mul]]; exact r2), ⟨d1, d2, rfl, s1, s2⟩, by simp [c1, c2]⟩

theorem good_rowsC {n fuel : Nat} {e : TypeId} (hp : C e = true) (hc : 0 < P.cellsOf e) (ih : ∀ t cs x, C t = true → DataW.trod enc P w 0 spare held fuel t cs = some x → GoodRow P w n t cs) {b o : Nat} :
    ∀ (k i : Nat), (∀ j, i ≤ j → j < i + k → ∃ row y, w.cells? 0 ((⟨b, o, none⟩ : Addr).add (j * P.cellsOf e)) (P.cellsOf e) = some row ∧ DataW.trod enc P w 0 spare held fuel e row = some y) →
      ∃ rows, rows.length = k ∧ (∀ r ∈ rows, Sh P n e r) ∧ RRows (wholeMem w) (P.cellsOf e) rows b (o + i * P.cellsOf e)
  | 0, i, _ => ⟨[], rfl, by simp, by simp [RRows]⟩
  | k + 1, i, hf => by
    obtain ⟨row, y, h1, h2⟩ := hf i (Nat.le_refl _) (by omega)
    obtain ⟨ds, r1, s1, l1, c1⟩ := ih _ _ _ hp h2
    obtain ⟨rows, q1, q2, q4⟩ := good_rowsC hp hc ih (b := b) (o := o) k (i + 1) (fun j g1 g2 => hf j (by omega) (by omega))
    obtain ⟨z1, z2, z3⟩ := cells_get hc h1
    rw [addr_add] at z3
    refine ⟨ds :: rows, by simp [q1], fun r hr => ?_, ?_⟩
    · rcases List.mem_cons.1 hr with rfl | hr
      · exact s1
      · exact q2 r hr
    · simp only [RRows]
      exact ⟨by rw [r1.length]; exact l1, RCells_of _ _ _ r1 z3, by rw [Nat.add_assoc, show i * P.cellsOf e + P.cellsOf e = (i + 1) * P.cellsOf e by rw [Nat.add_mul, Nat.one_mul]]; exact q4⟩

/-- WHAT IS TROD IS PLAIN DATA, as deep as it was trod. -/
theorem good_trodC {ts : List TypeId} (hts : closedT P ts = true) : ∀ (fuel : Nat) (t : TypeId) (cs : List Value) (x : DataW H × List MemPlace), ts.contains t = true → DataW.trod enc P w 0 spare held fuel t cs = some x → GoodRow P w fuel t cs
  | 0, t, _, _, _, h => by simp [DataW.trod] at h
  | fuel + 1, t, cs, x, hp, h => by
    have ih := good_trodC hts fuel
    have hp : plain1 P (fun e => ts.contains e) t = true := by
      unfold closedT at hts
      rw [List.all_eq_true] at hts
      exact hts t (by simpa using hp)
    unfold plain1 at hp
    unfold DataW.trod at h
    split at hp
    · rename_i hu
      simp only [beq_iff_eq] at hp
      simp only [hu] at h
      split at h <;> first | (cases h; done) | (rename_i heq; cases heq; done) | (rename_i heq _; cases heq; done) | (rename_i heq _ _; cases heq; done) | skip
      exact good_one (d := .bool _) R_bool rfl (by unfold Sh; simp only [hu]; exact ⟨_, rfl⟩) hp
    · rename_i k hu
      simp only [beq_iff_eq] at hp
      simp only [hu] at h
      split at h <;> first | (cases h; done) | (rename_i heq; cases heq; done) | (rename_i heq _; cases heq; done) | (rename_i heq _ _; cases heq; done) | skip
      rename_i k1 k2 x1 heq
      cases heq
      split at h
      · rename_i hk
        obtain ⟨rfl, hwf⟩ := hk
        simp only [Lit.wf, Bool.and_eq_true, decide_eq_true_eq] at hwf
        exact good_one (d := .int _ _) (R_int hwf) rfl (by unfold Sh; simp only [hu]; exact ⟨_, rfl⟩) hp
      · cases h
    · rename_i hu
      simp only [beq_iff_eq] at hp
      simp only [hu] at h
      split at h <;> first | (cases h; done) | (rename_i heq; cases heq; done) | (rename_i heq _; cases heq; done) | (rename_i heq _ _; cases heq; done) | skip
      rename_i s1 heq
      split at h
      · rename_i hl
        cases s1 with
        | mk dd =>
          cases dd with
          | mk ll =>
            refine good_one (d := .str ll) (R_str ?_) rfl (by unfold Sh; simp only [hu]; exact ⟨_, rfl⟩) hp
            have : ll.length ≤ maxLen := hl
            simpa [lim, maxLen] using this
      · cases h
    · rename_i e hu
      simp only [Bool.and_eq_true, beq_iff_eq, decide_eq_true_eq] at hp
      obtain ⟨⟨hp1, hp2⟩, hp3⟩ := hp
      simp only [hu] at h
      split at h <;> first | (cases h; done) | (rename_i heq; cases heq; done) | (rename_i heq _; cases heq; done) | (rename_i heq _ _; cases heq; done) | skip
      · refine good_one (d := .sl (P.cellsOf e) [] .no) ?_ rfl (by unfold Sh; simp only [hu]; exact ⟨[], rfl, by simp⟩) hp1
        simp only [R]
        exact ⟨none, 0, rfl, by simp, by simp, by simp, trivial⟩
      · rename_i e1 a1 len cap heq
        cases heq
        split at h
        · rename_i hb
          obtain ⟨_, hb2, hb3⟩ := hb
          simp only [Option.bind_eq_some_iff] at h
          obtain ⟨elems, hel, _⟩ := h
          have each : ∀ j, j < len → ∃ row y, w.cells? 0 (a1.add (j * P.cellsOf e)) (P.cellsOf e) = some row ∧ DataW.trod enc P w 0 spare held fuel e row = some y := by
            intro j hj
            obtain ⟨y, hy⟩ := (mapM_get hel).2 j j (by simp [hj])
            simp only [Option.bind_eq_some_iff] at hy
            obtain ⟨row, h1, h2⟩ := hy
            exact ⟨row, y, h1, h2⟩
          have hlim : len ≤ lim := by have : maxLen = lim := rfl; omega
          rcases Nat.eq_zero_or_pos len with rfl | hpos
          · refine good_one (d := .sl (P.cellsOf e) [] .no) ?_ rfl (by unfold Sh; simp only [hu]; exact ⟨[], rfl, by simp⟩) hp1
            simp only [R]
            exact ⟨some a1, cap, rfl, by simp, by simp, by simp, trivial⟩
          · have hsp : a1.spot = none := by
              obtain ⟨row, y, h1, _⟩ := each 0 hpos
              rw [Nat.zero_mul] at h1
              exact (cells_get hp2 h1).1
            cases a1 with
            | mk b o sp =>
              simp only at hsp
              subst hsp
              obtain ⟨rows, q1, q2, q4⟩ := good_rowsC hp3 hp2 ih (b := b) (o := o) len 0 (fun j _ hj => each j (by omega))
              subst q1
              refine good_one (d := .sl (P.cellsOf e) rows .no) ?_ rfl (by unfold Sh; simp only [hu]; exact ⟨rows, rfl, q2⟩) hp1
              simp only [R]
              rw [Nat.zero_mul, Nat.add_zero] at q4
              exact ⟨_, cap, rfl, hb2, hlim, fun _ => ⟨b, o, rfl, q4⟩, trivial⟩
        · cases h
    · rename_i fs hu
      simp only [Bool.and_eq_true] at hp
      simp only [hu] at h
      split at h <;> first | (cases h; done) | (rename_i heq; cases heq; done) | (rename_i heq _; cases heq; done) | (rename_i heq _ _; cases heq; done) | skip
      · rename_i hl
        simp only [Option.map_eq_some_iff] at h
        obtain ⟨xs, hxs, _⟩ := h
        obtain ⟨ds, r1, s1, c1⟩ := good_fieldsC ih fs.toList 0 (P.cellsOf t) hp.1 hp.2 hl (fun f hf => by
          obtain ⟨i, hi, e⟩ := List.getElem_of_mem hf
          exact (mapM_get hxs).2 i f (by rw [List.getElem?_eq_getElem hi, e]))
        exact ⟨ds, by simpa using r1, by unfold Sh; simp only [hu]; exact s1, hl, c1⟩
    · rename_i k e hu
      simp only [Bool.and_eq_true, beq_iff_eq] at hp
      simp only [hu] at h
      split at h <;> first | (cases h; done) | (rename_i heq; cases heq; done) | (rename_i heq _; cases heq; done) | (rename_i heq _ _; cases heq; done) | skip
      · rename_i hl
        simp only [Option.map_eq_some_iff] at h
        obtain ⟨xs, hxs, _⟩ := h
        obtain ⟨ds, r1, s1, c1⟩ := good_elemsC hp.2 ih k 0 (by rw [hl, Nat.zero_add]; exact hp.1.symm) (fun j _ hj => (mapM_get hxs).2 j j (List.getElem?_range (by omega)))
        exact ⟨ds, by simpa using r1, by unfold Sh; simp only [hu]; exact s1, hl, c1⟩
    · cases hp
end
section
variable {H : Type} {enc : TypeId × Value → H} {P : Program} {w : World}
def ArgShC (P : Program) : List TypeId → List D → Prop
  | [], [] => True
  | t :: ts, d :: ds => (∃ n, ArgD P n t d) ∧ ArgShC P ts ds
  | _, _ => False
theorem arg_goodC {ts : List TypeId} (hts : closedT P ts = true) {t : TypeId} {v : Value} {dd : DataW H} {ps : List MemPlace} {base : Nat} (hp : ts.contains t = true) (hval : Value.okWide P w .any base t v) (h : DataW.Trod enc P w 0 (fun _ => true) true t v dd ps) :
    ∃ d, R (wholeMem w) d v ∧ ∃ n, ArgD P n t d := by
  obtain ⟨fuel, h⟩ := h
  obtain ⟨ds, r1, s1, l1, c1⟩ := good_trodC hts fuel t _ _ hp h
  have hp : plain1 P (fun e => ts.contains e) t = true := by
    unfold closedT at hts
    rw [List.all_eq_true] at hts
    exact hts t (by simpa using hp)
  cases fuel with
  | zero => simp [DataW.trod] at h
  | succ n =>
    have one : ∀ (hv : v.cells = #[v]) (hns : ∀ fs, P.underlying t ≠ some (.struct fs)) (hna : ∀ k e, P.underlying t ≠ some (.array k e)), ∃ d, R (wholeMem w) d v ∧ ∃ n, ArgD P n t d := by
      intro hv hns hna
      rw [hv] at r1
      cases ds with
      | nil => simp [RAll] at r1
      | cons d ds =>
        cases ds with
        | cons _ _ => simp [RAll] at r1
        | nil =>
          simp only [RAll, and_true] at r1
          refine ⟨d, r1, n + 1, ?_⟩
          unfold ArgD
          split
          · rename_i fs hu; exact absurd hu (hns fs)
          · rename_i k e hu; exact absurd hu (hna k e)
          · exact s1
    unfold plain1 at hp
    split at hp
    · rename_i hu
      obtain ⟨b, rfl⟩ := okWide_bool hu hval
      exact one rfl (fun fs => by rw [hu]; simp) (fun k e => by rw [hu]; simp)
    · rename_i k hu
      obtain ⟨b, rfl⟩ := okWide_int hu hval
      exact one rfl (fun fs => by rw [hu]; simp) (fun k e => by rw [hu]; simp)
    · rename_i hu
      obtain ⟨b, rfl⟩ := okWide_string hu hval
      exact one rfl (fun fs => by rw [hu]; simp) (fun k e => by rw [hu]; simp)
    · rename_i e hu
      obtain ⟨a, b, c, rfl⟩ := okWide_slice hu hval
      exact one rfl (fun fs => by rw [hu]; simp) (fun k e => by rw [hu]; simp)
    · rename_i fs hu
      unfold Value.okWide at hval
      simp only [hu] at hval
      obtain ⟨cs, rfl, _⟩ := hval
      refine ⟨.ag ds, by simp only [R]; exact ⟨cs.toList, by simp, r1⟩, n + 1, ?_⟩
      unfold ArgD
      simp only [hu]
      exact ⟨ds, rfl, s1⟩
    · rename_i k e hu
      unfold Value.okWide at hval
      simp only [hu] at hval
      obtain ⟨cs, rfl, _⟩ := hval
      refine ⟨.ag ds, by simp only [R]; exact ⟨cs.toList, by simp, r1⟩, n + 1, ?_⟩
      unfold ArgD
      simp only [hu]
      exact ⟨ds, rfl, s1⟩
    · cases hp

theorem args_goodC {us : List TypeId} (hts : closedT P us = true) {base : Nat} : ∀ {ts : List TypeId} {vs : List Value} {dds : List (DataW H)} {ps : List MemPlace}, (∀ t ∈ ts, us.contains t = true) →
    (∀ (j : Nat) (t : TypeId) (v : Value), ts[j]? = some t → vs[j]? = some v → Value.okWide P w .any base t v) → DataW.TrodAll enc P w 0 (fun _ => true) true ts vs dds ps → ∃ ds, RAll (wholeMem w) ds vs ∧ ArgShC P ts ds
  | [], [], [], _, _, _, _ => ⟨[], by simp [RAll], trivial⟩
  | t :: ts, v :: vs, dd :: dds, ps, hp, hv, ⟨p, q, h1, h2, _⟩ => by
    obtain ⟨d, r1, a1⟩ := arg_goodC hts (hp t (by simp)) (hv 0 t v rfl rfl) h1
    obtain ⟨ds, r2, a2⟩ := args_goodC hts (fun u hu => hp u (List.mem_cons_of_mem _ hu)) (fun j u x hu hx => hv (j + 1) u x (by simpa using hu) (by simpa using hx)) h2
    exact ⟨d :: ds, by simp only [RAll]; exact ⟨r1, r2⟩, a1, a2⟩
  | [], _ :: _, _, _, _, _, h => h.elim
  | [], [], _ :: _, _, _, _, h => h.elim
  | _ :: _, [], _, _, _, _, h => h.elim
  | _ :: _, _ :: _, [], _, _, _, h => h.elim

/-- A LAW's ROW: whatever the arguments, true; they read as they did. -/
theorem law_rowC {f : FuncId} {fn : Func} {s : ChangeSpec} {apart fresh handsOn again : Bool} {tb : TypeId} (us : List TypeId) (hts : closedT P us = true) (hl : laidOutB P = true) (hf : P.funcs[f]? = some fn) (hbody : fn.body.isNone = false) (hname : (fn.name == "runtime.NumGoroutine") = false)
    (hvars : s.vars = []) (hres : fn.resultTypes = #[tb]) (htb : P.underlying tb = some .bool)
    (hps : (fn.params.toList.all fun t => us.contains t && P.readableRec t && decide (t < P.types.size)) = true) (hsf : ∀ ds : List (DataW H), ds.length = fn.params.toList.length → s.fn H ds = { results := [.lit (.bool true)], args := ds })
    (hlaw : ∀ Ds, ArgShC P fn.params.toList Ds → PCall P (.func f) Ds (.bool true))
    {W : World} {base : Nat} {args : Array Value} {ds gs : List (DataW H)} {before : List MemPlace} (hval : ∀ (j : Nat) t v, fn.params[j]? = some t → args[j]? = some v → Value.okWide P W .any base t v)
    (hW : DataW.Whole enc P fn.params.toList s.vars apart W args.toList ds gs before) : Calls P f args W fun e W' => ∃ v, e = .returned v ∧ s.post enc P fn apart fresh handsOn again W args v W' := by
  have hps' : ∀ t ∈ fn.params.toList, us.contains t = true ∧ P.readableRec t = true ∧ t < P.types.size := fun t ht => by
    rw [List.all_eq_true] at hps
    have := hps t ht
    simp only [Bool.and_eq_true, decide_eq_true_eq] at this
    exact ⟨this.1.1, this.1.2, this.2⟩
  have hW' := hW
  obtain ⟨p, q, hA, hV, hbe, hfz, hnd⟩ := hW
  obtain ⟨Ds, hR, hS⟩ := args_goodC hts (fun t ht => (hps' t ht).1) (fun j t v ht hv => hval j t v (by simpa using ht) (by simpa using hv)) hA
  have hlen : ds.length = fn.params.toList.length := trodAll_len hA
  have hc := hlaw Ds hS (wholeMem W) W args.toList (Conc.whole W) hR
  rcases hc with ⟨_, hc⟩ | ⟨v, w', hc, _⟩
  · refine (callsIn_wide.1 hc).mono fun e W' ⟨M', σ', r, st, _, hr, e1, e2⟩ => ?_
    subst e1
    cases e with
    | returned v =>
      simp only [ResR, R] at hr
      subst hr
      exact ⟨_, rfl, law_post hl hvars hres htb (fun t ht => (hps' t ht).2) (hsf ds hlen) hW' st.below⟩
    | panicked l => simp [ResR] at hr
    | outgrown => simp [ResR] at hr
  · have := callFunc_enter (w := W) hf hbody hname (List.toArray args.toList)
    rw [this] at hc
    cases hc

theorem law_rowSC {f : FuncId} {fn : Func} {s : ChangeSpec} {apart fresh handsOn again : Bool} {tb : TypeId} (us : List TypeId) (hts : closedT P us = true) (hl : laidOutB P = true) (hf : P.funcs[f]? = some fn) (hbody : fn.body.isNone = false) (hname : (fn.name == "runtime.NumGoroutine") = false)
    (hvars : s.vars = []) (hres : fn.resultTypes = #[tb]) (htb : P.underlying tb = some .bool)
    (hps : (fn.params.toList.all fun t => us.contains t && P.readableRec t && decide (t < P.types.size)) = true) (hsf : ∀ ds : List (DataW H), ds.length = fn.params.toList.length → s.fn H ds = { results := [.lit (.bool true)], args := ds })
    (hlaw : ∀ Ds, ArgShC P fn.params.toList Ds → Short P fn.params.toList Ds → PCall P (.func f) Ds (.bool true))
    {W : World} {base : Nat} {args : Array Value} {ds gs : List (DataW H)} {before : List MemPlace} (hval : ∀ (j : Nat) t v, fn.params[j]? = some t → args[j]? = some v → Value.okWide P W .any base t v)
    (hW : DataW.Whole enc P fn.params.toList s.vars apart W args.toList ds gs before) {vs : List TypeId} (hz : (DataW.weightsEach P (fn.params.toList ++ vs) (ds ++ gs)).all (· ≤ reachBytes) = true) :
    Calls P f args W fun e W' => ∃ v, e = .returned v ∧ s.post enc P fn apart fresh handsOn again W args v W' := by
  have hps' : ∀ t ∈ fn.params.toList, us.contains t = true ∧ P.readableRec t = true ∧ t < P.types.size := fun t ht => by
    rw [List.all_eq_true] at hps
    have := hps t ht
    simp only [Bool.and_eq_true, decide_eq_true_eq] at this
    exact ⟨this.1.1, this.1.2, this.2⟩
  have hW' := hW
  obtain ⟨p, q, hA, hV, hbe, hfz, hnd⟩ := hW
  have hval' : ∀ (j : Nat) (t : TypeId) (v : Value), fn.params.toList[j]? = some t → args.toList[j]? = some v → Value.okWide P W .any base t v := fun j t v ht hv => hval j t v (by simpa using ht) (by simpa using hv)
  obtain ⟨Ds, hR, hS⟩ := args_goodC hts (fun t ht => (hps' t ht).1) hval' hA
  have hlen : ds.length = fn.params.toList.length := trodAll_len hA
  have hsh : Short P fn.params.toList Ds := by
    intro j t e sz rows tk ht hu hd
    rcases short_all hval' hA hR j t e sz rows tk ht hu hd with h | ⟨elems, spare, h1, h2⟩
    · rw [h, Nat.zero_mul]; exact Nat.zero_le _
    · have hj : j < fn.params.toList.length := (List.getElem?_eq_some_iff.1 ht).1
      have := sized_slice hz (j := j) (t := t) (e := e) (elems := elems) (spare := spare) (by rw [List.getElem?_append_left hj]; exact ht) (by rw [List.getElem?_append_left (by omega)]; exact h1) hu
      rw [← h2]
      exact Nat.le_trans (Nat.mul_le_mul_right _ (Nat.le_add_right _ _)) this
  have hc := hlaw Ds hS hsh (wholeMem W) W args.toList (Conc.whole W) hR
  rcases hc with ⟨_, hc⟩ | ⟨v, w', hc, _⟩
  · refine (callsIn_wide.1 hc).mono fun e W' ⟨M', σ', r, st, _, hr, e1, e2⟩ => ?_
    subst e1
    cases e with
    | returned v =>
      simp only [ResR, R] at hr
      subst hr
      exact ⟨_, rfl, law_post hl hvars hres htb (fun t ht => (hps' t ht).2) (hsf ds hlen) hW' st.below⟩
    | panicked l => simp [ResR] at hr
    | outgrown => simp [ResR] at hr
  · have := callFunc_enter (w := W) hf hbody hname (List.toArray args.toList)
    rw [this] at hc
    cases hc
end

end Go.Proofs.YtjjkgeeafjagkaaGreat
