/- Own layer, part 24: regions where two orders matter; stores whose boxes are listed otherwise. -/
import Derived.Test.YtgccnkihonmlbaaAn
namespace Go.Proofs.Ytgccnkihonmlbaa
open Go Go.RowKit
set_option linter.unusedSimpArgs false
set_option linter.unusedVariables false

section
variable {P : Program} {M : Mem} {w : World} {σ : Store} {r : Option Nat} {nt : Nat} {ops : Array Oper} {imm : List Nat} {soft : List Nat} {gt : List (Nat × Nat)}

/-- The store may list its boxes otherwise. -/
theorem weakP {c : Code} {env : Env} (E : Env) {σ' : Store} {Q : AE → Env → Store → Prop} (hle : EnvLe E env) (hp : σ.Perm σ') (h : AWp P r nt c E σ' Q) : AWp P r nt c env σ Q := by
  intro M w a B hc he hd
  have hk : σ.keys.Perm σ'.keys := hp.map Prod.fst
  have hd' : DefOK B σ' w a.defers := by obtain ⟨hB, Ds, e, hn, hh⟩ := hd; exact ⟨hB, Ds, e, hn, fun D hD => ⟨(hh D hD).1, (hh D hD).2.1, fun hk' => (hh D hD).2.2 (hk.mem_iff.2 hk')⟩⟩
  exact wpIn_mono (h M w a B (hc.perm hp) (hle.R he) hd') (rgPost.trans ((Step.refl M w σ).perm (.refl _) hp))

/-- A call, the store's boxes listed otherwise. -/
theorem ACall.perm {f : Fn} {args : List D} {Q : Res → Store → Prop} {σ' : Store} (hp : σ.Perm σ') (h : ACall P f args σ' fun r τ' => ∃ τ, τ'.Perm τ ∧ Q r τ) : ACall P f args σ Q := by
  intro M w vs hc hr
  refine (h M w vs (hc.perm hp) hr).mono ?_
  rintro e w' ⟨M', σ1, r, s1, c1, r1, τ, hp', hq⟩
  exact ⟨M', τ, r, Step.perm hp hp' s1, c1.perm hp', r1, hq⟩
theorem RCall.perm {f : Fn} {args : List D} {α : Type} {F : α → D} {S : α → Store} {ok : α → Prop} {σ' : Store} {S' : α → Store} (h : RCall P f args σ' F S' ok) (hp : σ.Perm σ') (hp' : ∀ y, (S' y).Perm (S y)) : RCall P f args σ F S ok :=
  ACall.perm hp (ACall.mono h fun r τ' ⟨y, hy, h1, h2⟩ => ⟨S y, h2 ▸ hp' y, y, hy, h1, rfl⟩)
theorem ACall.nodupQ {f : Fn} {args : List D} {Q : Res → Store → Prop} (h : ACall P f args σ Q) : ACall P f args σ fun r τ => Q r τ ∧ τ.keys.Nodup := by
  intro M w vs hc hr
  refine (h M w vs hc hr).mono ?_
  rintro e w' ⟨M', σ1, r, s1, c1, r1, hq⟩
  exact ⟨M', σ1, r, s1, c1, r1, hq, c1.nodup⟩
theorem RCall.nodup {f : Fn} {args : List D} {α : Type} {F : α → D} {S : α → Store} {ok : α → Prop} (h : RCall P f args σ F S ok) : RCall P f args σ F S fun y => ok y ∧ (S y).keys.Nodup :=
  ACall.mono (ACall.nodupQ h) fun r τ ⟨⟨y, h1, h2, h3⟩, h4⟩ => ⟨y, ⟨h1, h3 ▸ h4⟩, h2, h3⟩
theorem callY {y : Fn} {xs : List D} {K X : D → Store → Prop} {Jt Jf : Store → Prop} (h : ACall P y xs σ fun r τ' => (r = .ret (.bool true) ∧ Jt τ') ∨ (r = .ret (.bool false) ∧ Jf τ'))
    (hk : ∀ bb τ', (bb = true → Jt τ') → (bb = false → Jf τ') → K (.bool bb) τ') : CallK P (.fn y [] []) xs K X σ := by
  unfold CallK
  refine ⟨fun _ => rfl, .inr ?_⟩
  rw [List.nil_append, List.append_nil]
  refine h.mono ?_
  rintro r σ' (⟨rfl, hj⟩ | ⟨rfl, hj⟩)
  · exact hk true σ' (fun _ => hj) (fun e => by cases e)
  · exact hk false σ' (fun e => by cases e) (fun _ => hj)
theorem nodupW {c : Code} {env : Env} {Q : AE → Env → Store → Prop} (h : σ.keys.Nodup → AWp P r nt c env σ Q) : AWp P r nt c env σ Q :=
  known fun ⟨_, _, _, hc, _⟩ => h hc.nodup
/-- A guard that is known. -/
theorem vo_gt {κ : Env → Store → Prop} {X : D → Store → Prop} {dst : Option Nat} {op : Op} {T : TypeId} {pos : String} {aft : Array Edge} {os : List Oper} {env : Env} {j : Nat} {want : Bool} (hq : quiet op = false) (hg : gq gt env j want = some true) (hs : cgs env op = true)
    (h : nev P (isImm imm dst) σ (opc env) (vK P imm gt κ X os env dst) X op) : vops P imm gt κ X (⟨dst, op, T, pos, aft, some (j, want)⟩ :: os) env σ := by
  show vop P imm gt _ env σ _ X
  unfold vop
  simp only [hq, cond_false, nv]
  unfold gq at hg
  simp only [hg]
  exact .inr ⟨fun _ => ⟨hs, h⟩, fun e => by cases e⟩
theorem vo_gf {κ : Env → Store → Prop} {X : D → Store → Prop} {dst : Option Nat} {op : Op} {T : TypeId} {pos : String} {aft : Array Edge} {os : List Oper} {env : Env} {j : Nat} {want : Bool} (hq : quiet op = false) (hg : gq gt env j want = some false)
    (h : vK P imm gt κ X os env dst (.v undef) σ) : vops P imm gt κ X (⟨dst, op, T, pos, aft, some (j, want)⟩ :: os) env σ := by
  show vop P imm gt _ env σ _ X
  unfold vop
  simp only [hq, cond_false, nv]
  unfold gq at hg
  simp only [hg]
  exact .inr ⟨(fun e => by cases e), fun _ => h⟩
/-- Different boxes of a store. -/
theorem ACall.nodup {f : Fn} {args : List D} {Q : Res → Store → Prop} (h : σ.keys.Nodup → ACall P f args σ Q) : ACall P f args σ Q :=
  fun M w vs hc hr => h hc.nodup M w vs hc hr

/-- Ways that meet again, the store listed in some order. -/
theorem jnp {α : Type} (E : α → Env) (S : α → Store) (ok : α → Prop) {x y : Code} {env : Env} {Q : AE → Env → Store → Prop}
    (h1 : AWp P r nt x env σ (thenQ (fun env' σ' => ∃ z, ok z ∧ EnvLe (E z) env' ∧ σ'.Perm (S z)) Q)) (h2 : ∀ z, ok z → AWp P r nt y (E z) (S z) Q) : AWp P r nt (.seq x y) env σ Q := by
  refine sq (h1.mono fun e env' σ' h => ?_)
  cases e with
  | normal =>
    obtain ⟨z, hz, le, hp⟩ := h
    exact weakP (E z) le hp (h2 z hz)
  | _ => exact h

def chkF (soft : List Nat) (ops : Array Oper) (F : Array Bool → Bool) : List Nat → Array Bool → Bool
  | [], listed => F listed
  | i :: is, listed => (Region.ready .any ops listed).contains i && (match ops[i]? with
      | some o => ((quiet o.op || softC soft o) && Region.free .any ops listed i) || Region.ready .any ops listed == [i]
      | none => false) && chkF soft ops F is (listed.setIfInBounds i true)

/-- Orders: where two operations stand ready, both ways. -/
inductive Tr
  | fin
  | br (i : Nat) (pi : List Nat) (ti : Tr) (k : Nat) (pk : List Nat) (tk : Tr)
def Tr.size : Tr → Nat
  | .fin => 0
  | .br _ pi ti _ _ _ => pi.length + ti.size + 1
def chkTr (soft : List Nat) (ops : Array Oper) : Tr → Array Bool → Bool
  | .fin, l => (Region.ready .any ops l).isEmpty
  | .br i pi ti k pk tk, l => Region.ready .any ops l == [i, k] && pi.length + ti.size == pk.length + tk.size && chkF soft ops (chkTr soft ops ti) pi (l.setIfInBounds i true) && chkF soft ops (chkTr soft ops tk) pk (l.setIfInBounds k true)
def non (l : List Nat) : List (Nat × Option Store) := l.map fun i => (i, none)
def SET (P : Program) (imm soft : List Nat) (gt : List (Nat × Nat)) (ops : Array Oper) (κ : Env → Store → Prop) (X : D → Store → Prop) : Tr → Env → Store → Prop
  | .fin, env, σ => κ env σ
  | .br i pi ti k pk tk, env, σ => SE P imm soft gt ops (SET P imm soft gt ops κ X ti) X (non (i :: pi)) env σ ∧ SE P imm soft gt ops (SET P imm soft gt ops κ X tk) X (non (k :: pk)) env σ

theorem napp_growN {ts : Array TypeId} {T U V : TypeId} {g : Bool} {sz by_ : Nat} {z : List D} {rows new : List (List D)} {o : Option (Nat × Nat)} {ρ : Store} {tk : Tok} {n : Nat} {K : D → Store → Prop}
    (hok : apOK rows o) (hfr : apFr o ρ) (hn : rows.length = n) (hT : ts[0]? = some T) (hV : ts[1]? = some V) (hV' : (sle P V).isSome = true) (hs : sle P T = some (U, g, sz)) (hy : eby P T = some by_) (hz : zc P U = some z)
    (hside : (z.length = sz ∧ 0 < sz ∧ 0 < by_) ∧ new.all (·.all D.isCell) = true ∧ new ≠ [] ∧ (n + new.length) * by_ ≤ capB)
    (hK : ∀ b c, b ∉ ρ.keys → K (apD sz (rows ++ new) (some (b, c))) (apS sz (n + new.length) (some (b, c)) ++ ρ)) :
    napp P (apS sz n o ++ ρ) ts (apD sz rows o) (.sl sz new tk) K := by
  subst hn
  exact napp_grow hok hfr hT hV hV' hs hy hz hside hK

/-- Operations by their numbers. -/
inductive Pk (l : List Oper) : List Nat → List Oper → Prop
  | nil : Pk l [] []
  | cons {i : Nat} {is : List Nat} {o : Oper} {os : List Oper} : l[i]? = some o → Pk l is os → Pk l (i :: is) (o :: os)
theorem Pk.map {l : List Oper} {is : List Nat} {os : List Oper} (h : Pk l is os) : is.map (fun i => l.toArray[i]?) = os.map some := by
  induction h with
  | nil => rfl
  | cons h _ ih => rw [List.map_cons, List.map_cons, ih, List.getElem?_toArray, h]
theorem SET_fin {κ : Env → Store → Prop} {X : D → Store → Prop} {env : Env} (h : κ env σ) : SET P imm soft gt ops κ X .fin env σ := h
theorem SET_br {l : List Oper} {κ : Env → Store → Prop} {X : D → Store → Prop} {env : Env} {i k : Nat} {pi pk : List Nat} {ti tk : Tr} {oi ok : List Oper} (hi : Pk l (i :: pi) oi) (hk : Pk l (k :: pk) ok)
    (h1 : vdr P imm soft gt (SET P imm soft gt l.toArray κ X ti) X oi env σ) (h2 : vdr P imm soft gt (SET P imm soft gt l.toArray κ X tk) X ok env σ) : SET P imm soft gt l.toArray κ X (.br i pi ti k pk tk) env σ :=
  ⟨SE_of_vdr hi.map h1, SE_of_vdr hk.map h2⟩

theorem SE_append {κ : Env → Store → Prop} {X : D → Store → Prop} : ∀ (c d : List (Nat × Option Store)) (env : Env) (σ : Store), SE P imm soft gt ops κ X (c ++ d) env σ = SE P imm soft gt ops (fun env σ => SE P imm soft gt ops κ X d env σ) X c env σ
  | [], d, env, σ => rfl
  | (i, q) :: c, d, env, σ => by
    have ih := fun env σ => SE_append (κ := κ) (X := X) c d env σ
    simp only [List.cons_append, SE, ih]
theorem SE_mono {κ κ' : Env → Store → Prop} {X : D → Store → Prop} (hk : ∀ env σ, κ env σ → κ' env σ) : ∀ {c : List (Nat × Option Store)} {env : Env} {σ : Store}, SE P imm soft gt ops κ X c env σ → SE P imm soft gt ops κ' X c env σ
  | [], env, σ, h => hk _ _ h
  | (i, q) :: c, env, σ, h => by
    simp only [SE] at h ⊢
    split at h
    · rename_i o ho
      cases hs : softC soft o with
      | true =>
        simp only [hs, cond_true] at h ⊢
        obtain ⟨d, h1, h2⟩ := h
        exact ⟨d, h1, SE_mono hk h2⟩
      | false =>
        simp only [hs, cond_false] at h ⊢
        cases hq : quiet o.op with
        | true =>
          simp only [hq, cond_true] at h ⊢
          exact ⟨h.1, h.2.1, SE_mono hk h.2.2⟩
        | false =>
          simp only [hq, cond_false] at h ⊢
          exact nv_mono (fun d σ' hh => ⟨hh.1, SE_mono hk hh.2⟩) h
    · exact h.elim

theorem chkF_append (F : Array Bool → Bool) : ∀ (c d : List Nat) (l : Array Bool), chkF soft ops F (c ++ d) l = chkF soft ops (fun l => chkF soft ops F d l) c l
  | [], d, l => rfl
  | i :: c, d, l => by simp only [List.cons_append, chkF, chkF_append F c d]

theorem chkF_pull (hsto : stOK ops = true) {F G : Array Bool → Bool} {j : Nat} (hFG : ∀ l, F l = true → G (l.setIfInBounds j true) = true) : ∀ {ps : List Nat} {listed : Array Bool}, chkF soft ops F ps listed = true → j ∈ Region.ready .any ops listed → j ∉ ps →
    (∀ p ∈ ps, ∃ op oj, ops[p]? = some op ∧ ops[j]? = some oj ∧ (quiet op.op || softC soft op) = true ∧ op.apart ops oj = true ∧ (isSt oj.op = false ∨ rdSt op.op = false)) ∧ chkF soft ops G ps (listed.setIfInBounds j true) = true
  | [], listed, h, _, _ => ⟨by simp, hFG _ h⟩
  | p :: ps, listed, h, hj, hn => by
    simp only [List.mem_cons, not_or] at hn
    simp only [chkF, Bool.and_eq_true] at h
    obtain ⟨⟨h1, h2⟩, h3⟩ := h
    obtain ⟨hju, oj, hoj, hall⟩ := mem_ready.1 hj
    split at h2
    · rename_i op hop
      have hpr : p ∈ Region.ready .any ops listed := by simpa using h1
      have hpu := (mem_ready.1 hpr).1
      have hqf : (quiet op.op || softC soft op) = true ∧ Region.free .any ops listed p = true := by
        rcases Bool.or_eq_true _ _ ▸ h2 with h2 | h2
        · rwa [Bool.and_eq_true] at h2
        · rw [beq_iff_eq] at h2
          rw [h2] at hj
          simp at hj
          exact absurd hj hn.1
      have hno : ∀ e ∈ oj.after, Region.binds .any e = true → e.on ≠ p := fun e he hb heq => by
        have := hall e he hb
        rw [heq] at this
        rcases Nat.lt_or_ge p listed.size with h' | h'
        · simp [h'] at this hpu; rw [hpu] at this; cases this
        · simp [Array.getElem?_eq_none h'] at this
      have hap : op.apart ops oj = true := Region.free_spec hop hqf.2 j oj hoj hn.1 hju hno
      have hso := stOK_at hsto hop hoj (fun e => hn.1 e.symm) hno
      obtain ⟨i1, i2⟩ := chkF_pull hsto hFG h3 (ready_mono hj hn.1) hn.2
      refine ⟨fun x hx => ?_, ?_⟩
      · rcases List.mem_cons.1 hx with rfl | hx
        · exact ⟨op, oj, hop, hoj, hqf.1, hap, hso⟩
        · exact i1 x hx
      · simp only [chkF, Bool.and_eq_true]
        refine ⟨⟨by simpa using ready_mono hpr (fun e => hn.1 e.symm), ?_⟩, ?_⟩
        · simp only [hop, hqf.1, free_mono hqf.2, Bool.true_and, Bool.true_or]
        · rw [Array.setIfInBounds_comm _ _ hn.1]; exact i2
    · cases h2

theorem ready_in_chkF {F : Array Bool → Bool} : ∀ {c : List Nat} {j : Nat} {listed : Array Bool}, chkF soft ops F c listed = true → j ∈ Region.ready .any ops listed → j ∉ c → ∃ l, F l = true ∧ j ∈ Region.ready .any ops l
  | [], j, listed, h, hj, _ => ⟨listed, h, hj⟩
  | i :: c, j, listed, h, hj, hn => by
    simp only [List.mem_cons, not_or] at hn
    simp only [chkF, Bool.and_eq_true] at h
    exact ready_in_chkF h.2 (ready_mono hj hn.1) hn.2

theorem any_tree (hgt : GT ops gt) {Q : AE → Env → Store → Prop} (keep : List Nat) {M0 : Mem} {w0 : World} {σ0 : Store} {a0 : Act} {B : Nat} (hok : ops.toList.all (okOp nt) = true) (hsto : stOK ops = true) : ∀ (n : Nat) (T : Tr) (c : List (Nat × Option Store)) (listed : Array Bool), c.length + T.size = n → chkF soft ops (chkTr soft ops T) (c.map Prod.fst) listed = true →
    ∀ (env : Env) (σ : Store) (M : Mem) (w : World) (a : Act),
    SE P imm soft gt ops (SET P imm soft gt ops (fun env σ => Q .normal (prune keep env) σ) (fun d σ => Q (.pan d) (fun _ => .top) σ) T) (fun d σ => Q (.pan d) (fun _ => .top) σ) c env σ →
    Conc M w σ → EnvR M nt env a → DefOK B σ0 w0 a0.defers → a.defers = a0.defers → Step M0 w0 σ0 M w σ → wpAnyIn (WF r) 0 P .any ops (rgPost M0 w0 σ0 nt B Q) n listed a w
  | 0, T, c, listed, hl, hck, env, σ, M, w, a, h, hc, he, hd, hda, hs => by
    have hnil : c = [] := List.eq_nil_of_length_eq_zero (by omega)
    subst hnil
    cases T with
    | br => simp only [Tr.size] at hl; omega
    | fin =>
      simp only [List.map_nil, chkF, chkTr, List.isEmpty_iff] at hck
      exact ⟨hck, M, _, σ, .normal, hs, hc, he.prune keep, hda ▸ hd.step hs, trivial, h⟩
  | n + 1, T, c, listed, hl, hck, env, σ, M, w, a, h, hc, he, hd, hda, hs => by
    refine ⟨fun h0 => ?_, fun j hj => ?_⟩
    · cases c with
      | nil =>
        cases T with
        | fin => simp [Tr.size] at hl
        | br i pi ti k pk tk =>
          simp only [List.map_nil, chkF, chkTr, h0, Bool.and_eq_true] at hck
          simp at hck
      | cons i c =>
        simp only [List.map_cons, chkF, Bool.and_eq_true, h0] at hck
        simp at hck
    · obtain ⟨cs1, qj, c3, T', p1, hck0, hse, hlen0⟩ : ∃ (cs1 : List (Nat × Option Store)) (qj : Option Store) (c3 : List (Nat × Option Store)) (T' : Tr),
          (∀ p ∈ cs1.map Prod.fst, ∃ op oj, ops[p]? = some op ∧ ops[j]? = some oj ∧ (quiet op.op || softC soft op) = true ∧ op.apart ops oj = true ∧ (isSt oj.op = false ∨ rdSt op.op = false)) ∧
          chkF soft ops (chkTr soft ops T') (cs1.map Prod.fst ++ c3.map Prod.fst) (listed.setIfInBounds j true) = true ∧
          SE P imm soft gt ops (SET P imm soft gt ops (fun env σ => Q .normal (prune keep env) σ) (fun d σ => Q (.pan d) (fun _ => .top) σ) T') (fun d σ => Q (.pan d) (fun _ => .top) σ) (cs1 ++ (j, qj) :: c3) env σ ∧
          cs1.length + c3.length + T'.size = n := by
        by_cases hm : j ∈ c.map Prod.fst
        · obtain ⟨ps, rest, hsplit, hnot⟩ := List.eq_append_cons_of_mem hm
          obtain ⟨cs1, c2, rfl, hc1, hc2⟩ := List.map_eq_append_iff.1 hsplit
          cases c2 with
          | nil => simp at hc2
          | cons jq c3 =>
            obtain ⟨j', qj⟩ := jq
            simp only [List.map_cons, List.cons.injEq] at hc2
            obtain ⟨rfl, hc3⟩ := hc2
            rw [hsplit, chkF_append] at hck
            obtain ⟨p1, p2⟩ := chkF_pull (G := fun l => chkF soft ops (chkTr soft ops T) rest l) hsto (fun l hl => by simp only [chkF, Bool.and_eq_true] at hl; exact hl.2) hck hj hnot
            rw [← chkF_append] at p2
            refine ⟨cs1, qj, c3, T, hc1 ▸ p1, ?_, h, ?_⟩
            · rw [hc1, hc3]; exact p2
            · simp only [List.length_append, List.length_cons] at hl; omega
        · obtain ⟨l, hFl, hjl⟩ := ready_in_chkF hck hj hm
          cases T with
          | fin =>
            simp only [chkTr, List.isEmpty_iff] at hFl
            rw [hFl] at hjl; simp at hjl
          | br i pi ti k pk tk =>
            have hFl' := hFl
            simp only [chkTr, Bool.and_eq_true, beq_iff_eq] at hFl'
            obtain ⟨⟨⟨e1, e2⟩, -⟩, -⟩ := hFl'
            rw [e1] at hjl
            simp only [Tr.size] at hl
            have hnl : ∀ x : List Nat, (non x).map Prod.fst = x := fun x => by simp [non, Function.comp_def]
            simp only [List.mem_cons, List.not_mem_nil, or_false] at hjl
            rcases hjl with rfl | rfl
            · obtain ⟨p1, p2⟩ := chkF_pull (G := fun l => chkF soft ops (chkTr soft ops ti) pi l) hsto (fun l hl => by simp only [chkTr, Bool.and_eq_true] at hl; exact hl.1.2) hck hj hm
              rw [← chkF_append] at p2
              refine ⟨c, none, non pi, ti, p1, ?_, ?_, ?_⟩
              · rw [hnl]; exact p2
              · rw [SE_append]; exact SE_mono (fun env σ hh => hh.1) h
              · simp only [non, List.length_map]; omega
            · obtain ⟨p1, p2⟩ := chkF_pull (G := fun l => chkF soft ops (chkTr soft ops tk) pk l) hsto (fun l hl => by simp only [chkTr, Bool.and_eq_true] at hl; exact hl.2) hck hj hm
              rw [← chkF_append] at p2
              refine ⟨c, none, non pk, tk, p1, ?_, ?_, ?_⟩
              · rw [hnl]; exact p2
              · rw [SE_append]; exact SE_mono (fun env σ hh => hh.2) h
              · simp only [non, List.length_map]; omega
      obtain ⟨qj', ps', hps, hsv⟩ := SE_pull hgt p1 hse
      obtain ⟨_, oj, hoj, _⟩ := mem_ready.1 hj
      have hoko : okOp nt oj = true := by
        rw [List.all_eq_true] at hok
        exact hok oj (by simpa using Array.mem_of_getElem? hoj)
      have hlen : (ps' ++ c3).length + T'.size = n := by
        have : ps'.length = cs1.length := by have := congrArg List.length hps; simpa using this
        simp only [List.length_append] at hlen0 ⊢
        omega
      have hck' : chkF soft ops (chkTr soft ops T') ((ps' ++ c3).map Prod.fst) (listed.setIfInBounds j true) = true := by
        rw [List.map_append, hps]; exact hck0
      unfold wpOpIn
      simp only [hoj]
      simp only [List.cons_append, SE, hoj] at hsv
      cases hso : softC soft oj with
      | true =>
        simp only [hso, cond_true] at hsv
        obtain ⟨d, e1, e3⟩ := hsv
        refine soft_sound (r := r) (ops := ops) hgt hc he hoko e1 ?_
        intro M' w' a' s1 c1 e4 d1
        exact any_tree hgt keep hok hsto n T' (ps' ++ c3) _ hlen hck' _ σ M' w' a' e3 c1 e4 hd (d1.trans hda) (hs.trans s1)
      | false =>
      simp only [hso, cond_false] at hsv
      cases hq : quiet oj.op with
      | true =>
        simp only [hq, cond_true] at hsv
        obtain ⟨e1, e2, e3⟩ := hsv
        obtain ⟨v, r1, r2⟩ := quiet_sound (r := r) (ops := ops) hgt hc he hoko e1 e2
        refine r2 _ _ (any_tree hgt keep hok hsto n T' (ps' ++ c3) _ hlen hck' _ σ M w _ e3 hc (he.put (okOp_dst hoko) r1) hd ?_ hs)
        rw [← hda]; cases oj.dst <;> rfl
      | false =>
        simp only [hq, cond_false] at hsv
        refine vop_sound (imm := imm) (ops := ops) (r := r) hgt hc he hoko (κ := fun env' σ' => SE P imm soft gt ops (SET P imm soft gt ops (fun env σ => Q .normal (prune keep env) σ) (fun d σ => Q (.pan d) (fun _ => .top) σ) T') (fun d σ => Q (.pan d) (fun _ => .top) σ) (ps' ++ c3) env' σ') (X := fun d σ => Q (.pan d) (fun _ => .top) σ) ?_ ?_ ?_
        · unfold vop
          simp only [hq, cond_false]
          exact nv_mono (fun d σ' hh => hh.2) hsv
        · intro M' w' σ' env' a' s1 c1 e1 d1 k1
          exact any_tree hgt keep hok hsto n T' (ps' ++ c3) _ hlen hck' env' σ' M' w' a' k1 c1 e1 hd (d1.trans hda) (hs.trans s1)
        · intro M' w' σ' d v s1 c1 r1 x1
          exact ⟨M', fun _ => .top, σ', .pan d, hs.trans s1, c1, ⟨he.1, fun _ => by simp only [R]⟩, hda ▸ hd.step (hs.trans s1), ⟨v, rfl, r1⟩, x1⟩

def drT (nt : Nat) (soft : List Nat) (ops : Array Oper) (gt : List (Nat × Nat)) (perm : List Nat) (T : Tr) : Bool := rgOK nt ops gt && stOK ops && perm.length + T.size == ops.size && chkF soft ops (chkTr soft ops T) perm (Array.replicate ops.size false)

/-- A REGION WHERE TWO ORDERS MATTER. -/
theorem rgt (keep imm soft : List Nat) (gt : List (Nat × Nat)) (perm : List Nat) (T : Tr) {id : Nat} {l pl : List Oper} {env : Env} {σ : Store} {Q : AE → Env → Store → Prop} (hm : P.follows .mixedOrders = true) (hok : drT nt soft l.toArray gt perm T = true)
    (hpl : Pk l perm pl)
    (h : ∀ (κ : Env → Store → Prop) (ξ : D → Store → Prop), (∀ env σ, Q .normal env σ → κ env σ) → (∀ d σ, Q (.pan d) (fun _ => .top) σ → ξ d σ) →
      vdr P imm soft gt (SET P imm soft gt l.toArray (fun env σ => κ (prune keep env) σ) ξ T) ξ pl env σ) : AWp P r nt (.region id l.toArray true) env σ Q := by
  intro M w a B hc he hd
  unfold drT rgOK at hok
  simp only [Bool.and_eq_true, beq_iff_eq] at hok
  obtain ⟨⟨⟨⟨h1, h4⟩, h5⟩, h2⟩, h3⟩ := hok
  refine wpIn_region_any hm ?_
  have := any_tree (P := P) (r := r) (imm := imm) (soft := soft) (ops := l.toArray) (Q := Q) (GT.of h4) keep h1 h5 l.toArray.size T (perm.map fun i => (i, none)) (Array.replicate l.toArray.size false) (by simpa using h2) (by simpa [Function.comp_def] using h3)
    env σ M w.drew a (SE_of_vdr hpl.map (h (fun env σ => Q .normal env σ) (fun d σ => Q (.pan d) (fun _ => .top) σ) (fun _ _ h => h) (fun _ _ h => h))) hc.drew he (a0 := a) hd rfl (M0 := M) (w0 := w) (σ0 := σ) (Step.drew M w σ)
  exact this
end

end Go.Proofs.Ytgccnkihonmlbaa
