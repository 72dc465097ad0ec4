/- Joined. -/
import Derived.Test.YtinhjbnljbmbcaaGreatQ02
import Derived.Maps.RangeRun
import Derived.LoopNIn
import Derived.SizedLaws
namespace Go.Proofs.YtinhjbnljbmbcaaGreat
open Go Go.RowKit
set_option linter.unusedSimpArgs false
set_option linter.unusedVariables false
section
variable {P : Program} {M : Mem} {w : World} {σ : Store} {r : Option Nat} {nt : Nat} {ops : Array Oper} {imm : List Nat} {soft : List Nat} {gt : List (Nat × Nat)}
theorem ACall.perm {f : Fn} {args : List D} {Q : Res → Store → Prop} {σ' : Store} (hp : σ.Perm σ') (h : ACall P f args σ' fun r τ' => ∃ τ, τ'.Perm τ ∧ Q r τ) : ACall P f args σ Q := by
 intro M w vs hc hr
 refine (h M w vs (hc.perm hp) hr).mono ?_
 rintro e w' ⟨M', σ1, r, s1, c1, r1, τ, hp', hq⟩
 exact ⟨M', τ, r, Step.perm hp hp' s1, c1.perm hp', r1, hq⟩
theorem RCall.perm {f : Fn} {args : List D} {α : Type} {F : α → D} {S : α → Store} {ok : α → Prop} {σ' : Store} {S' : α → Store} (h : RCall P f args σ' F S' ok) (hp : σ.Perm σ') (hp' : ∀ y, (S' y).Perm (S y)) : RCall P f args σ F S ok :=
 ACall.perm hp (ACall.mono h fun r τ' ⟨y, hy, h1, h2⟩ => ⟨S y, h2 ▸ hp' y, y, hy, h1, rfl⟩)
theorem ACall.nodupQ {f : Fn} {args : List D} {Q : Res → Store → Prop} (h : ACall P f args σ Q) : ACall P f args σ fun r τ => Q r τ ∧ τ.keys.Nodup := by
 intro M w vs hc hr
 refine (h M w vs hc hr).mono ?_
 rintro e w' ⟨M', σ1, r, s1, c1, r1, hq⟩
 exact ⟨M', σ1, r, s1, c1, r1, hq, c1.nodup⟩
theorem RCall.nodup {f : Fn} {args : List D} {α : Type} {F : α → D} {S : α → Store} {ok : α → Prop} (h : RCall P f args σ F S ok) : RCall P f args σ F S fun y => ok y ∧ (S y).keys.Nodup :=
 ACall.mono (ACall.nodupQ h) fun r τ ⟨⟨y, h1, h2, h3⟩, h4⟩ => ⟨y, ⟨h1, h3 ▸ h4⟩, h2, h3⟩
theorem callY {y : Fn} {xs : List D} {K X : D → Store → Prop} {Jt Jf : Store → Prop} (h : ACall P y xs σ fun r τ' => (r = .ret (.bool true) ∧ Jt τ') ∨ (r = .ret (.bool false) ∧ Jf τ'))
  (hk : ∀ bb τ', (bb = true → Jt τ') → (bb = false → Jf τ') → K (.bool bb) τ') : CallK P (.fn y [] []) xs K X σ := by
 unfold CallK
 refine ⟨fun _ => rfl, .inr ?_⟩
 rw [List.nil_append, List.append_nil]
 refine h.mono ?_
 rintro r σ' (⟨rfl, hj⟩ | ⟨rfl, hj⟩)
 ·exact hk true σ' (fun _ => hj) (fun e => by cases e)
 ·exact hk false σ' (fun e => by cases e) (fun _ => hj)
theorem nodupW {c : Code} {env : Env} {Q : AE → Env → Store → Prop} (h : σ.keys.Nodup → AWp P r nt c env σ Q) : AWp P r nt c env σ Q :=
 known fun ⟨_, _, _, hc, _⟩ => h hc.nodup
theorem ACall.nodup {f : Fn} {args : List D} {Q : Res → Store → Prop} (h : σ.keys.Nodup → ACall P f args σ Q) : ACall P f args σ Q :=
 fun M w vs hc hr => h hc.nodup M w vs hc hr
def chkF (soft : List Nat) (ops : Array Oper) (F : Array Bool → Bool) : List Nat → Array Bool → Bool
 | [], listed => F listed
 | i :: is, listed => (Region.ready .any ops listed).contains i && (match ops[i]? with
     | some o => ((quiet o.op || softC soft o) && Region.free .any ops listed i) || Region.ready .any ops listed == [i]
     | none => false) && chkF soft ops F is (listed.setIfInBounds i true)
inductive Tr
 | fin
 | br (i : Nat) (pi : List Nat) (ti : Tr) (k : Nat) (pk : List Nat) (tk : Tr)
def Tr.size : Tr → Nat
 | .fin => 0
 | .br _ pi ti _ _ _ => pi.length + ti.size + 1
def chkTr (soft : List Nat) (ops : Array Oper) : Tr → Array Bool → Bool
 | .fin, l => (Region.ready .any ops l).isEmpty
 | .br i pi ti k pk tk, l => Region.ready .any ops l == [i, k] && pi.length + ti.size == pk.length + tk.size && chkF soft ops (chkTr soft ops ti) pi (l.setIfInBounds i true) && chkF soft ops (chkTr soft ops tk) pk (l.setIfInBounds k true)
def non (l : List Nat) : List (Nat × Option Store) := l.map fun i => (i, none)
def SET (P : Program) (imm soft : List Nat) (gt : List (Nat × Nat)) (ops : Array Oper) (κ : Env → Store → Prop) (X : D → Store → Prop) : Tr → Env → Store → Prop
 | .fin, env, σ => κ env σ
 | .br i pi ti k pk tk, env, σ => SE P imm soft gt ops (SET P imm soft gt ops κ X ti) X (non (i :: pi)) env σ ∧ SE P imm soft gt ops (SET P imm soft gt ops κ X tk) X (non (k :: pk)) env σ
theorem napp_growN {ts : Array TypeId} {T U V : TypeId} {g : Bool} {sz by_ : Nat} {z : List D} {rows new : List (List D)} {o : Option (Nat × Nat)} {ρ : Store} {tk : Tok} {n : Nat} {K : D → Store → Prop}
  (hok : apOK rows o) (hfr : apFr o ρ) (hn : rows.length = n) (hT : ts[0]? = some T) (hV : ts[1]? = some V) (hV' : (sle P V).isSome = true) (hs : sle P T = some (U, g, sz)) (hy : eby P T = some by_) (hz : zc P U = some z)
  (hside : (z.length = sz ∧ 0 < sz ∧ 0 < by_) ∧ new.all (·.all D.isCell) = true ∧ new ≠ [] ∧ (n + new.length) * by_ ≤ capB)
  (hK : ∀ b c, b ∉ ρ.keys → K (apD sz (rows ++ new) (some (b, c))) (apS sz (n + new.length) (some (b, c)) ++ ρ)) :
  napp P (apS sz n o ++ ρ) ts (apD sz rows o) (.sl sz new tk) K := by
 subst hn
 exact napp_grow hok hfr hT hV hV' hs hy hz hside hK
inductive Pk (l : List Oper) : List Nat → List Oper → Prop
 | nil : Pk l [] []
 | cons {i : Nat} {is : List Nat} {o : Oper} {os : List Oper} : l[i]? = some o → Pk l is os → Pk l (i :: is) (o :: os)
theorem Pk.map {l : List Oper} {is : List Nat} {os : List Oper} (h : Pk l is os) : is.map (fun i => l.toArray[i]?) = os.map some := by
 induction h with
 | nil => rfl
 | cons h _ ih => rw [List.map_cons, List.map_cons, ih, List.getElem?_toArray, h]
theorem SET_fin {κ : Env → Store → Prop} {X : D → Store → Prop} {env : Env} (h : κ env σ) : SET P imm soft gt ops κ X .fin env σ := h
theorem SET_br {l : List Oper} {κ : Env → Store → Prop} {X : D → Store → Prop} {env : Env} {i k : Nat} {pi pk : List Nat} {ti tk : Tr} {oi ok : List Oper} (hi : Pk l (i :: pi) oi) (hk : Pk l (k :: pk) ok)
  (h1 : vdr P imm soft gt (SET P imm soft gt l.toArray κ X ti) X oi env σ) (h2 : vdr P imm soft gt (SET P imm soft gt l.toArray κ X tk) X ok env σ) : SET P imm soft gt l.toArray κ X (.br i pi ti k pk tk) env σ :=
 ⟨SE_of_vdr hi.map h1, SE_of_vdr hk.map h2⟩
theorem SE_append {κ : Env → Store → Prop} {X : D → Store → Prop} : ∀ (c d : List (Nat × Option Store)) (env : Env) (σ : Store), SE P imm soft gt ops κ X (c ++ d) env σ = SE P imm soft gt ops (fun env σ => SE P imm soft gt ops κ X d env σ) X c env σ
 | [], d, env, σ => rfl
 | (i, q) :: c, d, env, σ => by
  have ih := fun env σ => SE_append (κ := κ) (X := X) c d env σ
  simp only [List.cons_append, SE, ih]
theorem SE_mono {κ κ' : Env → Store → Prop} {X : D → Store → Prop} (hk : ∀ env σ, κ env σ → κ' env σ) : ∀ {c : List (Nat × Option Store)} {env : Env} {σ : Store}, SE P imm soft gt ops κ X c env σ → SE P imm soft gt ops κ' X c env σ
 | [], env, σ, h => hk _ _ h
 | (i, q) :: c, env, σ, h => by
  simp only [SE] at h ⊢
  split at h
  ·rename_i o ho
   cases hs : softC soft o with
   | true =>
    simp only [hs, cond_true] at h ⊢
    obtain ⟨d, h1, h2⟩ := h
    exact ⟨d, h1, SE_mono hk h2⟩
   | false =>
    simp only [hs, cond_false] at h ⊢
    cases hq : quiet o.op with
    | true =>
     simp only [hq, cond_true] at h ⊢
     exact ⟨h.1, h.2.1, SE_mono hk h.2.2⟩
    | false =>
     simp only [hq, cond_false] at h ⊢
     exact nv_mono (fun d σ' hh => ⟨hh.1, SE_mono hk hh.2⟩) h
  ·exact h.elim
theorem chkF_append (F : Array Bool → Bool) : ∀ (c d : List Nat) (l : Array Bool), chkF soft ops F (c ++ d) l = chkF soft ops (fun l => chkF soft ops F d l) c l
 | [], d, l => rfl
 | i :: c, d, l => by simp only [List.cons_append, chkF, chkF_append F c d]
theorem chkF_pull (hsto : stOK soft ops = true) {F G : Array Bool → Bool} {j : Nat} (hFG : ∀ l, F l = true → G (l.setIfInBounds j true) = true) : ∀ {ps : List Nat} {listed : Array Bool}, chkF soft ops F ps listed = true → j ∈ Region.ready .any ops listed → j ∉ ps →
  (∀ p ∈ ps, ∃ op oj, ops[p]? = some op ∧ ops[j]? = some oj ∧ (quiet op.op || softC soft op) = true ∧ op.apart ops oj = true ∧ (isW soft oj = false ∨ rdSt op.op = false)) ∧ chkF soft ops G ps (listed.setIfInBounds j true) = true
 | [], listed, h, _, _ => ⟨by simp, hFG _ h⟩
 | p :: ps, listed, h, hj, hn => by
  simp only [List.mem_cons, not_or] at hn
  simp only [chkF, Bool.and_eq_true] at h
  obtain ⟨⟨h1, h2⟩, h3⟩ := h
  obtain ⟨hju, oj, hoj, hall⟩ := mem_ready.1 hj
  split at h2
  ·rename_i op hop
   have hpr : p ∈ Region.ready .any ops listed := by simpa using h1
   have hpu := (mem_ready.1 hpr).1
   have hqf : (quiet op.op || softC soft op) = true ∧ Region.free .any ops listed p = true := by
    rcases Bool.or_eq_true _ _ ▸ h2 with h2 | h2
    ·rwa [Bool.and_eq_true] at h2
    ·rw [beq_iff_eq] at h2
     rw [h2] at hj
     simp at hj
     exact absurd hj hn.1
   have hno : ∀ e ∈ oj.after, Region.binds .any e = true → e.on ≠ p := fun e he hb heq => by
    have := hall e he hb
    rw [heq] at this
    rcases Nat.lt_or_ge p listed.size with h' | h'
    ·simp [h'] at this hpu; rw [hpu] at this; cases this
    ·simp [Array.getElem?_eq_none h'] at this
   have hap : op.apart ops oj = true := Region.free_spec hop hqf.2 j oj hoj hn.1 hju hno
   have hso := stOK_at hsto hop hoj (fun e => hn.1 e.symm) hno
   obtain ⟨i1, i2⟩ := chkF_pull hsto hFG h3 (ready_mono hj hn.1) hn.2
   refine ⟨fun x hx => ?_, ?_⟩
   ·rcases List.mem_cons.1 hx with rfl | hx
    ·exact ⟨op, oj, hop, hoj, hqf.1, hap, hso⟩
    ·exact i1 x hx
   ·simp only [chkF, Bool.and_eq_true]
    refine ⟨⟨by simpa using ready_mono hpr (fun e => hn.1 e.symm), ?_⟩, ?_⟩
    ·simp only [hop, hqf.1, free_mono hqf.2, Bool.true_and, Bool.true_or]
    ·rw [Array.setIfInBounds_comm _ _ hn.1]; exact i2
  ·cases h2
theorem ready_in_chkF {F : Array Bool → Bool} : ∀ {c : List Nat} {j : Nat} {listed : Array Bool}, chkF soft ops F c listed = true → j ∈ Region.ready .any ops listed → j ∉ c → ∃ l, F l = true ∧ j ∈ Region.ready .any ops l
 | [], j, listed, h, hj, _ => ⟨listed, h, hj⟩
 | i :: c, j, listed, h, hj, hn => by
  simp only [List.mem_cons, not_or] at hn
  simp only [chkF, Bool.and_eq_true] at h
  exact ready_in_chkF h.2 (ready_mono hj hn.1) hn.2
theorem any_tree (hgt : GT ops gt) {Q : AE → Env → Store → Prop} (keep : List Nat) {M0 : Mem} {w0 : World} {σ0 : Store} {a0 : Act} {B : Nat × List Deferred} (hok : ops.toList.all (okOp nt) = true) (hsto : stOK soft ops = true) : ∀ (n : Nat) (T : Tr) (c : List (Nat × Option Store)) (listed : Array Bool), c.length + T.size = n → chkF soft ops (chkTr soft ops T) (c.map Prod.fst) listed = true →
  ∀ (env : Env) (σ : Store) (M : Mem) (w : World) (a : Act),
  SE P imm soft gt ops (SET P imm soft gt ops (fun env σ => Q .normal (prune keep env) σ) (fun d σ => Q (.pan d) (fun _ => .top) σ) T) (fun d σ => Q (.pan d) (fun _ => .top) σ) c env σ →
  Conc M w σ → EnvR M nt env a → DefOK B σ0 w0 a0.defers → a.defers = a0.defers → Step M0 w0 σ0 M w σ → wpAnyIn (WF r) 0 P .any ops (rgPost M0 w0 σ0 nt B Q) n listed a w
 | 0, T, c, listed, hl, hck, env, σ, M, w, a, h, hc, he, hd, hda, hs => by
  have hnil : c = [] := List.eq_nil_of_length_eq_zero (by omega)
  subst hnil
  cases T with
  | br => simp only [Tr.size] at hl; omega
  | fin =>
   simp only [List.map_nil, chkF, chkTr, List.isEmpty_iff] at hck
   exact ⟨hck, M, _, σ, .normal, hs, hc, he.prune keep, hda ▸ hd.step hs, trivial, h⟩
 | n + 1, T, c, listed, hl, hck, env, σ, M, w, a, h, hc, he, hd, hda, hs => by
  refine ⟨fun h0 => ?_, fun j hj => ?_⟩
  ·cases c with
   | nil =>
    cases T with
    | fin => simp [Tr.size] at hl
    | br i pi ti k pk tk =>
     simp only [List.map_nil, chkF, chkTr, h0, Bool.and_eq_true] at hck
     simp at hck
   | cons i c =>
    simp only [List.map_cons, chkF, Bool.and_eq_true, h0] at hck
    simp at hck
  ·obtain ⟨cs1, qj, c3, T', p1, hck0, hse, hlen0⟩ : ∃ (cs1 : List (Nat × Option Store)) (qj : Option Store) (c3 : List (Nat × Option Store)) (T' : Tr),
     (∀ p ∈ cs1.map Prod.fst, ∃ op oj, ops[p]? = some op ∧ ops[j]? = some oj ∧ (quiet op.op || softC soft op) = true ∧ op.apart ops oj = true ∧ (isW soft oj = false ∨ rdSt op.op = false)) ∧
     chkF soft ops (chkTr soft ops T') (cs1.map Prod.fst ++ c3.map Prod.fst) (listed.setIfInBounds j true) = true ∧
     SE P imm soft gt ops (SET P imm soft gt ops (fun env σ => Q .normal (prune keep env) σ) (fun d σ => Q (.pan d) (fun _ => .top) σ) T') (fun d σ => Q (.pan d) (fun _ => .top) σ) (cs1 ++ (j, qj) :: c3) env σ ∧
     cs1.length + c3.length + T'.size = n := by
    by_cases hm : j ∈ c.map Prod.fst
    ·obtain ⟨ps, rest, hsplit, hnot⟩ := List.eq_append_cons_of_mem hm
     obtain ⟨cs1, c2, rfl, hc1, hc2⟩ := List.map_eq_append_iff.1 hsplit
     cases c2 with
     | nil => simp at hc2
     | cons jq c3 =>
      obtain ⟨j', qj⟩ := jq
      simp only [List.map_cons, List.cons.injEq] at hc2
      obtain ⟨rfl, hc3⟩ := hc2
      rw [hsplit, chkF_append] at hck
      obtain ⟨p1, p2⟩ := chkF_pull (G := fun l => chkF soft ops (chkTr soft ops T) rest l) hsto (fun l hl => by simp only [chkF, Bool.and_eq_true] at hl; exact hl.2) hck hj hnot
      rw [← chkF_append] at p2
      refine ⟨cs1, qj, c3, T, hc1 ▸ p1, ?_, h, ?_⟩
      ·rw [hc1, hc3]; exact p2
      ·simp only [List.length_append, List.length_cons] at hl; omega
    ·obtain ⟨l, hFl, hjl⟩ := ready_in_chkF hck hj hm
     cases T with
     | fin =>
      simp only [chkTr, List.isEmpty_iff] at hFl
      rw [hFl] at hjl; simp at hjl
     | br i pi ti k pk tk =>
      have hFl' := hFl
      simp only [chkTr, Bool.and_eq_true, beq_iff_eq] at hFl'
      obtain ⟨⟨⟨e1, e2⟩, -⟩, -⟩ := hFl'
      rw [e1] at hjl
      simp only [Tr.size] at hl
      have hnl : ∀ x : List Nat, (non x).map Prod.fst = x := fun x => by simp [non, Function.comp_def]
      simp only [List.mem_cons, List.not_mem_nil, or_false] at hjl
      rcases hjl with rfl | rfl
      ·obtain ⟨p1, p2⟩ := chkF_pull (G := fun l => chkF soft ops (chkTr soft ops ti) pi l) hsto (fun l hl => by simp only [chkTr, Bool.and_eq_true] at hl; exact hl.1.2) hck hj hm
       rw [← chkF_append] at p2
       refine ⟨c, none, non pi, ti, p1, ?_, ?_, ?_⟩
       ·rw [hnl]; exact p2
       ·rw [SE_append]; exact SE_mono (fun env σ hh => hh.1) h
       ·simp only [non, List.length_map]; omega
      ·obtain ⟨p1, p2⟩ := chkF_pull (G := fun l => chkF soft ops (chkTr soft ops tk) pk l) hsto (fun l hl => by simp only [chkTr, Bool.and_eq_true] at hl; exact hl.2) hck hj hm
       rw [← chkF_append] at p2
       refine ⟨c, none, non pk, tk, p1, ?_, ?_, ?_⟩
       ·rw [hnl]; exact p2
       ·rw [SE_append]; exact SE_mono (fun env σ hh => hh.2) h
       ·simp only [non, List.length_map]; omega
   obtain ⟨qj', ps', hps, hsv⟩ := SE_pull hgt p1 hse
   obtain ⟨_, oj, hoj, _⟩ := mem_ready.1 hj
   have hoko : okOp nt oj = true := by
    rw [List.all_eq_true] at hok
    exact hok oj (by simpa using Array.mem_of_getElem? hoj)
   have hlen : (ps' ++ c3).length + T'.size = n := by
    have : ps'.length = cs1.length := by have := congrArg List.length hps; simpa using this
    simp only [List.length_append] at hlen0 ⊢
    omega
   have hck' : chkF soft ops (chkTr soft ops T') ((ps' ++ c3).map Prod.fst) (listed.setIfInBounds j true) = true := by
    rw [List.map_append, hps]; exact hck0
   unfold wpOpIn
   simp only [hoj]
   simp only [List.cons_append, SE, hoj] at hsv
   cases hso : softC soft oj with
   | true =>
    simp only [hso, cond_true] at hsv
    obtain ⟨d, e1, e3⟩ := hsv
    refine soft_sound (r := r) (ops := ops) hgt hc he hoko e1 ?_
    intro M' w' a' s1 c1 e4 d1
    exact any_tree hgt keep hok hsto n T' (ps' ++ c3) _ hlen hck' _ σ M' w' a' e3 c1 e4 hd (d1.trans hda) (hs.trans s1)
   | false =>
   simp only [hso, cond_false] at hsv
   cases hq : quiet oj.op with
   | true =>
    simp only [hq, cond_true] at hsv
    obtain ⟨e1, e2, e3⟩ := hsv
    obtain ⟨v, r1, r2⟩ := quiet_sound (r := r) (ops := ops) hgt hc he hoko e1 e2
    refine r2 _ _ (any_tree hgt keep hok hsto n T' (ps' ++ c3) _ hlen hck' _ σ M w _ e3 hc (he.put (okOp_dst hoko) r1) hd ?_ hs)
    rw [← hda]; cases oj.dst <;> rfl
   | false =>
    simp only [hq, cond_false] at hsv
    refine vop_sound (imm := imm) (ops := ops) (r := r) hgt hc he hoko (κ := fun env' σ' => SE P imm soft gt ops (SET P imm soft gt ops (fun env σ => Q .normal (prune keep env) σ) (fun d σ => Q (.pan d) (fun _ => .top) σ) T') (fun d σ => Q (.pan d) (fun _ => .top) σ) (ps' ++ c3) env' σ') (X := fun d σ => Q (.pan d) (fun _ => .top) σ) ?_ ?_ ?_
    ·unfold vop
     simp only [hq, cond_false]
     exact nv_mono (fun d σ' hh => hh.2) hsv
    ·intro M' w' σ' env' a' s1 c1 e1 d1 k1
     exact any_tree hgt keep hok hsto n T' (ps' ++ c3) _ hlen hck' env' σ' M' w' a' k1 c1 e1 hd (d1.trans hda) (hs.trans s1)
    ·intro M' w' σ' d v s1 c1 r1 x1
     exact ⟨M', fun _ => .top, σ', .pan d, hs.trans s1, c1, ⟨he.1, fun _ => by simp only [R]⟩, hda ▸ hd.step (hs.trans s1), ⟨v, rfl, r1⟩, x1⟩
def drT (nt : Nat) (soft : List Nat) (ops : Array Oper) (gt : List (Nat × Nat)) (perm : List Nat) (T : Tr) : Bool := rgOK nt ops gt && stOK soft ops && perm.length + T.size == ops.size && chkF soft ops (chkTr soft ops T) perm (Array.replicate ops.size false)
theorem rgt (keep imm soft : List Nat) (gt : List (Nat × Nat)) (perm : List Nat) (T : Tr) {id : Nat} {l pl : List Oper} {env : Env} {σ : Store} {Q : AE → Env → Store → Prop} (hm : P.follows .mixedOrders = true) (hok : drT nt soft l.toArray gt perm T = true)
  (hpl : Pk l perm pl)
  (h : ∀ (κ : Env → Store → Prop) (ξ : D → Store → Prop), (∀ env σ, Q .normal env σ → κ env σ) → (∀ d σ, Q (.pan d) (fun _ => .top) σ → ξ d σ) →
    vdr P imm soft gt (SET P imm soft gt l.toArray (fun env σ => κ (prune keep env) σ) ξ T) ξ pl env σ) : AWp P r nt (.region id l.toArray true) env σ Q := by
 intro M w a B hc he hd
 unfold drT rgOK at hok
 simp only [Bool.and_eq_true, beq_iff_eq] at hok
 obtain ⟨⟨⟨⟨h1, h4⟩, h5⟩, h2⟩, h3⟩ := hok
 refine wpIn_region_any hm ?_
 have := any_tree (P := P) (r := r) (imm := imm) (soft := soft) (ops := l.toArray) (Q := Q) (GT.of h4) keep h1 h5 l.toArray.size T (perm.map fun i => (i, none)) (Array.replicate l.toArray.size false) (by simpa using h2) (by simpa [Function.comp_def] using h3)
  env σ M w.drew a (SE_of_vdr hpl.map (h (fun env σ => Q .normal env σ) (fun d σ => Q (.pan d) (fun _ => .top) σ) (fun _ _ h => h) (fun _ _ h => h))) hc.drew he (a0 := a) hd rfl (M0 := M) (w0 := w) (σ0 := σ) (Step.drew M w σ)
 exact this
end
end Go.Proofs.YtinhjbnljbmbcaaGreat
/- Own layer, part 27: rows that are lent to a call that only computes; loops up to the order of boxes; further appends. -/
namespace Go.Proofs.YtinhjbnljbmbcaaGreat
open Go Go.RowKit
set_option linter.unusedSimpArgs false
set_option linter.unusedVariables false
section
variable {P : Program} {M : Mem} {w : World} {σ : Store} {r : Option Nat} {nt : Nat}
theorem callP {g : Nat} {fs cs xs : List D} {d : D} {K X : D → Store → Prop} (h : PCall P (.func g) (fs ++ xs ++ cs) d) (hk : K d σ) : CallK P (.fn (.func g) fs cs) xs K X σ :=
 ⟨(fun hy => by cases hy), .inl ⟨d, h, hk⟩⟩
theorem RCall.le {f : Fn} {args : List D} {α : Type} {F : α → D} {S : α → Store} {ok : α → Prop} (h : ACall P f args σ fun r σ' => ∃ y, ok y ∧ (∃ d', r = .ret d' ∧ DLe (F y) d') ∧ σ' = S y) : RCall P f args σ F S ok := by
 refine ACall.le (ACall.mono h ?_)
 rintro r σ' ⟨y, hy, ⟨d', rfl, hd⟩, rfl⟩
 exact ⟨.ret (F y), hd, y, hy, rfl, rfl⟩
end
end Go.Proofs.YtinhjbnljbmbcaaGreat
/- Own layer, part 28: regions told operation by operation, of the machine; ranges over maps. -/
namespace Go.Proofs.YtinhjbnljbmbcaaGreat
open Go Go.RowKit
set_option linter.unusedSimpArgs false
set_option linter.unusedVariables false
section
variable {P : Program} {M : Mem} {w : World} {σ : Store} {r : Option Nat} {nt : Nat}
variable {κ : Env → Store → Prop} {X : D → Store → Prop} {dst : Option Nat} {T : TypeId} {pos_ : String} {aft : Array Edge} {os : List Oper} {env : Env}
theorem EntsR.all : ∀ {es : List (D × D)} {ms : List MapEntry}, EntsR M es ms → RAll M (es.map Prod.fst) (ms.map (·.key)) ∧ RAll M (es.map Prod.snd) (ms.map (·.val)) ∧ es.length = ms.length
 | [], [], _ => by simp [RAll]
 | e :: es, m :: ms, ⟨h1, h2⟩ => by
  obtain ⟨a, b, c⟩ := EntsR.all h2
  simp only [List.map_cons, RAll, List.length_cons]
  exact ⟨⟨h1.1, a⟩, ⟨h1.2, b⟩, by omega⟩
 | [], _ :: _, h => h.elim
 | _ :: _, [], h => h.elim
structure MIt (es : List (D × D)) where
 m : Nat
 ms : List MapEntry
 clock : Nat
 nodup : (ms.map (·.born)).Nodup
 old : ∀ x ∈ ms, x.born < clock
 len : es.length = ms.length
def MIt.at {es : List (D × D)} (it : MIt es) (i : Nat) : MapEntry := it.ms.getD i { key := undef, val := undef, born := 0 }
theorem MIt.born_inj {es : List (D × D)} (it : MIt es) {i j : Nat} (hi : i < es.length) (hj : j < es.length) (h : (it.at i).born = (it.at j).born) : i = j := by
 have hi2 : i < it.ms.length := by rw [← it.len]; exact hi
 have hj2 : j < it.ms.length := by rw [← it.len]; exact hj
 have e : ∀ k (hk : k < it.ms.length), (it.at k).born = (it.ms.map (·.born))[k]'(by simpa using hk) := fun k hk => by
  unfold MIt.at
  rw [List.getD_eq_getElem?_getD, List.getElem?_eq_getElem hk]
  simp
 rw [e i hi2, e j hj2] at h
 exact (List.getElem_inj it.nodup).1 h
theorem MIt.seen {es : List (D × D)} (it : MIt es) {pos : List Nat} (hpos : ∀ i ∈ pos, i < es.length) {i : Nat} (hi : i < es.length) : (pos.map fun i => (it.at i).born).toArray.contains (it.at i).born = decide (i ∈ pos) := by
 rw [Bool.eq_iff_iff]
 simp only [List.contains_toArray, decide_eq_true_eq, List.contains_iff_mem, List.mem_map]
 constructor
 ·rintro ⟨j, hj, e⟩
  rw [← it.born_inj (hpos j hj) hi e]; exact hj
 ·intro h
  exact ⟨i, h, rfl⟩
end
end Go.Proofs.YtinhjbnljbmbcaaGreat
/- Own layer, part 30: the same rules, in fewer words: what is asked beside them is found where they are used. -/
namespace Go.Proofs.YtinhjbnljbmbcaaGreat
open Go Go.RowKit
set_option linter.unusedSimpArgs false
set_option linter.unusedVariables false
theorem an_ {p q : Prop} (hq : q) (hp : p := by first | assumption | omega | (simp; done) | (simp; omega) | (intro hg; simp +decide only [go_sem, hg]; done) | (intro hg; simp +decide only [go_sem, hg]; omega)) : p ∧ q := ⟨hp, hq⟩
section
variable {P : Program} {σ : Store} {r : Option Nat} {nt : Nat} {id : Nat} {l : List Oper} {env : Env} {Q : AE → Env → Store → Prop} {y : Code}
theorem rr_ (keep imm : List Nat) (gt : List (Nat × Nat))
  (h : ∀ (κ : Env → Store → Prop) (ξ : D → Store → Prop), (∀ env σ, Q .normal env σ → κ env σ) → (∀ d σ, Q (.pan d) (fun _ => .top) σ → ξ d σ) → vops P imm gt (fun env σ => κ (prune keep env) σ) ξ l env σ) (hok : rgOK nt l.toArray gt = true := by kernel_rfl) : AWp P r nt (.region id l.toArray false) env σ Q := rg keep imm gt hok h
theorem sr_ (keep imm : List Nat) (gt : List (Nat × Nat))
  (h : ∀ (κ : Env → Store → Prop) (ξ : D → Store → Prop), (∀ env σ, AWp P r nt y env σ Q → κ env σ) → (∀ d σ, Q (.pan d) (fun _ => .top) σ → ξ d σ) → vops P imm gt (fun env σ => κ (prune keep env) σ) ξ l env σ) (hok : rgOK nt l.toArray gt = true := by kernel_rfl) : AWp P r nt (.seq (.region id l.toArray false) y) env σ Q := sq (rg keep imm gt hok h)
theorem rrz_ (fzl : List (Nat × List Nat)) (keep imm : List Nat) (gt : List (Nat × Nat))
  (h : ∀ (κ : Env → Store → Prop) (ξ : D → Store → Prop), (∀ env σ, Q .normal env σ → κ env σ) → (∀ d σ, Q (.pan d) (fun _ => .top) σ → ξ d σ) → vops P imm gt (fun env σ => FZ κ fzl (prune keep env) σ) ξ l env σ) (hok : rgOK nt l.toArray gt = true := by kernel_rfl) : AWp P r nt (.region id l.toArray false) env σ Q := rgz fzl keep imm gt hok h
theorem srz_ (fzl : List (Nat × List Nat)) (keep imm : List Nat) (gt : List (Nat × Nat))
  (h : ∀ (κ : Env → Store → Prop) (ξ : D → Store → Prop), (∀ env σ, AWp P r nt y env σ Q → κ env σ) → (∀ d σ, Q (.pan d) (fun _ => .top) σ → ξ d σ) → vops P imm gt (fun env σ => FZ κ fzl (prune keep env) σ) ξ l env σ) (hok : rgOK nt l.toArray gt = true := by kernel_rfl) : AWp P r nt (.seq (.region id l.toArray false) y) env σ Q := sq (rgz fzl keep imm gt hok h)
theorem rrd_ (keep imm soft : List Nat) (gt : List (Nat × Nat))
  (h : ∀ (κ : Env → Store → Prop) (ξ : D → Store → Prop), (∀ env σ, Q .normal env σ → κ env σ) → (∀ d σ, Q (.pan d) (fun _ => .top) σ → ξ d σ) → vdr P imm soft gt (fun env σ => κ (prune keep env) σ) ξ l env σ) (hm : P.follows .mixedOrders = true := by kernel_rfl) (hok : drOK nt soft l.toArray gt (List.range l.length) = true := by kernel_rfl) : AWp P r nt (.region id l.toArray true) env σ Q := rgd keep imm soft gt hm hok h
theorem srd_ (keep imm soft : List Nat) (gt : List (Nat × Nat))
  (h : ∀ (κ : Env → Store → Prop) (ξ : D → Store → Prop), (∀ env σ, AWp P r nt y env σ Q → κ env σ) → (∀ d σ, Q (.pan d) (fun _ => .top) σ → ξ d σ) → vdr P imm soft gt (fun env σ => κ (prune keep env) σ) ξ l env σ) (hm : P.follows .mixedOrders = true := by kernel_rfl) (hok : drOK nt soft l.toArray gt (List.range l.length) = true := by kernel_rfl) : AWp P r nt (.seq (.region id l.toArray true) y) env σ Q := sq (rgd keep imm soft gt hm hok h)
theorem cd_ {c : Operand} {x y : Code} {b : Bool} (ht : b = true → AWp P r nt x env σ Q) (hf : b = false → AWp P r nt y env σ Q) (hb : opd env c = .bool b := by rfl) : AWp P r nt (.cond c x y) env σ Q := cd hb ht hf
theorem gcF {g : Nat} {b ok : Bool} {xs : List D} {d : D} {K : D → Store → Prop} (h : PCall P (.func g) xs d) (hk : K (.cnd b d) σ)
  (hok : b = true → ok = true := by first | (intro _; rfl) | (intro hg; simp +decide only [go_sem, hg]; done) | exact id | (intro hg; simpa using hg) | (intro hg; simp +decide only [go_sem, hg, *]; done)) : GCallK P (some b) ok (.fn (.func g) [] []) xs K σ := gcallF (fun e => ⟨hok e, h⟩) hk
def ARounds (P : Program) (r : Option Nat) (nt : Nat) (c : Code) (Q : AE → Env → Store → Prop) : Nat → Env → Store → Prop
 | 0, _, _ => False
 | m + 1, env, σ => AWp P r nt c env σ (thenQ (ARounds P r nt c Q m) Q)
theorem rounds_sound {c : Code} {M0 : Mem} {w0 : World} {σ0 : Store} {B : Nat × List Deferred} : ∀ (m : Nat) (env : Env) (σ : Store) (M : Mem) (w : World) (a : Act), ARounds P r nt c Q m env σ → Step M0 w0 σ0 M w σ → Conc M w σ → EnvR M nt env a → DefOK B σ w a.defers →
  Code.roundsIn (WF r) 0 P c (rgPost M0 w0 σ0 nt B Q) m a w
 | 0, _, _, _, _, _, h, _, _, _, _ => h.elim
 | m + 1, env, σ, M, w, a, h, hs, hc, he, hd => by
  rw [roundsIn_succ]
  refine wpIn_mono (h M w a B hc he hd) ?_
  rintro e a' w' ⟨M2, env2, σ2, ae, h1, h2, h3, h4, h5, h6⟩
  cases e with
  | normal =>
   cases ae <;> simp only [AER] at h5
   exact rounds_sound m env2 σ2 M2 w' a' h6 (hs.trans h1) h2 h3 h4
  | exit i => cases ae <;> simp only [AER] at h5; exact ⟨M2, env2, σ2, .exit _, hs.trans h1, h2, h3, h4, h5, h6⟩
  | goto i => cases ae <;> simp only [AER] at h5; exact ⟨M2, env2, σ2, .goto _, hs.trans h1, h2, h3, h4, h5, h6⟩
  | ret => cases ae <;> simp only [AER] at h5; exact ⟨M2, env2, σ2, .ret, hs.trans h1, h2, h3, h4, trivial, h6⟩
  | panic c =>
   have h5' := h5
   cases ae <;> simp only [AER] at h5
   exact ⟨M2, env2, σ2, .pan _, hs.trans h1, h2, h3, h4, h5', h6⟩
  | outgrown => cases ae <;> simp only [AER] at h5
theorem lpN {c : Code} (m : Nat) (h : ARounds P r nt c Q m env σ) : AWp P r nt (.loop c) env σ Q := fun M w a _ hc he hd => wpIn_loop_rounds m (rounds_sound m env σ M w a h (Step.refl M w σ) hc he hd)
theorem rnd {c : Code} {m : Nat} (h : AWp P r nt c env σ (thenQ (ARounds P r nt c Q m) Q)) : ARounds P r nt c Q (m + 1) env σ := h
end
end Go.Proofs.YtinhjbnljbmbcaaGreat
/- Own layer, part 25: scopes through which no jump goes. -/
namespace Go.Proofs.YtinhjbnljbmbcaaGreat
open Go Go.RowKit
set_option linter.unusedSimpArgs false
set_option linter.unusedVariables false
section
variable {F : Fence} {n : Nat} {P : Program} {Q : Exit → Act → World → Prop} {a : Act} {w : World} {b : Frame} {k : List Item} {cs : List Frame}
def sansGo (Q : Exit → Act → World → Prop) : Exit → Act → World → Prop
 | .goto _, _, _ => False
 | e, a, w => Q e a w
theorem stepR_scope {c : Code} : step P (lone (b.atR a (.code (.scope c) :: k)) cs w) = .next (lone (b.atR a (.code c :: .inScope c :: k)) cs w) :=
 step_lone_go (by simp [stepG, stepG.exec, Frame.atR])
theorem stepR_inScope {c : Code} : step P (lone (b.atR a (.inScope c :: k)) cs w) = .next (lone (b.atR a k) cs w) :=
 step_lone_go (by simp [stepG, stepG.exec, Frame.atR])
theorem wpIn_scope {c : Code} (h : c.wpIn F n P (sansGo Q) a w) : (Code.scope c).wpIn F n P Q a w := by
 intro b k cs hro hb hr
 have h0 : (lone (b.atR a (.code (.scope c) :: k)) cs w).fenced P F := fenced_calm hb hr rfl
 obtain ⟨e, a₁, w₁, hq, harr⟩ := h b (.inScope c :: k) cs hro hb hr
 cases e with
 | normal => exact ⟨.normal, a₁, w₁, hq, .head h0 stepR_scope (StepsIn.trans harr (.one (fenced_calm hb hr rfl) stepR_inScope))⟩
 | exit id' =>
  have hx : exitTo id' (.inScope c :: k) = exitTo id' k := by simp [exitTo]
  exact ⟨.exit id', a₁, w₁, hq, fun k' hk => .head h0 stepR_scope (harr.1 k' (by rw [hx]; exact hk)),
    fun hr' hk => let ⟨k₁, h1, h2⟩ := harr.2 hr' (by rw [hx]; exact hk); ⟨k₁, h1, .head h0 stepR_scope h2⟩⟩
 | goto l => exact hq.elim
 | ret => exact ⟨.ret, a₁, w₁, hq, .of_steps (.one h0 stepR_scope) harr⟩
 | panic ch => exact ⟨.panic ch, a₁, w₁, hq, .of_steps (.one h0 stepR_scope) harr⟩
 | outgrown => exact ⟨.outgrown, a₁, w₁, hq, .of_steps (.one h0 stepR_scope) harr⟩
end
section
variable {P : Program} {σ : Store} {r : Option Nat} {nt : Nat}
def noGo (Q : AE → Env → Store → Prop) : AE → Env → Store → Prop
 | .goto _, _, _ => False
 | e, env, σ => Q e env σ
theorem sc {c : Code} {env : Env} {Q : AE → Env → Store → Prop} (h : AWp P r nt c env σ (noGo Q)) : AWp P r nt (.scope c) env σ Q := by
 intro M w a B hc he hd
 refine wpIn_scope (wpIn_mono (h M w a B hc he hd) ?_)
 rintro e a' w' ⟨M2, env2, σ2, ae, h1, h2, h3, h4, h5, h6⟩
 cases e with
 | goto l => cases ae <;> simp only [AER] at h5; exact h6.elim
 | normal => cases ae <;> simp only [AER] at h5; exact ⟨M2, env2, σ2, .normal, h1, h2, h3, h4, trivial, h6⟩
 | exit i => cases ae <;> simp only [AER] at h5; exact ⟨M2, env2, σ2, .exit _, h1, h2, h3, h4, h5, h6⟩
 | ret => cases ae <;> simp only [AER] at h5; exact ⟨M2, env2, σ2, .ret, h1, h2, h3, h4, trivial, h6⟩
 | panic ch =>
  cases ae with
  | pan d => exact ⟨M2, env2, σ2, .pan d, h1, h2, h3, h4, h5, h6⟩
  | _ => cases ch <;> simp only [AER] at h5
 | outgrown => cases ae <;> simp only [AER] at h5
theorem lb {l : Nat} {env : Env} {Q : AE → Env → Store → Prop} (h : Q .normal env σ) : AWp P r nt (.label l) env σ Q :=
 fun _ _ _ _ hc he hd => wpIn_label (rgPost.here hc he hd (ae := .normal) trivial h)
end
end Go.Proofs.YtinhjbnljbmbcaaGreat
/- Own layer, part 26: laws whose arguments are no longer than memory. -/
namespace Go.Proofs.YtinhjbnljbmbcaaGreat
open Go Go.RowKit Go.ChangeShapes Go.WideShapes
set_option linter.unusedSimpArgs false
set_option linter.unusedVariables false
section
variable {H : Type} {enc : TypeId × Value → H} {P : Program} {w : World}
end
end Go.Proofs.YtinhjbnljbmbcaaGreat
/- Own layer, part 29: arguments of recursive types. -/
namespace Go.Proofs.YtinhjbnljbmbcaaGreat
open Go Go.RowKit Go.ChangeShapes Go.WideShapes
set_option linter.unusedSimpArgs false
set_option linter.unusedVariables false
def plain1 (P : Program) (C : TypeId → Bool) (t : TypeId) : Bool := match P.underlying t with
 | some .bool | some (.int _) | some .string => P.cellsOf t == 1
 | some (.slice e) => P.cellsOf t == 1 && decide (0 < P.cellsOf e) && C e
 | some (.struct fs) => contig P 0 fs.toList (P.cellsOf t) && fs.toList.all fun f => C f.type
 | some (.array k e) => k * P.cellsOf e == P.cellsOf t && C e
 | _ => false
def closedT (P : Program) (ts : List TypeId) : Bool := ts.all fun t => plain1 P (fun e => ts.contains e) t
section
variable {H : Type} {enc : TypeId × Value → H} {P : Program} {w : World} {spare : Nat → Bool} {held : Bool} {C : TypeId → Bool}
theorem good_fieldsC {n fuel : Nat} (ih : ∀ t cs x, C t = true → DataW.trod enc P w 0 spare held fuel t cs = some x → GoodRow P w n t cs) {cs : List Value} :
  ∀ (fs : List Field) (off N : Nat), contig P off fs N = true → (fs.all fun f => C f.type) = true → cs.length = N →
   (∀ f ∈ fs, ∃ y, DataW.trod enc P w 0 spare held fuel f.type ((cs.drop f.offset).take (P.cellsOf f.type)) = some y) →
   ∃ ds, RAll (wholeMem w) ds (cs.drop off) ∧ ShF (Sh P n) fs ds ∧ ds.all D.isCell = true
 | [], off, N, hc, _, hl, _ => by
  simp only [contig, beq_iff_eq] at hc
  exact ⟨[], by rw [List.drop_eq_nil_of_le (by omega)]; simp [RAll], rfl, rfl⟩
 | f :: fs, off, N, hc, hp, hl, hf => by
  simp only [contig, Bool.and_eq_true, beq_iff_eq] at hc
  simp only [List.all_cons, Bool.and_eq_true] at hp
  obtain ⟨y, hy⟩ := hf f (by simp)
  obtain ⟨d1, r1, s1, l1, c1⟩ := ih _ _ _ hp.1 hy
  obtain ⟨d2, r2, s2, c2⟩ := good_fieldsC ih fs (off + P.cellsOf f.type) N hc.2 hp.2 hl (fun g hg => hf g (List.mem_cons_of_mem _ hg))
  rw [hc.1] at r1 l1
  have hd1 : d1.length = P.cellsOf f.type := by rw [r1.length]; exact l1
  refine ⟨d1 ++ d2, RAll_split (by rw [hd1]; exact r1) (by rw [hd1, List.drop_drop]; exact r2), ⟨d1, d2, rfl, s1, s2⟩, by simp [c1, c2]⟩
theorem good_elemsC {n fuel : Nat} {e : TypeId} (hp : C e = true) (ih : ∀ t cs x, C t = true → DataW.trod enc P w 0 spare held fuel t cs = some x → GoodRow P w n t cs) {cs : List Value} :
  ∀ (k i : Nat), cs.length = (i + k) * P.cellsOf e → (∀ j, i ≤ j → j < i + k → ∃ y, DataW.trod enc P w 0 spare held fuel e ((cs.drop (j * P.cellsOf e)).take (P.cellsOf e)) = some y) →
   ∃ ds, RAll (wholeMem w) ds (cs.drop (i * P.cellsOf e)) ∧ ShN (Sh P n e) k ds ∧ ds.all D.isCell = true
 | 0, i, hl, _ => ⟨[], by rw [List.drop_eq_nil_of_le (by simp at hl; omega)]; simp [RAll], rfl, rfl⟩
 | k + 1, i, hl, hf => by
  obtain ⟨y, hy⟩ := hf i (Nat.le_refl _) (by omega)
  obtain ⟨d1, r1, s1, l1, c1⟩ := ih _ _ _ hp hy
  obtain ⟨d2, r2, s2, c2⟩ := good_elemsC hp ih k (i + 1) (by rw [hl]; congr 1; omega) (fun j h1 h2 => hf j (by omega) (by omega))
  have hd1 : d1.length = P.cellsOf e := by rw [r1.length]; exact l1
  refine ⟨d1 ++ d2, RAll_split (by rw [hd1]; exact r1) (by rw [hd1, List.drop_drop, show i * P.cellsOf e + P.cellsOf e = (i + 1) * P.cellsOf e by rw [Nat.add_mul, Nat.one_mul]]; exact r2), ⟨d1, d2, rfl, s1, s2⟩, by simp [c1, c2]⟩
theorem good_rowsC {n fuel : Nat} {e : TypeId} (hp : C e = true) (hc : 0 < P.cellsOf e) (ih : ∀ t cs x, C t = true → DataW.trod enc P w 0 spare held fuel t cs = some x → GoodRow P w n t cs) {b o : Nat} :
  ∀ (k i : Nat), (∀ j, i ≤ j → j < i + k → ∃ row y, w.cells? 0 ((⟨b, o, none⟩ : Addr).add (j * P.cellsOf e)) (P.cellsOf e) = some row ∧ DataW.trod enc P w 0 spare held fuel e row = some y) →
   ∃ rows, rows.length = k ∧ (∀ r ∈ rows, Sh P n e r) ∧ RRows (wholeMem w) (P.cellsOf e) rows b (o + i * P.cellsOf e)
 | 0, i, _ => ⟨[], rfl, by simp, by simp [RRows]⟩
 | k + 1, i, hf => by
  obtain ⟨row, y, h1, h2⟩ := hf i (Nat.le_refl _) (by omega)
  obtain ⟨ds, r1, s1, l1, c1⟩ := ih _ _ _ hp h2
  obtain ⟨rows, q1, q2, q4⟩ := good_rowsC hp hc ih (b := b) (o := o) k (i + 1) (fun j g1 g2 => hf j (by omega) (by omega))
  obtain ⟨z1, z2, z3⟩ := cells_get hc h1
  rw [addr_add] at z3
  refine ⟨ds :: rows, by simp [q1], fun r hr => ?_, ?_⟩
  ·rcases List.mem_cons.1 hr with rfl | hr
   ·exact s1
   ·exact q2 r hr
  ·simp only [RRows]
   exact ⟨by rw [r1.length]; exact l1, RCells_of _ _ _ r1 z3, by rw [Nat.add_assoc, show i * P.cellsOf e + P.cellsOf e = (i + 1) * P.cellsOf e by rw [Nat.add_mul, Nat.one_mul]]; exact q4⟩
theorem good_trodC {ts : List TypeId} (hts : closedT P ts = true) : ∀ (fuel : Nat) (t : TypeId) (cs : List Value) (x : DataW H × List MemPlace), ts.contains t = true → DataW.trod enc P w 0 spare held fuel t cs = some x → GoodRow P w fuel t cs
 | 0, t, _, _, _, h => by simp [DataW.trod] at h
 | fuel + 1, t, cs, x, hp, h => by
  have ih := good_trodC hts fuel
  have hp : plain1 P (fun e => ts.contains e) t = true := by
   unfold closedT at hts
   rw [List.all_eq_true] at hts
   exact hts t (by simpa using hp)
  unfold plain1 at hp
  unfold DataW.trod at h
  split at hp
  ·rename_i hu
   simp only [beq_iff_eq] at hp
   simp only [hu] at h
   split at h <;> first | (cases h; done) | (rename_i heq; cases heq; done) | (rename_i heq _; cases heq; done) | (rename_i heq _ _; cases heq; done) | skip
   exact good_one (d := .bool _) R_bool rfl (by unfold Sh; simp only [hu]; exact ⟨_, rfl⟩) hp
  ·rename_i k hu
   simp only [beq_iff_eq] at hp
   simp only [hu] at h
   split at h <;> first | (cases h; done) | (rename_i heq; cases heq; done) | (rename_i heq _; cases heq; done) | (rename_i heq _ _; cases heq; done) | skip
   rename_i k1 k2 x1 heq
   cases heq
   split at h
   ·rename_i hk
    obtain ⟨rfl, hwf⟩ := hk
    simp only [Lit.wf, Bool.and_eq_true, decide_eq_true_eq] at hwf
    exact good_one (d := .int _ _) (R_int hwf) rfl (by unfold Sh; simp only [hu]; exact ⟨_, rfl⟩) hp
   ·cases h
  ·rename_i hu
   simp only [beq_iff_eq] at hp
   simp only [hu] at h
   split at h <;> first | (cases h; done) | (rename_i heq; cases heq; done) | (rename_i heq _; cases heq; done) | (rename_i heq _ _; cases heq; done) | skip
   rename_i s1 heq
   split at h
   ·rename_i hl
    cases s1 with
    | mk dd =>
     cases dd with
     | mk ll =>
      refine good_one (d := .str ll) (R_str ?_) rfl (by unfold Sh; simp only [hu]; exact ⟨_, rfl⟩) hp
      have : ll.length ≤ maxLen := hl
      simpa [lim, maxLen] using this
   ·cases h
  ·rename_i e hu
   simp only [Bool.and_eq_true, beq_iff_eq, decide_eq_true_eq] at hp
   obtain ⟨⟨hp1, hp2⟩, hp3⟩ := hp
   simp only [hu] at h
   split at h <;> first | (cases h; done) | (rename_i heq; cases heq; done) | (rename_i heq _; cases heq; done) | (rename_i heq _ _; cases heq; done) | skip
   ·refine good_one (d := .sl (P.cellsOf e) [] .no) ?_ rfl (by unfold Sh; simp only [hu]; exact ⟨[], rfl, by simp⟩) hp1
    simp only [R]
    exact ⟨none, 0, rfl, by simp, by simp, by simp, trivial⟩
   ·rename_i e1 a1 len cap heq
    cases heq
    split at h
    ·rename_i hb
     obtain ⟨_, hb2, hb3⟩ := hb
     simp only [Option.bind_eq_some_iff] at h
     obtain ⟨elems, hel, _⟩ := h
     have each : ∀ j, j < len → ∃ row y, w.cells? 0 (a1.add (j * P.cellsOf e)) (P.cellsOf e) = some row ∧ DataW.trod enc P w 0 spare held fuel e row = some y := by
      intro j hj
      obtain ⟨y, hy⟩ := (mapM_get hel).2 j j (by simp [hj])
      simp only [Option.bind_eq_some_iff] at hy
      obtain ⟨row, h1, h2⟩ := hy
      exact ⟨row, y, h1, h2⟩
     have hlim : len ≤ lim := by have : maxLen = lim := rfl; omega
     rcases Nat.eq_zero_or_pos len with rfl | hpos
     ·refine good_one (d := .sl (P.cellsOf e) [] .no) ?_ rfl (by unfold Sh; simp only [hu]; exact ⟨[], rfl, by simp⟩) hp1
      simp only [R]
      exact ⟨some a1, cap, rfl, by simp, by simp, by simp, trivial⟩
     ·have hsp : a1.spot = none := by
       obtain ⟨row, y, h1, _⟩ := each 0 hpos
       rw [Nat.zero_mul] at h1
       exact (cells_get hp2 h1).1
      cases a1 with
      | mk b o sp =>
       simp only at hsp
       subst hsp
       obtain ⟨rows, q1, q2, q4⟩ := good_rowsC hp3 hp2 ih (b := b) (o := o) len 0 (fun j _ hj => each j (by omega))
       subst q1
       refine good_one (d := .sl (P.cellsOf e) rows .no) ?_ rfl (by unfold Sh; simp only [hu]; exact ⟨rows, rfl, q2⟩) hp1
       simp only [R]
       rw [Nat.zero_mul, Nat.add_zero] at q4
       exact ⟨_, cap, rfl, hb2, hlim, fun _ => ⟨b, o, rfl, q4⟩, trivial⟩
    ·cases h
  ·rename_i fs hu
   simp only [Bool.and_eq_true] at hp
   simp only [hu] at h
   split at h <;> first | (cases h; done) | (rename_i heq; cases heq; done) | (rename_i heq _; cases heq; done) | (rename_i heq _ _; cases heq; done) | skip
   ·rename_i hl
    simp only [Option.map_eq_some_iff] at h
    obtain ⟨xs, hxs, _⟩ := h
    obtain ⟨ds, r1, s1, c1⟩ := good_fieldsC ih fs.toList 0 (P.cellsOf t) hp.1 hp.2 hl (fun f hf => by
      obtain ⟨i, hi, e⟩ := List.getElem_of_mem hf
      exact (mapM_get hxs).2 i f (by rw [List.getElem?_eq_getElem hi, e]))
    exact ⟨ds, by simpa using r1, by unfold Sh; simp only [hu]; exact s1, hl, c1⟩
  ·rename_i k e hu
   simp only [Bool.and_eq_true, beq_iff_eq] at hp
   simp only [hu] at h
   split at h <;> first | (cases h; done) | (rename_i heq; cases heq; done) | (rename_i heq _; cases heq; done) | (rename_i heq _ _; cases heq; done) | skip
   ·rename_i hl
    simp only [Option.map_eq_some_iff] at h
    obtain ⟨xs, hxs, _⟩ := h
    obtain ⟨ds, r1, s1, c1⟩ := good_elemsC hp.2 ih k 0 (by rw [hl, Nat.zero_add]; exact hp.1.symm) (fun j _ hj => (mapM_get hxs).2 j j (List.getElem?_range (by omega)))
    exact ⟨ds, by simpa using r1, by unfold Sh; simp only [hu]; exact s1, hl, c1⟩
  ·cases hp
end
section
variable {H : Type} {enc : TypeId × Value → H} {P : Program} {w : World}
def ArgShC (P : Program) : List TypeId → List D → Prop
 | [], [] => True
 | t :: ts, d :: ds => (∃ n, ArgD P n t d) ∧ ArgShC P ts ds
 | _, _ => False
theorem arg_goodC {ts : List TypeId} (hts : closedT P ts = true) {t : TypeId} {v : Value} {dd : DataW H} {ps : List MemPlace} {base : Nat} (hp : ts.contains t = true) (hval : Value.okWide P w .any base t v) (h : DataW.Trod enc P w 0 (fun _ => true) true t v dd ps) :
  ∃ d, R (wholeMem w) d v ∧ ∃ n, ArgD P n t d := by
 obtain ⟨fuel, h⟩ := h
 obtain ⟨ds, r1, s1, l1, c1⟩ := good_trodC hts fuel t _ _ hp h
 have hp : plain1 P (fun e => ts.contains e) t = true := by
  unfold closedT at hts
  rw [List.all_eq_true] at hts
  exact hts t (by simpa using hp)
 cases fuel with
 | zero => simp [DataW.trod] at h
 | succ n =>
  have one : ∀ (hv : v.cells = #[v]) (hns : ∀ fs, P.underlying t ≠ some (.struct fs)) (hna : ∀ k e, P.underlying t ≠ some (.array k e)), ∃ d, R (wholeMem w) d v ∧ ∃ n, ArgD P n t d := by
   intro hv hns hna
   rw [hv] at r1
   cases ds with
   | nil => simp [RAll] at r1
   | cons d ds =>
    cases ds with
    | cons _ _ => simp [RAll] at r1
    | nil =>
     simp only [RAll, and_true] at r1
     refine ⟨d, r1, n + 1, ?_⟩
     unfold ArgD
     split
     ·rename_i fs hu; exact absurd hu (hns fs)
     ·rename_i k e hu; exact absurd hu (hna k e)
     ·exact s1
  unfold plain1 at hp
  split at hp
  ·rename_i hu
   obtain ⟨b, rfl⟩ := okWide_bool hu hval
   exact one rfl (fun fs => by rw [hu]; simp) (fun k e => by rw [hu]; simp)
  ·rename_i k hu
   obtain ⟨b, rfl⟩ := okWide_int hu hval
   exact one rfl (fun fs => by rw [hu]; simp) (fun k e => by rw [hu]; simp)
  ·rename_i hu
   obtain ⟨b, rfl⟩ := okWide_string hu hval
   exact one rfl (fun fs => by rw [hu]; simp) (fun k e => by rw [hu]; simp)
  ·rename_i e hu
   obtain ⟨a, b, c, rfl⟩ := okWide_slice hu hval
   exact one rfl (fun fs => by rw [hu]; simp) (fun k e => by rw [hu]; simp)
  ·rename_i fs hu
   unfold Value.okWide at hval
   simp only [hu] at hval
   obtain ⟨cs, rfl, _⟩ := hval
   refine ⟨.ag ds, by simp only [R]; exact ⟨cs.toList, by simp, r1⟩, n + 1, ?_⟩
   unfold ArgD
   simp only [hu]
   exact ⟨ds, rfl, s1⟩
  ·rename_i k e hu
   unfold Value.okWide at hval
   simp only [hu] at hval
   obtain ⟨cs, rfl, _⟩ := hval
   refine ⟨.ag ds, by simp only [R]; exact ⟨cs.toList, by simp, r1⟩, n + 1, ?_⟩
   unfold ArgD
   simp only [hu]
   exact ⟨ds, rfl, s1⟩
  ·cases hp
theorem args_goodC {us : List TypeId} (hts : closedT P us = true) {base : Nat} : ∀ {ts : List TypeId} {vs : List Value} {dds : List (DataW H)} {ps : List MemPlace}, (∀ t ∈ ts, us.contains t = true) →
  (∀ (j : Nat) (t : TypeId) (v : Value), ts[j]? = some t → vs[j]? = some v → Value.okWide P w .any base t v) → DataW.TrodAll enc P w 0 (fun _ => true) true ts vs dds ps → ∃ ds, RAll (wholeMem w) ds vs ∧ ArgShC P ts ds
 | [], [], [], _, _, _, _ => ⟨[], by simp [RAll], trivial⟩
 | t :: ts, v :: vs, dd :: dds, ps, hp, hv, ⟨p, q, h1, h2, _⟩ => by
  obtain ⟨d, r1, a1⟩ := arg_goodC hts (hp t (by simp)) (hv 0 t v rfl rfl) h1
  obtain ⟨ds, r2, a2⟩ := args_goodC hts (fun u hu => hp u (List.mem_cons_of_mem _ hu)) (fun j u x hu hx => hv (j + 1) u x (by simpa using hu) (by simpa using hx)) h2
  exact ⟨d :: ds, by simp only [RAll]; exact ⟨r1, r2⟩, a1, a2⟩
 | [], _ :: _, _, _, _, _, h => h.elim
 | [], [], _ :: _, _, _, _, h => h.elim
 | _ :: _, [], _, _, _, _, h => h.elim
 | _ :: _, _ :: _, [], _, _, _, h => h.elim
theorem law_rowC {f : FuncId} {fn : Func} {s : ChangeSpec} {apart fresh handsOn again : Bool} {tb : TypeId} (us : List TypeId) (hts : closedT P us = true) (hl : laidOutB P = true) (hf : P.funcs[f]? = some fn) (hbody : fn.body.isNone = false) (hname : (fn.name == "runtime.NumGoroutine") = false)
  (hvars : s.vars = []) (hres : fn.resultTypes = #[tb]) (htb : P.underlying tb = some .bool)
  (hps : (fn.params.toList.all fun t => us.contains t && P.readableRec t && decide (t < P.types.size)) = true) (hsf : ∀ ds : List (DataW H), ds.length = fn.params.toList.length → s.fn H ds = { results := [.lit (.bool true)], args := ds })
  (hlaw : ∀ Ds, ArgShC P fn.params.toList Ds → PCall P (.func f) Ds (.bool true))
  {W : World} {base : Nat} {args : Array Value} {ds gs : List (DataW H)} {before : List MemPlace} (hval : ∀ (j : Nat) t v, fn.params[j]? = some t → args[j]? = some v → Value.okWide P W .any base t v)
  (hW : DataW.Whole enc P fn.params.toList s.vars apart W args.toList ds gs before) : Calls P f args W fun e W' => ∃ v, e = .returned v ∧ s.post enc P fn apart fresh handsOn again W args v W' := by
 have hps' : ∀ t ∈ fn.params.toList, us.contains t = true ∧ P.readableRec t = true ∧ t < P.types.size := fun t ht => by
  rw [List.all_eq_true] at hps
  have := hps t ht
  simp only [Bool.and_eq_true, decide_eq_true_eq] at this
  exact ⟨this.1.1, this.1.2, this.2⟩
 have hW' := hW
 obtain ⟨p, q, hA, hV, hbe, hfz, hnd⟩ := hW
 obtain ⟨Ds, hR, hS⟩ := args_goodC hts (fun t ht => (hps' t ht).1) (fun j t v ht hv => hval j t v (by simpa using ht) (by simpa using hv)) hA
 have hlen : ds.length = fn.params.toList.length := trodAll_len hA
 have hc := hlaw Ds hS (wholeMem W) W args.toList (Conc.whole W) hR
 rcases hc with ⟨_, hc⟩ | ⟨v, w', hc, _⟩
 ·refine (callsIn_wide.1 hc).mono fun e W' ⟨M', σ', r, st, _, hr, e1, e2⟩ => ?_
  subst e1
  cases e with
  | returned v =>
   simp only [ResR, R] at hr
   subst hr
   exact ⟨_, rfl, law_post hl hvars hres htb (fun t ht => (hps' t ht).2) (hsf ds hlen) hW' st.below⟩
  | panicked l => simp [ResR] at hr
  | outgrown => simp [ResR] at hr
 ·have := callFunc_enter (w := W) hf hbody hname (List.toArray args.toList)
  rw [this] at hc
  cases hc
end
end Go.Proofs.YtinhjbnljbmbcaaGreat
