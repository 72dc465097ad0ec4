/- Own layer, part 3: what an operation that changes no memory computes, as plain data; proved of the model's operations. -/
import Derived.Test.YtgccnkihonmlbaaA2
import Derived.Laws.Concat
import Derived.Laws.Strings2
import Derived.Laws.StructEq
namespace Go.Proofs.Ytgccnkihonmlbaa
open Go Go.RowKit
set_option linter.unusedSimpArgs false
set_option linter.unusedVariables false

abbrev PD := Prop × D
def PD.no : PD := (False, .top)

theorem R_int {M : Mem} {k : IntKind} {n : Int} (h : inR k n) : R M (.int k n) (.int k n) := by simp only [R]; exact ⟨trivial, h⟩
theorem R_bool {M : Mem} {b : Bool} : R M (.bool b) (.bool b) := by simp only [R]
theorem R_str {M : Mem} {s : List UInt8} (h : s.length ≤ lim) : R M (.str s) (.string ⟨s.toArray⟩) := by simp only [R]; exact ⟨trivial, h⟩

/-! ### Constants -/
def D.ofC : Value → D
  | .int k n => if k.min ≤ n ∧ n ≤ k.max then .int k n else .v (.int k n)
  | .bool b => .bool b
  | .string s => if s.data.toList.length ≤ 65536 then .str s.data.toList else .v (.string s)
  | .slice none 0 0 => .sl 0 [] .nil
  | x => .v x
def D.ofV : Value → D
  | .agg cs => .ag (cs.toList.map D.ofC)
  | x => D.ofC x

theorem R_ofC (M : Mem) (x : Value) : R M (D.ofC x) x := by
  unfold D.ofC
  split
  · split
    · rename_i h; exact R_int h
    · simp only [R]
  · simp only [R]
  · rename_i s
    split
    · rename_i h
      cases s with | mk d => cases d with | mk l => exact R_str (by have h' : l.length ≤ 65536 := h; unfold lim; omega)
    · simp only [R]
  · simp only [R]; exact ⟨none, 0, rfl, by simp, by simp, by simp, rfl, rfl⟩
  · simp only [R]

theorem RAll_ofC (M : Mem) : ∀ (l : List Value), RAll M (l.map D.ofC) l
  | [] => by simp [RAll]
  | x :: l => by
    simp only [List.map_cons, RAll]
    exact ⟨R_ofC M x, RAll_ofC M l⟩

theorem R_ofV (M : Mem) (x : Value) : R M (D.ofV x) x := by
  unfold D.ofV
  split
  · rename_i cs
    simp only [R]
    exact ⟨cs.toList, by simp, RAll_ofC M _⟩
  · exact R_ofC M x

/-! ### Operators -/
def ibop (op : BinOp) (k : IntKind) (a b : Int) : PD :=
  match op with
  | .add => (True, .int k (k.wrap (a + b)))
  | .sub => (True, .int k (k.wrap (a - b)))
  | .mul => (True, .int k (k.wrap (a * b)))
  | .quo => (b ≠ 0, .int k (k.wrap (a.tdiv b)))
  | .rem => (b ≠ 0, .int k (a.tmod b))
  | .eql => (True, .bool (decide (a = b)))
  | .neq => (True, .bool (!decide (a = b)))
  | .lss => (True, .bool (decide (a < b)))
  | .leq => (True, .bool (decide (a ≤ b)))
  | .gtr => (True, .bool (decide (b < a)))
  | .geq => (True, .bool (decide (b ≤ a)))
  | _ => PD.no

def shop (op : BinOp) (k : IntKind) (a b : Int) : PD :=
  match op with
  | .shl => (0 ≤ b, .int k (k.wrap (a * 2 ^ (min b.toNat k.bits))))
  | .shr => (0 ≤ b, .int k (a.fdiv (2 ^ (min b.toNat k.bits))))
  | _ => PD.no

def isSh (op : BinOp) : Bool := match op with | .shl | .shr => true | _ => false

def bless (s t : List UInt8) : Bool := Op.bytesLess s t

def sbop (op : BinOp) (s t : List UInt8) : PD :=
  match op with
  | .add => (s.length + t.length ≤ lim, .str (s ++ t))
  | .eql => (True, .bool (decide (s = t)))
  | .neq => (True, .bool (!decide (s = t)))
  | .lss => (True, .bool (bless s t))
  | .leq => (True, .bool (bless s t || decide (s = t)))
  | .gtr => (True, .bool (!(bless s t || decide (s = t))))
  | .geq => (True, .bool (!bless s t))
  | _ => PD.no

def bbop (op : BinOp) (a b : Bool) : PD :=
  match op with
  | .eql => (True, .bool (a == b))
  | .neq => (True, .bool (!(a == b)))
  | _ => PD.no

/-! ### Structs compared, cell by cell -/
def deq1 (P : Program) (t : TypeId) : D → D → Option Bool
  | .int k a, .int k' b => if (ink P t).isSome = true ∧ k = k' then some (decide (a = b)) else none
  | .str s, .str u => if isStrT P t = true then some (decide (s = u)) else none
  | .bool a, .bool b => if isBoolT P t = true then some (a == b) else none
  | _, _ => none
def deqF (P : Program) : List TypeId → List D → List D → Option Bool
  | [], [], [] => some true
  | t :: ts, x :: xs, y :: ys => match deq1 P t x y, deqF P ts xs ys with
    | some a, some b => some (a && b)
    | _, _ => none
  | _, _, _ => none
def flatF (P : Program) : Nat → List Field → Bool
  | _, [] => true
  | n, f :: fs => f.offset == n && f.name != "_" && lsz P f.type == some (false, 1) && flatF P (n + 1) fs
/-- The types of a struct's fields, where each is one cell. -/
def steq (P : Program) (T : TypeId) : Option (List TypeId) :=
  match P.underlying T with
  | some (.struct fs) => if (!P.stoodInHeld T && !P.eqGuardType P.depth T && flatF P 0 fs.toList) = true then some (fs.toList.map (·.type)) else none
  | _ => none
def agop (P : Program) (op : BinOp) (T : TypeId) (xs ys : List D) : PD :=
  match steq P T with
  | some ts => match deqF P ts xs ys with
    | some b => match op with
      | .eql => (True, .bool b)
      | .neq => (True, .bool (!b))
      | _ => PD.no
    | none => PD.no
  | none => PD.no

def bop (P : Program) (op : BinOp) (T : TypeId) (x y : D) : PD :=
  match x, y with
  | .ag xs, .ag ys => agop P op T xs ys
  | .int k a, .int k' b => if isSh op then shop op k a b else ((k = k' ∧ (ibop op k a b).1), (ibop op k a b).2)
  | .str s, .str t => sbop op s t
  | .bool a, .bool b => (isBoolT P T = true ∧ (bbop op a b).1, (bbop op a b).2)
  | _, _ => PD.no

section
variable {P : Program} {M : Mem} {w : World}

theorem ibop_sound {op : BinOp} {k : IntKind} {a b : Int} {T : TypeId} (ha : inR k a) (hs : isSh op = false) (h : (ibop op k a b).1) :
    ∃ v, (binOp op T (.int k a) (.int k b)).run P w = .ok v w ∧ R M (ibop op k a b).2 v := by
  cases op <;> simp only [isSh, Bool.true_eq_false] at hs <;> simp only [ibop, PD.no] at h ⊢ <;>
    simp only [binOp, ne_eq, not_true_eq_false, if_false, Op.intArith, Op.intDiv, Op.intCmp, Sem.run_pure]
  · exact ⟨_, rfl, R_int (inR_wrap _ _)⟩
  · exact ⟨_, rfl, R_int (inR_wrap _ _)⟩
  · exact ⟨_, rfl, R_int (inR_wrap _ _)⟩
  · rw [if_neg h]; exact ⟨_, rfl, R_int (inR_wrap _ _)⟩
  · rw [if_neg h]; exact ⟨_, rfl, R_int (inR_tmod _ ha)⟩
  · exact ⟨_, rfl, R_bool⟩
  · exact ⟨_, rfl, R_bool⟩
  · exact ⟨_, rfl, R_bool⟩
  · exact ⟨_, rfl, R_bool⟩
  · exact ⟨_, rfl, R_bool⟩
  · exact ⟨_, rfl, R_bool⟩

theorem shop_sound {op : BinOp} {k k' : IntKind} {a b : Int} {T : TypeId} (ha : inR k a) (hs : isSh op = true) (h : (shop op k a b).1) :
    ∃ v, (binOp op T (.int k a) (.int k' b)).run P w = .ok v w ∧ R M (shop op k a b).2 v := by
  cases op <;> simp only [isSh, Bool.false_eq_true] at hs <;> simp only [shop] at h ⊢ <;>
    simp only [binOp, Op.shift] <;> rw [if_neg (by omega)]
  · exact ⟨_, rfl, R_int (inR_wrap _ _)⟩
  · exact ⟨_, rfl, R_int (inR_fdiv _ ha)⟩

theorem beq_bytes (s t : List UInt8) : (s == t) = decide (s = t) := by rw [Bool.eq_iff_iff]; simp

theorem sbop_sound {op : BinOp} {s t : List UInt8} {T : TypeId} (h : (sbop op s t).1) :
    ∃ v, (binOp op T (.string ⟨s.toArray⟩) (.string ⟨t.toArray⟩)).run P w = .ok v w ∧ R M (sbop op s t).2 v := by
  cases op <;> simp only [sbop, PD.no] at h ⊢ <;> simp only [binOp, Op.stringOp, ByteArray.toList_mk, Sem.run_pure, beq_bytes]
  · have e : ¬ (((ByteArray.mk s.toArray).size + (ByteArray.mk t.toArray).size : Nat) : Int) > IntKind.i64.max := by
      unfold lim at h
      simp only [ByteArray.size, List.size_toArray]
      show ¬ _ > (9223372036854775807 : Int)
      omega
    rw [if_neg e, ByteArray.mk_append_mk]
    exact ⟨_, rfl, R_str (by simpa using h)⟩
  all_goals exact ⟨_, rfl, R_bool⟩

theorem run_equal_bool {T : TypeId} {a b : Bool} (hu : P.underlying T = some .bool) : (Op.equal T (.bool a) (.bool b)).run P w = .ok (a == b) w := by
  unfold Op.equal
  rw [show Op.maxDepth = 9999 + 1 from rfl, Op.equalIn]
  simp only [Sem.run_bind, run_underlying' hu, Result.andThen_ok, Sem.run_pure]

theorem bbop_sound {op : BinOp} {a b : Bool} {T : TypeId} (hT : isBoolT P T = true) (h : (bbop op a b).1) :
    ∃ v, (binOp op T (.bool a) (.bool b)).run P w = .ok v w ∧ R M (bbop op a b).2 v := by
  have hu : P.underlying T = some .bool := by
    unfold isBoolT at hT
    split at hT
    · assumption
    · cases hT
  cases op <;> simp only [bbop, PD.no] at h ⊢ <;>
    simp only [binOp, Sem.run_bind, run_equal_bool hu, Result.andThen_ok, Sem.run_pure]
  · exact ⟨_, rfl, R_bool⟩
  · exact ⟨_, rfl, R_bool⟩

theorem deq1_sound {t : TypeId} {x y : D} {a b : Value} {d : Nat} {r : Bool} (h : deq1 P t x y = some r) (hx : R M x a) (hy : R M y b) : (Op.equalIn (d + 1) t a b).run P w = .ok r w := by
  unfold deq1 at h
  split at h
  · rename_i k a' k' b'
    simp only [R] at hx hy
    obtain ⟨rfl, _⟩ := hx
    obtain ⟨rfl, _⟩ := hy
    split at h
    · rename_i hk
      obtain ⟨hk, rfl⟩ := hk
      cases h
      unfold ink at hk
      split at hk
      · rename_i k' hu
        rw [run_equalIn_int w d t k k' a' b' hu, show (a' == b') = decide (a' = b') from rfl]
      · cases hk
    · cases h
  · rename_i s u
    simp only [R] at hx hy
    obtain ⟨rfl, _⟩ := hx
    obtain ⟨rfl, _⟩ := hy
    split at h
    · rename_i hk
      cases h
      have hu : P.underlying t = some .string := by
        unfold isStrT at hk
        split at hk
        · assumption
        · cases hk
      rw [run_equalIn_string w d t _ _ hu]
      simp only [ByteArray.toList_mk, beq_bytes]
    · cases h
  · rename_i a' b'
    simp only [R] at hx hy
    subst hx; subst hy
    split at h
    · rename_i hk
      cases h
      have hu : P.underlying t = some .bool := by
        unfold isBoolT at hk
        split at hk
        · assumption
        · cases hk
      rw [run_equalIn_bool' w d t _ _ hu]
    · cases h
  · cases h

theorem deqF_sound {d : Nat} {xs ys : List D} {vs us : List Value} (hv : RAll M xs vs) (hu : RAll M ys us) : ∀ (fs : List Field) (n : Nat) (r : Bool), flatF P n fs = true → deqF P (fs.map (·.type)) (xs.drop n) (ys.drop n) = some r →
    (Op.eqFields (d + 1) (List.toArray vs) (List.toArray us) fs).run P w = .ok r w
  | [], n, r, _, h => by
    rw [List.map_nil] at h
    generalize xs.drop n = a at h
    generalize ys.drop n = b at h
    cases a <;> cases b <;> simp [deqF] at h
    subst h
    rfl
  | f :: fs, n, r, hf, h => by
    simp only [flatF, Bool.and_eq_true, beq_iff_eq, bne_iff_ne, ne_eq] at hf
    obtain ⟨⟨⟨ho, hn⟩, hl⟩, hf⟩ := hf
    cases hxs : xs.drop n with
    | nil => rw [hxs] at h; simp [deqF] at h
    | cons x xs' =>
      cases hys : ys.drop n with
      | nil => rw [hxs, hys] at h; simp [deqF] at h
      | cons y ys' =>
        rw [hxs, hys] at h
        simp only [List.map_cons, deqF] at h
        split at h
        · rename_i a b h1 h2
          cases h
          have lx : n < xs.length := by
            rcases Nat.lt_or_ge n xs.length with h | h
            · exact h
            · rw [List.drop_eq_nil_of_le h] at hxs; cases hxs
          have ly : n < ys.length := by
            rcases Nat.lt_or_ge n ys.length with h | h
            · exact h
            · rw [List.drop_eq_nil_of_le h] at hys; cases hys
          obtain ⟨v1, p1, r1⟩ := run_part (P := P) (w := w) (off := f.offset) hl hv (by simpa [ho] using lx)
          obtain ⟨v2, p2, r2⟩ := run_part (P := P) (w := w) (off := f.offset) hl hu (by simpa [ho] using ly)
          rw [ho, hxs] at r1
          rw [ho, hys] at r2
          simp only [ldD, Bool.false_eq_true, if_false, List.headD_cons] at r1 r2
          have e := deq1_sound (w := w) (d := d) h1 r1 r2
          have ex : xs' = xs.drop (n + 1) := by rw [← List.drop_drop, hxs]; rfl
          have ey : ys' = ys.drop (n + 1) := by rw [← List.drop_drop, hys]; rfl
          rw [ex, ey] at h2
          have ih := deqF_sound (d := d) hv hu fs (n + 1) b hf h2
          simp only [Op.eqFields, ne_eq, hn, not_false_eq_true, if_true, Sem.run_bind, p1, p2, Result.andThen_ok, e]
          cases a
          · simp only [Bool.not_false, if_true, Sem.run_pure, Bool.false_and]
          · simp only [Bool.not_true, Bool.false_eq_true, if_false, ih, Bool.true_and]
        · cases h

theorem agop_sound {op : BinOp} {T : TypeId} {xs ys : List D} {a b : Value} {ox oy : Operand} (h : (agop P op T xs ys).1) (hx : R M (.ag xs) a) (hy : R M (.ag ys) b) :
    ∃ v, (do eqGuard op T ox oy a b; binOp op T a b : Sem Value).run P w = .ok v w ∧ R M (agop P op T xs ys).2 v := by
  simp only [R] at hx hy
  obtain ⟨vs, rfl, hv⟩ := hx
  obtain ⟨us, rfl, hu⟩ := hy
  unfold agop at h ⊢
  split at h
  · rename_i ts hs
    split at h
    · rename_i r hr
      unfold steq at hs
      split at hs
      · rename_i fs hT
        split at hs
        · rename_i hc
          cases hs
          simp only [Bool.and_eq_true, Bool.not_eq_true'] at hc
          obtain ⟨⟨h1, h2⟩, h3⟩ := hc
          have hT' : P.underlying T = some (.struct (P.fieldsOf T)) := by unfold Program.fieldsOf; rw [hT]
          have e : (Op.equalIn 10000 T (.agg (List.toArray vs)) (.agg (List.toArray us))).run P w = .ok r w := by
            rw [run_equalIn_agg w 9999 T _ _ hT' h1]
            have e2 : P.fieldsOf T = fs := by unfold Program.fieldsOf; rw [hT]
            rw [e2]
            exact deqF_sound (d := 9998) hv hu fs.toList 0 r h3 (by simpa using hr)
          simp only [Sem.run_bind, run_eqGuard_agg w op T ox oy _ _ h2, Result.andThen_ok]
          cases op <;> first | exact h.elim | (rw [run_eql_struct, e]; exact ⟨_, rfl, R_bool⟩) | (rw [run_neq_struct, e]; exact ⟨_, rfl, R_bool⟩)
        · cases hs
      · cases hs
    · exact h.elim
  · exact h.elim

theorem bop_sound {op : BinOp} {T : TypeId} {x y : D} {a b : Value} {ox oy : Operand} (h : (bop P op T x y).1) (hx : R M x a) (hy : R M y b) :
    ∃ v, (do eqGuard op T ox oy a b; binOp op T a b : Sem Value).run P w = .ok v w ∧ R M (bop P op T x y).2 v := by
  unfold bop at h ⊢
  split
  · exact agop_sound h hx hy
  · rename_i k a' k' b'
    simp only [R] at hx hy
    obtain ⟨rfl, ha⟩ := hx
    obtain ⟨rfl, _⟩ := hy
    have hg : (eqGuard op T ox oy (.int k a') (.int k' b')).run P w = .ok () w := by unfold eqGuard; split <;> rfl
    simp only [Sem.run_bind, hg, Result.andThen_ok]
    cases hs : isSh op with
    | true =>
      simp only [hs, if_true] at h ⊢
      exact shop_sound ha hs h
    | false =>
      simp only [hs, Bool.false_eq_true, if_false] at h ⊢
      obtain ⟨rfl, h⟩ := h
      exact ibop_sound ha hs h
  · rename_i s t
    simp only [R] at hx hy
    obtain ⟨rfl, _⟩ := hx
    obtain ⟨rfl, _⟩ := hy
    have hg : (eqGuard op T ox oy (.string ⟨s.toArray⟩) (.string ⟨t.toArray⟩)).run P w = .ok () w := by unfold eqGuard; split <;> rfl
    simp only [Sem.run_bind, hg, Result.andThen_ok]
    exact sbop_sound h
  · rename_i s t
    simp only [R] at hx hy
    subst hx; subst hy
    have hg : (eqGuard op T ox oy (.bool s) (.bool t)).run P w = .ok () w := by unfold eqGuard; split <;> rfl
    simp only [Sem.run_bind, hg, Result.andThen_ok]
    exact bbop_sound h.1 h.2
  · rename_i h0 h1 h2 h3
    split at h
    · exact absurd rfl (h0 _ _ rfl)
    · exact absurd rfl (h1 _ _ _ _ rfl)
    · exact absurd rfl (h2 _ _ rfl)
    · exact absurd rfl (h3 _ _ rfl)
    · exact h.elim
end

/-! ### Guarded values -/
def D.core : D → D
  | .cnd _ d => d
  | d => d
def D.cg : D → Bool
  | .cnd g _ => g
  | _ => true

theorem R.core {M : Mem} {d : D} {y : Value} (h : R M d y) (hg : d.cg = true) : R M d.core y := by
  cases d <;> try exact h
  simp only [R] at h
  exact h.1 hg

def isB (d : D) : Prop := match d.core with
  | .bool _ => True
  | _ => False
def bof (d : D) : Bool := match d.core with
  | .bool p => p
  | _ => false
def qpick (c a b : D) : PD :=
  match c with
  | .bool t => ((t = true → a.cg = true ∧ isB a) ∧ (t = false → b.cg = true ∧ isB b), .bool (bif t then bof a else bof b))
  | _ => PD.no

def quop (op : UnOp) (x : D) : PD :=
  match op, x with
  | .not, .bool b => (True, .bool (!b))
  | .neg, .int k n => (True, .int k (k.wrap (0 - n)))
  | _, _ => PD.no

def rowByte : List D → Option UInt8
  | [.int .u8 n] => some (UInt8.ofNat n.toNat)
  | _ => none
def rowsBytes : List (List D) → Option (List UInt8)
  | [] => some []
  | r :: rs => match rowByte r, rowsBytes rs with
    | some b, some bs => some (b :: bs)
    | _, _ => none

def qconv (P : Program) (σ : Store) (s d : TypeId) (x : D) : PD :=
  match x with
  | .arr b sz n _ => match σ.get b with
    | some (.arr sz' rows _) => match sle P s, rowsBytes rows with
      | some (e, _, m), some bs => (ink P e = some .u8 ∧ isStrT P d = true ∧ m = 1 ∧ sz = 1 ∧ sz' = 1 ∧ n = rows.length ∧ rows.length ≤ lim, .str bs)
      | _, _ => PD.no
    | _ => PD.no
  | .int _ n => match ink P d with
    | some k => (knownT P s = true, .int k (k.wrap n))
    | none => PD.no
  | .str l => (knownT P s = true ∧ isStrT P d = true, .str l)
  | .sl _ rows _ => match sle P s, rowsBytes rows with
    | some (e, _, n), some bs => (ink P e = some .u8 ∧ isStrT P d = true ∧ n = 1, .str bs)
    | _, _ => PD.no
  | _ => PD.no

def qfield (P : Program) (T : TypeId) (i : Nat) (x : D) : PD :=
  match fld P T i, x with
  | some (off, g, n), .ag cs => (off + n ≤ cs.length ∧ 0 < n, ldD g n (cs.drop off))
  | _, _ => PD.no

def qfaddr (P : Program) (T : TypeId) (i : Nat) (x : D) : PD :=
  match fld P T i, x with
  | some (off, _, n), .el cs => (0 < n, .el (cs.drop off))
  | some (off, _, n), .ptr b o => (0 < n, .ptr b (o + off))
  | _, _ => PD.no

def rowAt (rows : List (List D)) (i : Nat) : List D := rows.getD i []

def qiaddr (P : Program) (T : TypeId) (x i : D) : PD :=
  match x, i with
  | .sl sz rows _, .int _ n => match sle P T with
    | some (_, _, s) => ((0 ≤ n ∧ n < rows.length) ∧ sz = s, .el (rowAt rows n.toNat))
    | none => PD.no
  | .arr b sz l _, .int _ n => match sle P T with
    | some (_, _, s) => ((0 ≤ n ∧ n < l) ∧ sz = s, .ptr b (n.toNat * s))
    | none => PD.no
  | .ptr b o, .int _ n => match are P T with
    | some (l, _, s) => (0 ≤ n ∧ n < l, .ptr b (o + n.toNat * s))
    | none => PD.no
  | .el cs, .int _ n => match are P T with
    | some (l, _, s) => (0 ≤ n ∧ n < l, .el (cs.drop (n.toNat * s)))
    | none => PD.no
  | _, _ => PD.no

def qindex (P : Program) (T : TypeId) (x i : D) : PD :=
  match x, i with
  | .str s, .int _ n => (isStrT P T = true ∧ 0 ≤ n ∧ n < s.length, .int .u8 ((s.getD n.toNat 0).toNat : Int))
  | .ag cs, .int _ n => match are P T with
    | some (l, g, s) => (0 ≤ n ∧ n < l ∧ n.toNat * s + s ≤ cs.length ∧ 0 < s, ldD g s (cs.drop (n.toNat * s)))
    | none => PD.no
  | _, _ => PD.no

def ldC (g : Bool) (n : Nat) (cs : List D) : PD := (n ≤ cs.length ∧ 0 < n, ldD g n cs)

def boxCells (σ : Store) (b : Nat) : Option (List D) :=
  match σ.get b with
  | some (.cells cs) => some cs
  | some (.arr _ rows _) => some rows.flatten
  | _ => none

def qload (P : Program) (σ : Store) (T : TypeId) (x : D) : PD :=
  match lsz P T, x with
  | some (g, n), .el cs => ldC g n cs
  | some (g, n), .ptr b o => match boxCells σ b with
    | some cs => ldC g n (cs.drop o)
    | none => PD.no
  | _, _ => PD.no

/-! ### Maps -/
def mpt (P : Program) (T : TypeId) : Option (TypeId × TypeId) :=
  match P.underlying T with
  | some (.map k e) => some (k, e)
  | _ => none
/-- A key that is compared at once. -/
def keyOK (P : Program) (k : TypeId) : D → Bool
  | .int _ _ => (ink P k).isSome
  | .str _ => isStrT P k
  | _ => false
def keqD : D → D → Option Bool
  | .int k a, .int k' b => if k = k' then some (decide (a = b)) else none
  | .str s, .str t => some (decide (s = t))
  | _, _ => none
def mget (k : D) : List (D × D) → Option (Option D)
  | [] => some none
  | e :: es => match keqD k e.1 with
    | some true => some (some e.2)
    | some false => mget k es
    | none => none
def mput (k v : D) : List (D × D) → Option (List (D × D))
  | [] => some [(k, v)]
  | e :: es => match keqD k e.1 with
    | some true => some ((k, v) :: es)
    | some false => (mput k v es).map fun l => e :: l
    | none => none
def zval (P : Program) (T : TypeId) : Option D := ((P.info? T).bind (·.zero)).map D.ofV
def ments (σ : Store) : D → Option (List (D × D))
  | .mp b => match σ.get b with
    | some (.map es) => some es
    | _ => none
  | .v (.map none) => some []
  | _ => none
def lookD (ok : Bool) (z : D) (r : Option D) : D := if ok = true then .tup [r.getD z, .bool r.isSome] else r.getD z
def qlook (P : Program) (σ : Store) (T : TypeId) (x i : D) (ok : Bool) : PD :=
  match mpt P T, ments σ x with
  | some (k, e), some es => match mget i es, zval P e with
    | some r, some z => (keyOK P k i = true, lookD ok z r)
    | _, _ => PD.no
  | _, _ => PD.no

def qextract (x : D) (i : Nat) : PD :=
  match x with
  | .tup ds => match ds[i]? with
    | some d => (True, d)
    | none => PD.no
  | _ => PD.no

def qiface (P : Program) (T : TypeId) (x : D) : PD := (knownT P T = true ∧ isIfaceT P T = false, .ifc T x)

def ob (x : Option D) (dflt : Nat) : Option Int :=
  match x with
  | none => some dflt
  | some (.int _ n) => some n
  | some _ => none

/-- The spare room of a part of a slice. -/
def cutTok (t : Tok) (n lo hi : Int) (mx : Option Int) : Tok :=
  match mx with
  | some m => if m = hi then .full else .no
  | none => if lo = 0 ∧ hi = n then t else .no

def qslice (P : Program) (T : TypeId) (x : D) (lo hi mx : Option D) : PD :=
  match x with
  | .str s => match ob lo 0, ob hi s.length, mx with
    | some l, some h, none => (isStrT P T = true ∧ 0 ≤ l ∧ l ≤ h ∧ h ≤ s.length, .str ((s.take h.toNat).drop l.toNat))
    | _, _, _ => PD.no
  | .arr b sz n cap => match sle P T, ob lo 0, ob hi n, mx with
    | some _, some l, some h, none => (l = 0 ∧ 0 ≤ h ∧ h ≤ cap, .arr b sz h.toNat cap)
    | _, _, _, _ => PD.no
  | .sl sz rows t => match sle P T, ob lo 0, ob hi rows.length, mx with
    | some (_, _, s), some l, some h, none => ((rows = [] ∨ sz = s) ∧ 0 ≤ l ∧ l ≤ h ∧ h ≤ rows.length, .sl sz ((rows.take h.toNat).drop l.toNat) (if l = 0 ∧ h = rows.length then t else .no))
    | some (_, _, s), some l, some h, some (.int _ m) => ((rows = [] ∨ sz = s) ∧ 0 ≤ l ∧ l ≤ h ∧ m = h ∧ h ≤ rows.length ∧ hi.isSome = true, .sl sz ((rows.take h.toNat).drop l.toNat) .full)
    | _, _, _, _ => PD.no
  | _ => PD.no

def mm (f : Int → Int → Int) (k : IntKind) : List D → Option Int
  | [.int k' n] => if k' = k then some n else none
  | .int k' n :: ds => if k' = k then (mm f k ds).map (fun m => f n m) else none
  | _ => none

def mnI (a b : Int) : Int := if b < a then b else a
def mxI (a b : Int) : Int := if b > a then b else a

def foldI (f : Int → Int → Int) (k : IntKind) : Int → List D → Option Int
  | a, [] => some a
  | a, .int k' n :: ds => if k' = k then foldI f k (f a n) ds else none
  | _, _ => none

def qbuiltin (P : Program) (σ : Store) (b : Builtin) (ts : Array TypeId) (xs : List D) : PD :=
  match b, xs with
  | .len, [.str s] => (∃ t, ts[0]? = some t ∧ isStrT P t = true, .int .i64 s.length)
  | .len, [.sl _ rows _] => (∃ t, ts[0]? = some t ∧ (sle P t).isSome = true, .int .i64 rows.length)
  | .len, [.arr _ _ n _] => (∃ t, ts[0]? = some t ∧ (sle P t).isSome = true ∧ n ≤ lim, .int .i64 n)
  | .cap, [.sl _ rows .full] => (∃ t, ts[0]? = some t ∧ (sle P t).isSome = true, .int .i64 rows.length)
  | .cap, [.sl _ _ .nil] => (∃ t, ts[0]? = some t ∧ (sle P t).isSome = true, .int .i64 0)
  | .cap, [.arr _ _ _ c] => (∃ t, ts[0]? = some t ∧ (sle P t).isSome = true ∧ c ≤ lim, .int .i64 c)
  | .min, .int k a :: ds => match foldI mnI k a ds with
    | some n => (True, .int k n)
    | none => PD.no
  | .max, .int k a :: ds => match foldI mxI k a ds with
    | some n => (True, .int k n)
    | none => PD.no
  | _, _ => PD.no

/-- Zero cells and the places of the parts of a struct or an array. -/
def zp (P : Program) (T : TypeId) : Option (List D × List (Nat × Nat)) :=
  match (P.info? T).bind (·.zero), P.underlying T with
  | some z, some (.struct fs) =>
    match fs.toList.mapM (fun f => (lsz P f.type).map fun x => (f.offset, x.2)) with
    | some pl => some (z.cells.toList.map D.ofC, pl)
    | none => none
  | some z, some (.array n e) =>
    match lsz P e with
    | some x => some (z.cells.toList.map D.ofC, (List.range n).map fun i => (i * x.2, x.2))
    | none => none
  | _, _ => none

def putCells (cs : List D) (off : Nat) (ds : List D) : List D := cs.take off ++ ds ++ cs.drop (off + ds.length)

def fillD (pl : List (Nat × Nat)) : List D → List (Nat × D) → Option (List D)
  | cs, [] => some cs
  | cs, (i, d) :: rest => match pl[i]? with
    | some (off, n) => if d.cellsOf.length = n ∧ off + n ≤ cs.length then fillD pl (putCells cs off d.cellsOf) rest else none
    | none => none

def D.flat (d : D) : Bool :=
  match d with
  | .ag _ => true
  | d => d.isCell

def qbuild (P : Program) (T : TypeId) (parts : List (Nat × D)) : PD :=
  match zp P T with
  | some (z, pl) => match fillD pl z parts with
    | some cs => (parts.all (·.2.flat) = true, .ag cs)
    | none => PD.no
  | none => PD.no

def qnil (x : D) : PD :=
  match x with
  | .ptr b o => (True, .ptr b o)
  | .el cs => (True, .el cs)
  | .fn (.func f) fs cs => (True, .fn (.func f) fs cs)
  | .fn (.yield l) fs cs => (True, .fn (.yield l) fs cs)
  | _ => PD.no

def qev (P : Program) (σ : Store) (ρ : Operand → D) : Op → PD
  | .move x | .assign x => (True, ρ x)
  | .pick c a b => qpick (ρ c) (ρ a) (ρ b)
  | .binOp op T x y _ => bop P op T (ρ x) (ρ y)
  | .unOp op _ x => quop op (ρ x)
  | .convert s d x => qconv P σ s d (ρ x)
  | .field T x i => qfield P T i (ρ x)
  | .fieldAddr T x i => qfaddr P T i (ρ x)
  | .indexAddr T x i => qiaddr P T (ρ x) (ρ i)
  | .index T x i => qindex P T (ρ x) (ρ i)
  | .load T a => qload P σ T (ρ a)
  | .lookup T x i ok => qlook P σ T (ρ x) (ρ i) ok
  | .extract x i => qextract (ρ x) i
  | .build T parts => qbuild P T (parts.toList.map fun p => (p.1, ρ p.2))
  | .makeInterface T x => qiface P T (ρ x)
  | .makeFunc f fs cs => (True, .fn f (fs.toList.map ρ) (cs.toList.map ρ))
  | .slice T x lo hi mx => qslice P T (ρ x) (lo.map ρ) (hi.map ρ) (mx.map ρ)
  | .nilCheck x => qnil (ρ x)
  | .call { callee := .builtin b, args := xs, argTypes := ts } => qbuiltin P σ b ts (xs.toList.map ρ)
  | _ => PD.no

end Go.Proofs.Ytgccnkihonmlbaa
