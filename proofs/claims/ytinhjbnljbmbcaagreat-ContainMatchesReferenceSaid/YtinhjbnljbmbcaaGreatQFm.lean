/- Joined. -/
import Derived.Test.YtinhjbnljbmbcaaGreatQ06
import Derived.Test.YtinhjbnljbmbcaaGreatQ03
import Derived.Test.YtinhjbnljbmbcaaGreatRows
namespace Go.Proofs.YtinhjbnljbmbcaaGreat
open Go Go.RowKit Go.ChangeShapes Go.WideShapes
set_option linter.unusedSimpArgs false
set_option linter.unusedVariables false
set_option linter.constructorNameAsVariable false
set_option maxRecDepth 100000
theorem own_ : ownKnob Tryz.prog.godebug = none := by kernel_rfl
theorem laidOut_ : laidOutB Tryz.prog = true := by kernel_rfl
section
variable {n : Nat} {t e : TypeId} {k : IntKind} {ds : List D}
theorem sh_int (ht : Tryz.prog.underlying t = some (.int k)) (h : Sh Tryz.prog n t ds) : ∃ x, ds = [.int k x] := by
 cases n with
 | zero => exact h.elim
 | succ n => simpa only [Sh, ht] using h
theorem sh_str (ht : Tryz.prog.underlying t = some .string) (h : Sh Tryz.prog n t ds) : ∃ s, ds = [.str s] := by
 cases n with
 | zero => exact h.elim
 | succ n => simpa only [Sh, ht] using h
theorem sh_bool (ht : Tryz.prog.underlying t = some .bool) (h : Sh Tryz.prog n t ds) : ∃ s, ds = [.bool s] := by
 cases n with
 | zero => exact h.elim
 | succ n => simpa only [Sh, ht] using h
theorem sh_list {α : Type} {row : α → List D} {sz : Nat} (ht : Tryz.prog.underlying t = some (.slice e)) (hc : Tryz.prog.cellsOf e = sz) (hrow : ∀ m ds, Sh Tryz.prog m e ds → ∃ x, ds = row x) (h : Sh Tryz.prog n t ds) : ∃ l : List α, ds = [.sl sz (l.map row) .no] := by
 cases n with
 | zero => exact h.elim
 | succ n =>
  simp only [Sh, ht, hc] at h
  obtain ⟨rows, rfl, h⟩ := h
  obtain ⟨l, rfl⟩ := sh_rows (fun ds h => hrow n ds h) h
  exact ⟨l, rfl⟩
end
theorem cells3 : Tryz.prog.cellsOf 107 = 3 := by kernel_rfl
theorem sh_node (n : Nat) (ds : List D) (h : Sh Tryz.prog n 45 ds) : ∃ x : Nd, ds = nrow x := by
 cases n with
 | zero => exact h.elim
 | succ n =>
  simp only [Sh, Tryz.underlying45, ShF] at h
  obtain ⟨_, _, rfl, ha, _, _, rfl, hb, _, _, rfl, hc, _, _, rfl, hd, _, _, rfl, he, rfl⟩ := h
  obtain ⟨a, rfl⟩ := sh_int Tryz.underlying3 ha
  obtain ⟨b, rfl⟩ := sh_int Tryz.underlying3 hb
  obtain ⟨c, rfl⟩ := sh_int Tryz.underlying3 hc
  obtain ⟨d, rfl⟩ := sh_int Tryz.underlying3 hd
  obtain ⟨e, rfl⟩ := sh_str Tryz.underlying9 he
  exact ⟨⟨a, b, c, d, e⟩, rfl⟩
theorem sh_test (n : Nat) (ds : List D) (h : Sh Tryz.prog n 117 ds) : ∃ x : Ts, ds = trow x := by
 cases n with
 | zero => exact h.elim
 | succ n =>
  simp only [Sh, Tryz.underlying117, ShF] at h
  obtain ⟨_, _, rfl, ha, _, _, rfl, hb, _, _, rfl, hc, _, _, rfl, hd, rfl⟩ := h
  obtain ⟨a, rfl⟩ := sh_int Tryz.underlying3 ha
  obtain ⟨b, rfl⟩ := sh_int Tryz.underlying3 hb
  obtain ⟨c, rfl⟩ := sh_int Tryz.underlying3 hc
  obtain ⟨d, rfl⟩ := sh_bool Tryz.underlying4 hd
  exact ⟨⟨a, b, c, d⟩, rfl⟩
theorem sh_term (n : Nat) (ds : List D) (h : Sh Tryz.prog n 120 ds) : ∃ x : Tm, ds = tmrow x := by
 cases n with
 | zero => exact h.elim
 | succ n =>
  simp only [Sh, Tryz.underlying120, ShF] at h
  obtain ⟨_, _, rfl, ha, _, _, rfl, hb, rfl⟩ := h
  obtain ⟨a, rfl⟩ := sh_int Tryz.underlying3 ha
  obtain ⟨b, rfl⟩ := sh_int Tryz.underlying3 hb
  exact ⟨⟨a, b⟩, rfl⟩
theorem sh_ex : ∀ (n : Nat) (ds : List D), Sh Tryz.prog n 107 ds → ∃ x : Ex, ds = [.int .i64 x.op, .int .i64 x.num, .sl 3 (x.kids.map erow) .no]
 | 0, _, h => h.elim
 | 1, _, h => by
  simp only [Sh, Tryz.underlying107, ShF] at h
  obtain ⟨_, _, _, ha, _⟩ := h
  exact ha.elim
 | n + 2, ds, h => by
  have ih := sh_ex n
  rw [Sh] at h
  simp only [Tryz.underlying107, ShF] at h
  obtain ⟨_, _, rfl, ha, _, _, rfl, hb, _, _, rfl, hc, rfl⟩ := h
  obtain ⟨a, rfl⟩ := sh_int Tryz.underlying3 ha
  obtain ⟨b, rfl⟩ := sh_int Tryz.underlying3 hb
  simp only [Sh, Tryz.underlying105, cells3] at hc
  obtain ⟨rows, rfl, hc⟩ := hc
  obtain ⟨l, rfl⟩ := sh_rows (f := erow) (fun ds h => by obtain ⟨x, e⟩ := ih ds h; exact ⟨x, e.trans (erow_eq x).symm⟩) hc
  exact ⟨.mk a b l, rfl⟩
theorem sh_decl (n : Nat) (ds : List D) (h : Sh Tryz.prog n 109 ds) : ∃ x : Dc, ds = dcrow x := by
 cases n with
 | zero => exact h.elim
 | succ n =>
  simp only [Sh, Tryz.underlying109, ShF] at h
  obtain ⟨_, _, rfl, ha, _, _, rfl, hb, rfl⟩ := h
  obtain ⟨a, rfl⟩ := sh_int Tryz.underlying3 ha
  obtain ⟨b, rfl⟩ := sh_ex _ _ hb
  exact ⟨⟨a, b⟩, rfl⟩
theorem c126 : Tryz.prog.cellsOf 117 = 4 := by kernel_rfl
theorem c128 : Tryz.prog.cellsOf 120 = 2 := by kernel_rfl
theorem c109 : Tryz.prog.cellsOf 109 = 4 := by kernel_rfl
theorem c67 : Tryz.prog.cellsOf 45 = 5 := by kernel_rfl
theorem c96 : Tryz.prog.cellsOf 114 = 4 := by kernel_rfl
theorem c87 : Tryz.prog.cellsOf 132 = 2 := by kernel_rfl
theorem c89 : Tryz.prog.cellsOf 134 = 3 := by kernel_rfl
theorem c62 : Tryz.prog.cellsOf 60 = 2 := by kernel_rfl
theorem c9 : Tryz.prog.cellsOf 9 = 1 := by kernel_rfl
theorem c65 : Tryz.prog.cellsOf 63 = 3 := by kernel_rfl
theorem sh_rule (n : Nat) (ds : List D) (h : Sh Tryz.prog n 114 ds) : ∃ x : Ru, ds = rurow x := by
 cases n with
 | zero => exact h.elim
 | succ n =>
  simp only [Sh, Tryz.underlying114, ShF] at h
  obtain ⟨_, _, rfl, ha, _, _, rfl, hb, _, _, rfl, hc, _, _, rfl, hd, rfl⟩ := h
  obtain ⟨a, rfl⟩ := sh_int Tryz.underlying3 ha
  obtain ⟨b, rfl⟩ := sh_list Tryz.underlying110 c126 sh_test hb
  obtain ⟨c, rfl⟩ := sh_list Tryz.underlying111 c128 sh_term hc
  obtain ⟨d, rfl⟩ := sh_list Tryz.underlying112 c109 sh_decl hd
  exact ⟨⟨a, b, c, d⟩, rfl⟩
theorem sh_glyph (n : Nat) (ds : List D) (h : Sh Tryz.prog n 132 ds) : ∃ x : Gl, ds = grow x := by
 cases n with
 | zero => exact h.elim
 | succ n =>
  simp only [Sh, Tryz.underlying132, ShF] at h
  obtain ⟨_, _, rfl, ha, _, _, rfl, hb, rfl⟩ := h
  obtain ⟨a, rfl⟩ := sh_int Tryz.underlying5 ha
  obtain ⟨b, rfl⟩ := sh_int Tryz.underlying3 hb
  exact ⟨(a, b), rfl⟩
theorem sh_kern (n : Nat) (ds : List D) (h : Sh Tryz.prog n 134 ds) : ∃ x : Kn, ds = krow x := by
 cases n with
 | zero => exact h.elim
 | succ n =>
  simp only [Sh, Tryz.underlying134, ShF] at h
  obtain ⟨_, _, rfl, ha, _, _, rfl, hb, _, _, rfl, hc, rfl⟩ := h
  obtain ⟨a, rfl⟩ := sh_int Tryz.underlying5 ha
  obtain ⟨b, rfl⟩ := sh_int Tryz.underlying5 hb
  obtain ⟨c, rfl⟩ := sh_int Tryz.underlying3 hc
  exact ⟨(a, b, c), rfl⟩
theorem sh_font (n : Nat) (ds : List D) (h : Sh Tryz.prog n 60 ds) : ∃ x : Fo, ds = forow x := by
 cases n with
 | zero => exact h.elim
 | succ n =>
  simp only [Sh, Tryz.underlying60, ShF] at h
  obtain ⟨_, _, rfl, ha, _, _, rfl, hb, rfl⟩ := h
  obtain ⟨a, rfl⟩ := sh_list Tryz.underlying57 c87 sh_glyph ha
  obtain ⟨b, rfl⟩ := sh_list Tryz.underlying58 c89 sh_kern hb
  exact ⟨⟨a, b⟩, rfl⟩
theorem sh_breaks (n : Nat) (ds : List D) (h : Sh Tryz.prog n 63 ds) : ∃ x : Br, ds = brrow x := by
 cases n with
 | zero => exact h.elim
 | succ n =>
  simp only [Sh, Tryz.underlying63, ShF] at h
  obtain ⟨_, _, rfl, ha, _, _, rfl, hb, _, _, rfl, hc, rfl⟩ := h
  obtain ⟨a, rfl⟩ := sh_int Tryz.underlying3 ha
  obtain ⟨b, rfl⟩ := sh_int Tryz.underlying3 hb
  obtain ⟨c, rfl⟩ := sh_list Tryz.underlying61 c9 (row := srow) (fun m ds h => sh_str Tryz.underlying9 h) hc
  exact ⟨⟨a, b, c⟩, rfl⟩
theorem sh_doc (n : Nat) (ds : List D) (h : Sh Tryz.prog n 27 ds) : ∃ x : Do, ds = dorow x := by
 cases n with
 | zero => exact h.elim
 | succ n =>
  simp only [Sh, Tryz.underlying27, ShF] at h
  obtain ⟨_, _, rfl, ha, _, _, rfl, hb, _, _, rfl, hc, _, _, rfl, hd, rfl⟩ := h
  obtain ⟨a, rfl⟩ := sh_list Tryz.underlying22 c67 sh_node ha
  obtain ⟨b, rfl⟩ := sh_list Tryz.underlying23 c96 sh_rule hb
  obtain ⟨c, rfl⟩ := sh_list Tryz.underlying24 c62 sh_font hc
  obtain ⟨d, rfl⟩ := sh_list Tryz.underlying25 c65 sh_breaks hd
  exact ⟨⟨a, b, c, d⟩, rfl⟩
theorem argD_doc {n : Nat} {d : D} (h : ArgD Tryz.prog n 27 d) : ∃ x : Do, d = .ag (dorow x) := by
 simp only [ArgD, Tryz.underlying27] at h
 obtain ⟨cs, rfl, h⟩ := h
 obtain ⟨x, rfl⟩ := sh_doc _ _ h
 exact ⟨x, rfl⟩
theorem argD_int {n : Nat} {t : TypeId} {k : IntKind} (ht : Tryz.prog.underlying t = some (.int k)) {d : D} (h : ArgD Tryz.prog n t d) : ∃ x, d = .int k x := by
 simp only [ArgD, ht] at h
 obtain ⟨x, e⟩ := sh_int ht h
 exact ⟨x, by simpa using e⟩
theorem sh_reader (n : Nat) (ds : List D) (h : Sh Tryz.prog n 29 ds) : ∃ a b c : Int, ds = [.int .i64 a, .int .i64 b, .int .i64 c] := by
 cases n with
 | zero => exact h.elim
 | succ n =>
  simp only [Sh, Tryz.underlying29, ShF] at h
  obtain ⟨_, _, rfl, ha, _, _, rfl, hb, _, _, rfl, hc, rfl⟩ := h
  obtain ⟨a, rfl⟩ := sh_int Tryz.underlying3 ha
  obtain ⟨b, rfl⟩ := sh_int Tryz.underlying3 hb
  obtain ⟨c, rfl⟩ := sh_int Tryz.underlying3 hc
  exact ⟨a, b, c, rfl⟩
theorem argD_reader {n : Nat} {d : D} (h : ArgD Tryz.prog n 29 d) : ∃ x : Int × Int × Int, d = .ag [.int .i64 x.1, .int .i64 x.2.1, .int .i64 x.2.2] := by
 simp only [ArgD, Tryz.underlying29] at h
 obtain ⟨cs, rfl, h⟩ := h
 obtain ⟨a, b, c, rfl⟩ := sh_reader _ _ h
 exact ⟨(a, b, c), rfl⟩
end Go.Proofs.YtinhjbnljbmbcaaGreat
