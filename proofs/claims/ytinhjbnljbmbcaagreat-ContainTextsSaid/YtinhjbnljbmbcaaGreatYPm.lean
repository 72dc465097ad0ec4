/- Contain, plain: documents with other texts. -/
import Derived.Test.YtinhjbnljbmbcaaGreatYPl
namespace Go.Proofs.YtinhjbnljbmbcaaGreat
open Go Go.RowKit
set_option linter.unusedSimpArgs false
set_option linter.unusedVariables false
set_option maxRecDepth 100000
/-- A node without its text. -/
def strip (n : Nd) : Nd := ⟨n.id, n.par, n.kind, n.cls, []⟩
def stripL (l : List Nd) (m : Nat) : List Nd := (l.take m).map strip ++ l.drop m
theorem strip_zero (l : List Nd) : stripL l 0 = l := by unfold stripL; simp
theorem strip_all (l : List Nd) : stripL l l.length = l.map strip := by unfold stripL; simp
theorem stripL_len (l : List Nd) (m : Nat) : (stripL l m).length = l.length := by
 unfold stripL
 rw [List.length_append, List.length_map, List.length_take, List.length_drop]; omega
theorem stripL_at {l : List Nd} {m : Nat} (h : m < l.length) : nat (stripL l m) m = nat l m := by
 unfold stripL nat
 rw [List.getD_eq_getElem?_getD, List.getD_eq_getElem?_getD, List.getElem?_append_right (by rw [List.length_map, List.length_take]; omega), List.length_map, List.length_take, List.getElem?_drop, show m + (m - min m l.length) = m by omega]
theorem stripL_succ {l : List Nd} {m : Nat} (h : m < l.length) : stripL l (m + 1) = (stripL l m).set m (strip (nat l m)) := by
 apply List.ext_getElem?
 intro k
 rw [List.getElem?_set, stripL_len]
 have hl : ∀ n k, n ≤ l.length → (stripL l n)[k]? = if k < n then (l[k]?).map strip else l[k]? := fun n k hn => by
  unfold stripL
  by_cases hk : k < n
  ·rw [if_pos hk, List.getElem?_append_left (by rw [List.length_map, List.length_take]; omega), List.getElem?_map, List.getElem?_take_of_lt hk]
  ·rw [if_neg hk, List.getElem?_append_right (by rw [List.length_map, List.length_take]; omega), List.length_map, List.length_take, List.getElem?_drop]
   congr 1; omega
 rw [hl _ _ (by omega), hl _ _ (by omega)]
 by_cases hk : m = k
 ·subst hk
  rw [if_pos (by omega), if_pos rfl, if_pos h, nat, List.getD_eq_getElem?_getD, List.getElem?_eq_getElem h]; rfl
 ·rw [if_neg hk]
  by_cases h2 : k < m
  ·rw [if_pos (by omega), if_pos h2]
  ·rw [if_neg (by omega), if_neg h2]
theorem strip_put {l : List Nd} {m : Nat} (h : m < l.length) : ((stripL l m).map nrow).set m (putCells (((stripL l m).map nrow).getD m []) 4 [.str []]) = (stripL l (m + 1)).map nrow := by
 have e : ((stripL l m).map nrow).getD m [] = nrow (nat l m) := by
  have := rowAt_n (l := stripL l m) (i := m) (by rw [stripL_len]; omega)
  unfold rowAt at this
  rw [this, stripL_at h]
 rw [e, stripL_succ h, List.map_set]
 rfl
section
variable {w s lg : Int} {l : List Nd}
theorem nat_strip (i : Nat) : nat (l.map strip) i = strip (nat l i) := by
 unfold nat
 rw [List.getD_eq_getElem?_getD, List.getD_eq_getElem?_getD, List.getElem?_map]
 cases l[i]? <;> rfl
theorem strip_id (n : Nd) : (strip n).id = n.id := rfl
theorem idx_strip (x : Int) : idx (l.map strip) x = idx l x := by
 rcases idx_cases l x with ⟨i, h1, h2, h3, h4⟩ | ⟨h1, h2⟩
 ·rcases idx_cases (l.map strip) x with ⟨j, k1, k2, k3, k4⟩ | ⟨k1, k2⟩
  ·rw [h4, k4]
   rw [nat_strip] at k2
   rw [List.length_map] at k1
   rcases Nat.lt_trichotomy i j with h | h | h
   ·exact absurd (by rw [nat_strip]; exact h2) (k3 i h)
   ·rw [h]
   ·exact absurd k2 (h3 j h)
  ·exact absurd (by rw [nat_strip]; exact h2) (k1 i (by rw [List.length_map]; exact h1))
 ·rcases idx_cases (l.map strip) x with ⟨j, k1, k2, k3, k4⟩ | ⟨k1, k2⟩
  ·rw [nat_strip] at k2
   rw [List.length_map] at k1
   exact absurd k2 (h1 j k1)
  ·rw [h2, k2]
theorem pix_strip (i : Nat) : pix (l.map strip) i = pix l i := by
 unfold pix
 rw [nat_strip, ← List.map_take]
 exact idx_strip (l := l.take i) _
theorem chn_strip : ∀ i, chn (l.map strip) i = chn l i := by
 intro i
 induction i using Nat.strongRecOn with
 | _ i ih =>
  rw [chn_eq, chn_eq l, pix_strip]
  by_cases h : 0 ≤ pix l i
  ·rw [if_pos h, if_pos h, ih _ (pix_lt' h)]
  ·rw [if_neg h, if_neg h]
theorem path_strip (i : Nat) : pathL (l.map strip) i = pathL l i := by
 unfold pathL upL
 rw [chn_strip]
 congr 1
 refine List.map_congr_left fun x _ => ?_
 rw [nat_strip]; rfl
theorem mt_strip {ts : List Ts} : ∀ k i, mtB (l.map strip) ts k i = mtB l ts k i
 | 0, _ => rfl
 | k + 1, i => by
  simp only [mtB]
  rw [nat_strip, chn_strip, show mtB (l.map strip) ts k = mtB l ts k from funext (mt_strip k)]
  rfl
theorem mch_strip {ts : List Ts} {x : Int} (h1 : treB (l.map strip) = true) (h2 : treB l = true) : mchB (l.map strip) ts x = mchB l ts x := by
 unfold mchB
 rw [h1, h2, idx_strip, mt_strip]
theorem kd_strip (x : Int) : kdAt (l.map strip) x = kdAt l x := by
 unfold kdAt
 rw [idx_strip, nat_strip]; rfl
theorem pth_strip (x : Int) : pthX (l.map strip) x = pthX l x := by
 unfold pthX
 rw [idx_strip, path_strip]
end
section
variable {w s lg : Int} {d e : Do}
/-- Documents whose nodes and rules are the same but for the texts. -/
theorem str_all (hn : e.nodes = d.nodes.map strip) (hru : e.rules = d.rules) (hd : docB d = true) (he : docB e = true) (x : Int) : fndR e x w s lg = fndR d x w s lg ∧ styC e x w s lg = styC d x w s lg := by
 have ho : opE e x w s lg = opE d x w s lg := by
  unfold opE gerr
  rw [hd, he, hn, idx_strip, ← hn, (docB_tre he).1, (docB_tre hd).1]
 have h1 : treB (d.nodes.map strip) = true := by rw [← hn]; exact (docB_tre he).1
 have hp : plsX e x w s lg = plsX d x w s lg := by
  unfold plsX
  rw [hn, pth_strip]
  refine plSeq_eq _ _ fun y _ p => ?_
  refine step_eq (d := e) (e := d) hru (fun par wd bx => ?_) (by rw [hn]; exact kd_strip y) p
  rw [hn]
  exact styR_eq h1 (docB_tre hd).1 (by rw [idx_strip]) (fun ts => mch_strip h1 (docB_tre hd).1) par wd bx
 have hf := fnd_same ho hp
 refine ⟨hf, ?_⟩
 unfold styC
 rw [hf]
theorem str_hide (hn : e.nodes = d.nodes.map strip) (hru : e.rules = d.rules) (hd : docB d = true) (he : docB e = true) (i : Nat) : hideB e w s lg i = hideB d w s lg i := by
 unfold hideB
 rw [hn, nat_strip]
 show decide (iat (fndR e (nat d.nodes i).id w s lg).1.st 24 = 1) = _
 rw [(str_all hn hru hd he _).1]
theorem str_par (hn : e.nodes = d.nodes.map strip) (hru : e.rules = d.rules) (hd : docB d = true) (he : docB e = true) (i : Nat) : parH e w s lg i = parH d w s lg i := by
 rw [parH_any, parH_any, hn, chn_strip, show hideB e w s lg = hideB d w s lg from funext (str_hide hn hru hd he)]
theorem str_chk (hn : e.nodes = d.nodes.map strip) (hru : e.rules = d.rules) (hd : docB d = true) (he : docB e = true) : chkC e w s lg = chkC d w s lg := by
 have hk : ckN e w s lg = ckN d w s lg := funext fun i => by
  have hf : ∀ x, fndR e x w s lg = fndR d x w s lg := fun x => (str_all hn hru hd he x).1
  unfold ckN
  simp only [str_par hn hru hd he, str_hide hn hru hd he, hn, nat_strip, strip_id, hf]
 have hl : ∀ is, ckL e w s lg is = ckL d w s lg is := fun is => by
  induction is with
  | nil => rfl
  | cons a is ih => rw [ckL, ckL, hk, ih]
 unfold chkC
 rw [hd, he, hl, hn, List.length_map]
end
end Go.Proofs.YtinhjbnljbmbcaaGreat
