/- Claim: words. Printed by a tool of our own. -/
import Derived.Test.YtfjnohmdilmfhaaGreatDoorY04
namespace Go.Proofs.YtfjnohmdilmfhaaGreatDoor
open Go Go.RowKit
set_option linter.unusedSimpArgs false
set_option linter.unusedVariables false
set_option maxHeartbeats 4000000
set_option maxRecDepth 100000
theorem tv_len {s : List UInt8} (h : tv s = true) : s.length ≤ 2000 := by
 unfold tv at h
 exact (of_decide_eq_true h).2
theorem rowByte_b (c : UInt8) : rowByte (brow c) = some c := by
 unfold rowByte brow
 simp
theorem rowsB : ∀ s : List UInt8, rowsBytes (s.map brow) = some s
 | [] => rfl
 | c :: s => by simp only [List.map_cons, rowsBytes, rowByte_b, rowsB s]
theorem apD_sl {rows : List (List D)} (sz : Nat) {o : Option (Nat × Nat)} (h : apOK rows o) : ∃ t, apD sz rows o = .sl (match o with | none => 0 | some _ => sz) rows t := by
 cases o with
 | none => rw [h rfl]; exact ⟨_, rfl⟩
 | some x => exact ⟨_, rfl⟩
attribute [local go_sem] List.length_map rowAt_n nrow rowAt_t trow rowAt_i irow
attribute [local go_sem] rowAt_c rowAt_sn rowAt_bx snrow bxrow
theorem twd_w (s : List UInt8) : PCall Tryz.prog (.func 79) [.str s] (.tup [.int .i64 (wdN s), .int .i64 (wdE s)]) := by
 refine PCall.ok fun hok => ?_
 simp only [okAll, D.ok, okRows, and_true, true_and, lim_eq, inR_i64', inR_i32', inR_u8', inR_u16', inR_u64'] at hok
 refine PCall.le ?_
 refine fn_ Tryz.func79 (by rfl) (by rfl) (rs := [.tmp 2, .tmp 3]) (by rfl) (by simp [Tryz.f79]) ?_
 refine sr_ [0] [] [] fun κ ξ hκ hξ => ?_
 try simp +decide only [go_sem]
 repeat with_reducible refine an_ ?_
 refine hκ _ _ ?_; clear hκ hξ ξ κ
 refine sq ?_
 refine sr_ [0, 10] [] [] fun κ ξ hκ hξ => ?_
 try simp +decide only [go_sem]
 repeat with_reducible refine an_ ?_
 refine callF (tv_w _) ?_
 try simp +decide only [go_sem]
 repeat with_reducible refine an_ ?_
 refine hκ _ _ ?_; clear hκ hξ ξ κ
 refine cd_ (fun c0 => ?_) (fun c0 => ?_)
 ·have k0 := c0
  try simp only [go_sem] at c0
  refine sr_ [2, 3] [] [] fun κ ξ hκ hξ => ?_
  try simp +decide only [go_sem, c0]
  repeat with_reducible refine an_ ?_
  refine hκ _ _ ?_; clear hκ hξ ξ κ
  refine rt ?_
  refine retE ?_
  simp +decide only [go_sem, resD, resV, c0]
  unfold wdN wdE
  rw [if_neg (by rw [c0]; simp), if_neg (by rw [c0]; simp)]
 ·have k0 := c0
  try simp only [go_sem] at c0
  have htv : tv s = true := by simpa using c0
  refine sk ?_
  refine sr_ [0, 4, 5] [] [] fun κ ξ hκ hξ => ?_
  try simp +decide only [go_sem, c0]
  repeat with_reducible refine an_ ?_
  refine hκ _ _ ?_; clear hκ hξ ξ κ
  refine sq ?_
  refine sr_ [4, 5, 12] [] [] fun κ ξ hκ hξ => ?_
  try simp +decide only [go_sem, c0]
  repeat with_reducible refine an_ ?_
  intro b12 hb12
  try simp +decide only [go_sem, c0, hb12]
  repeat with_reducible refine an_ ?_
  refine hκ _ _ ?_; clear hκ hξ ξ κ
  refine bl ?_
  refine lp (α := Nat) (fun p => mk [(4, .int .i64 (wdP s p).1), (5, .bool (wdP s p).2), (12, .ptr b12 0)]) (fun p => [(b12, .siter s p)]) (fun p => p ≤ s.length) (fun p => s.length - p) 0 ⟨by omega, EnvLe.of_eq rfl, .refl _⟩ ?_
  rintro p hi
  refine sr_ [4, 5, 12, 13, 14] [] [] fun κ ξ hκ hξ => ?_
  try simp +decide only [go_sem, c0, hb12]
  repeat with_reducible refine an_ ?_
  refine ⟨?_, ?_⟩ <;> intro hp13
  have hv := tv_at htv hp13
  have hcb := cls_bounds hv
  have hsa : sat s p = ((s.getD p 0).toNat : Int) := rfl
  have hdec := dec_ascii hp13 (by omega)
  have hwu : IntKind.wrap .u8 (((s.getD p 0).toNat : Nat) : Int) = ((s.getD p 0).toNat : Nat) := wu8 (by omega)
  have hsc := wdP_succ hp13
  have hbd := wdP_bd s p
  have hnw : IntKind.wrap .i64 ((wdP s p).1 + 1) = (wdP s p).1 + 1 := w64 (by omega)
  ·refine hκ _ _ ?_; clear hκ hξ ξ κ
   refine sq ?_
   refine cdt (by rfl) ?_
   refine sk ?_
   refine bl ?_
   refine sr_ [4, 5, 7, 12] [] [] fun κ ξ hκ hξ => ?_
   try simp +decide only [go_sem, c0, hb12, hdec, hwu, hnw, hp13]
   repeat with_reducible refine an_ ?_
   refine hκ _ _ ?_; clear hκ hξ ξ κ
   refine sr_ [4, 5, 12, 18] [] [] fun κ ξ hκ hξ => ?_
   try simp +decide only [go_sem, c0, hb12, hdec, hwu, hnw, hp13]
   repeat with_reducible refine an_ ?_
   refine callF (class_w _) ?_
   try simp +decide only [go_sem, c0, hb12, hdec, hwu, hnw, hp13]
   repeat with_reducible refine an_ ?_
   refine hκ _ _ ?_; clear hκ hξ ξ κ
   refine bl ?_
   refine sq ?_
   refine bl ?_
   refine bl ?_
   refine sq ?_
   refine bl ?_
   refine sq ?_
   refine bl ?_
   refine sq ?_
   refine sq ?_
   refine sr_ [4, 5, 12, 18, 19] [] [] fun κ ξ hκ hξ => ?_
   try simp +decide only [go_sem, c0, hb12, hdec, hwu, hnw, hp13]
   repeat with_reducible refine an_ ?_
   refine hκ _ _ ?_; clear hκ hξ ξ κ
   refine cd_ (fun c1 => ?_) (fun c1 => ?_)
   ·have k1 := c1
    try simp only [go_sem] at c1
    have h126 : s.getD p 0 = 126 := (u8_eq (n := 126) (by decide)).1 (cls_6.1 c1)
    have hst : wdst (wdP s p) (s.getD p 0) = wdP s p := by unfold wdst; rw [if_pos h126]
    rw [hst] at hsc
    refine ex ?_
    refine ex ?_
    refine ⟨p + 1, ⟨by omega, by omega⟩, EnvLe.of_l ⟨?_, ?_, rfl, trivial⟩, .refl _⟩
    ·rw [hsc]; rfl
    ·rw [hsc]; rfl
   ·have k1 := c1
    try simp only [go_sem] at c1
    have hn126 : ¬ s.getD p 0 = 126 := fun h => c1 (cls_6.2 ((u8_eq (n := 126) (by decide)).2 h))
    refine sk ?_
    refine sq ?_
    refine sr_ [4, 5, 12, 18, 21] [] [] fun κ ξ hκ hξ => ?_
    try simp +decide only [go_sem, c0, hb12, hdec, hwu, hnw, hp13, c1]
    repeat with_reducible refine an_ ?_
    refine hκ _ _ ?_; clear hκ hξ ξ κ
    refine cd_ (fun c2 => ?_) (fun c2 => ?_)
    ·have k2 := c2
     try simp only [go_sem] at c2
     have h32 : s.getD p 0 = 32 := (u8_eq (n := 32) (by decide)).1 (cls_4.1 c2)
     have hst : wdst (wdP s p) (s.getD p 0) = ((wdP s p).1, false) := by unfold wdst; rw [if_neg hn126, if_pos h32]
     rw [hst] at hsc
     refine ex ?_
     refine sr_ [4, 5, 12] [] [] fun κ ξ hκ hξ => ?_
     try simp +decide only [go_sem, c0, hb12, hdec, hwu, hnw, hp13, c1, c2]
     repeat with_reducible refine an_ ?_
     refine hκ _ _ ?_; clear hκ hξ ξ κ
     refine ex ?_
     refine ⟨p + 1, ⟨by omega, by omega⟩, EnvLe.of_l ⟨?_, ?_, rfl, trivial⟩, .refl _⟩
     ·rw [hsc]; rfl
     ·rw [hsc]; rfl
    ·have k2 := c2
     try simp only [go_sem] at c2
     have hn32 : ¬ s.getD p 0 = 32 := fun h => c2 (cls_4.2 ((u8_eq (n := 32) (by decide)).2 h))
     have hst : wdst (wdP s p) (s.getD p 0) = (bif (wdP s p).2 then (wdP s p).1 else (wdP s p).1 + 1, true) := by unfold wdst; rw [if_neg hn126, if_neg hn32]
     rw [hst] at hsc
     refine sk ?_
     refine sq ?_
     refine sr_ [4, 5, 12, 18, 23] [] [] fun κ ξ hκ hξ => ?_
     try simp +decide only [go_sem, c0, hb12, hdec, hwu, hnw, hp13, c1, c2]
     repeat with_reducible refine an_ ?_
     refine hκ _ _ ?_; clear hκ hξ ξ κ
     refine cd_ (fun c3 => ?_) (fun c3 => ?_)
     ·have k3 := c3
      try simp only [go_sem] at c3
      refine sk ?_
      refine cdt (by first | rfl | exact congrArg D.bool k3) ?_
      refine ex ?_
      refine sq ?_
      refine sq ?_
      refine sr_ [4, 12, 28] [] [] fun κ ξ hκ hξ => ?_
      try simp +decide only [go_sem, c0, hb12, hdec, hwu, hnw, hp13, c1, c2, c3]
      repeat with_reducible refine an_ ?_
      refine hκ _ _ ?_; clear hκ hξ ξ κ
      refine cd_ (fun c4 => ?_) (fun c4 => ?_)
      ·have k4 := c4
       try simp only [go_sem] at c4
       rw [c4, cond_false] at hsc
       refine rr_ [4, 12] [] [] fun κ ξ hκ hξ => ?_
       try simp +decide only [go_sem, c0, hb12, hdec, hwu, hnw, hp13, c1, c2, c3, c4]
       repeat with_reducible refine an_ ?_
       refine hκ _ _ ?_; clear hκ hξ ξ κ
       refine rr_ [4, 5, 12] [] [] fun κ ξ hκ hξ => ?_
       try simp +decide only [go_sem, c0, hb12, hdec, hwu, hnw, hp13, c1, c2, c3, c4]
       repeat with_reducible refine an_ ?_
       refine hκ _ _ ?_; clear hκ hξ ξ κ
       refine ex ?_
       refine ⟨p + 1, ⟨by omega, by omega⟩, EnvLe.of_l ⟨?_, ?_, rfl, trivial⟩, .refl _⟩
       ·rw [hsc]; rfl
       ·rw [hsc]; rfl
      ·have k4 := c4
       try simp only [go_sem] at c4
       rw [c4, cond_true] at hsc
       refine sk ?_
       refine rr_ [4, 5, 12] [] [] fun κ ξ hκ hξ => ?_
       try simp +decide only [go_sem, c0, hb12, hdec, hwu, hnw, hp13, c1, c2, c3, c4]
       repeat with_reducible refine an_ ?_
       refine hκ _ _ ?_; clear hκ hξ ξ κ
       refine ex ?_
       refine ⟨p + 1, ⟨by omega, by omega⟩, EnvLe.of_l ⟨?_, ?_, rfl, trivial⟩, .refl _⟩
       ·rw [hsc]; rfl
       ·rw [hsc]; rfl
     ·have k3 := c3
      try simp only [go_sem] at c3
      refine sr_ [4, 5, 12, 18, 23] [] [] fun κ ξ hκ hξ => ?_
      try simp +decide only [go_sem, c0, hb12, hdec, hwu, hnw, hp13, c1, c2, c3]
      repeat with_reducible refine an_ ?_
      refine hκ _ _ ?_; clear hκ hξ ξ κ
      refine cd_ (fun c5 => ?_) (fun c5 => ?_)
      ·have k5 := c5
       try simp only [go_sem] at c5
       refine sk ?_
       refine cdt (by first | rfl | exact congrArg D.bool k5) ?_
       refine ex ?_
       refine sq ?_
       refine sq ?_
       refine sr_ [4, 12, 28] [] [] fun κ ξ hκ hξ => ?_
       try simp +decide only [go_sem, c0, hb12, hdec, hwu, hnw, hp13, c1, c2, c3, c5]
       repeat with_reducible refine an_ ?_
       refine hκ _ _ ?_; clear hκ hξ ξ κ
       refine cd_ (fun c6 => ?_) (fun c6 => ?_)
       ·have k6 := c6
        try simp only [go_sem] at c6
        rw [c6, cond_false] at hsc
        refine rr_ [4, 12] [] [] fun κ ξ hκ hξ => ?_
        try simp +decide only [go_sem, c0, hb12, hdec, hwu, hnw, hp13, c1, c2, c3, c5, c6]
        repeat with_reducible refine an_ ?_
        refine hκ _ _ ?_; clear hκ hξ ξ κ
        refine rr_ [4, 5, 12] [] [] fun κ ξ hκ hξ => ?_
        try simp +decide only [go_sem, c0, hb12, hdec, hwu, hnw, hp13, c1, c2, c3, c5, c6]
        repeat with_reducible refine an_ ?_
        refine hκ _ _ ?_; clear hκ hξ ξ κ
        refine ex ?_
        refine ⟨p + 1, ⟨by omega, by omega⟩, EnvLe.of_l ⟨?_, ?_, rfl, trivial⟩, .refl _⟩
        ·rw [hsc]; rfl
        ·rw [hsc]; rfl
       ·have k6 := c6
        try simp only [go_sem] at c6
        rw [c6, cond_true] at hsc
        refine sk ?_
        refine rr_ [4, 5, 12] [] [] fun κ ξ hκ hξ => ?_
        try simp +decide only [go_sem, c0, hb12, hdec, hwu, hnw, hp13, c1, c2, c3, c5, c6]
        repeat with_reducible refine an_ ?_
        refine hκ _ _ ?_; clear hκ hξ ξ κ
        refine ex ?_
        refine ⟨p + 1, ⟨by omega, by omega⟩, EnvLe.of_l ⟨?_, ?_, rfl, trivial⟩, .refl _⟩
        ·rw [hsc]; rfl
        ·rw [hsc]; rfl
      ·have k5 := c5
       try simp only [go_sem] at c5
       refine rr_ [4, 5, 12, 23] [] [] fun κ ξ hκ hξ => ?_
       try simp +decide only [go_sem, c0, hb12, hdec, hwu, hnw, hp13, c1, c2, c3, c5]
       repeat with_reducible refine an_ ?_
       refine hκ _ _ ?_; clear hκ hξ ξ κ
       refine cd_ (fun c7 => ?_) (fun c7 => ?_)
       ·have k7 := c7
        try simp only [go_sem] at c7
        refine ex ?_
        refine sq ?_
        refine sq ?_
        refine sr_ [4, 12, 28] [] [] fun κ ξ hκ hξ => ?_
        try simp +decide only [go_sem, c0, hb12, hdec, hwu, hnw, hp13, c1, c2, c3, c5, c7]
        repeat with_reducible refine an_ ?_
        refine hκ _ _ ?_; clear hκ hξ ξ κ
        refine cd_ (fun c8 => ?_) (fun c8 => ?_)
        ·have k8 := c8
         try simp only [go_sem] at c8
         rw [c8, cond_false] at hsc
         refine rr_ [4, 12] [] [] fun κ ξ hκ hξ => ?_
         try simp +decide only [go_sem, c0, hb12, hdec, hwu, hnw, hp13, c1, c2, c3, c5, c7, c8]
         repeat with_reducible refine an_ ?_
         refine hκ _ _ ?_; clear hκ hξ ξ κ
         refine rr_ [4, 5, 12] [] [] fun κ ξ hκ hξ => ?_
         try simp +decide only [go_sem, c0, hb12, hdec, hwu, hnw, hp13, c1, c2, c3, c5, c7, c8]
         repeat with_reducible refine an_ ?_
         refine hκ _ _ ?_; clear hκ hξ ξ κ
         refine ex ?_
         refine ⟨p + 1, ⟨by omega, by omega⟩, EnvLe.of_l ⟨?_, ?_, rfl, trivial⟩, .refl _⟩
         ·rw [hsc]; rfl
         ·rw [hsc]; rfl
        ·have k8 := c8
         try simp only [go_sem] at c8
         rw [c8, cond_true] at hsc
         refine sk ?_
         refine rr_ [4, 5, 12] [] [] fun κ ξ hκ hξ => ?_
         try simp +decide only [go_sem, c0, hb12, hdec, hwu, hnw, hp13, c1, c2, c3, c5, c7, c8]
         repeat with_reducible refine an_ ?_
         refine hκ _ _ ?_; clear hκ hξ ξ κ
         refine ex ?_
         refine ⟨p + 1, ⟨by omega, by omega⟩, EnvLe.of_l ⟨?_, ?_, rfl, trivial⟩, .refl _⟩
         ·rw [hsc]; rfl
         ·rw [hsc]; rfl
       ·have k7 := c7
        try simp only [go_sem] at c7
        refine sk ?_
        refine ex ?_
        refine sq ?_
        refine sq ?_
        refine sr_ [4, 12, 28] [] [] fun κ ξ hκ hξ => ?_
        try simp +decide only [go_sem, c0, hb12, hdec, hwu, hnw, hp13, c1, c2, c3, c5, c7]
        repeat with_reducible refine an_ ?_
        refine hκ _ _ ?_; clear hκ hξ ξ κ
        refine cd_ (fun c9 => ?_) (fun c9 => ?_)
        ·have k9 := c9
         try simp only [go_sem] at c9
         rw [c9, cond_false] at hsc
         refine rr_ [4, 12] [] [] fun κ ξ hκ hξ => ?_
         try simp +decide only [go_sem, c0, hb12, hdec, hwu, hnw, hp13, c1, c2, c3, c5, c7, c9]
         repeat with_reducible refine an_ ?_
         refine hκ _ _ ?_; clear hκ hξ ξ κ
         refine rr_ [4, 5, 12] [] [] fun κ ξ hκ hξ => ?_
         try simp +decide only [go_sem, c0, hb12, hdec, hwu, hnw, hp13, c1, c2, c3, c5, c7, c9]
         repeat with_reducible refine an_ ?_
         refine hκ _ _ ?_; clear hκ hξ ξ κ
         refine ex ?_
         refine ⟨p + 1, ⟨by omega, by omega⟩, EnvLe.of_l ⟨?_, ?_, rfl, trivial⟩, .refl _⟩
         ·rw [hsc]; rfl
         ·rw [hsc]; rfl
        ·have k9 := c9
         try simp only [go_sem] at c9
         rw [c9, cond_true] at hsc
         refine sk ?_
         refine rr_ [4, 5, 12] [] [] fun κ ξ hκ hξ => ?_
         try simp +decide only [go_sem, c0, hb12, hdec, hwu, hnw, hp13, c1, c2, c3, c5, c7, c9]
         repeat with_reducible refine an_ ?_
         refine hκ _ _ ?_; clear hκ hξ ξ κ
         refine ex ?_
         refine ⟨p + 1, ⟨by omega, by omega⟩, EnvLe.of_l ⟨?_, ?_, rfl, trivial⟩, .refl _⟩
         ·rw [hsc]; rfl
         ·rw [hsc]; rfl
  ·refine hκ _ _ ?_; clear hκ hξ ξ κ
   refine sq ?_
   refine cdf (by rfl) ?_
   refine ex ?_
   refine sr_ [2, 3] [] [] fun κ ξ hκ hξ => ?_
   try simp +decide only [go_sem, c0, hb12, hp13]
   repeat with_reducible refine an_ ?_
   refine hκ _ _ ?_; clear hκ hξ ξ κ
   refine rt ?_
   refine retE ?_
   simp +decide only [go_sem, resD, resV, c0, hb12, hp13]
   obtain rfl : p = s.length := by omega
   unfold wdN wdE
   rw [if_pos htv, if_pos htv]
theorem shown_w (s : List UInt8) (hs : s.length ≤ 1000000) : PCall Tryz.prog (.func 97) [.str s] (.str (shown s)) := by
 refine PCall.ok fun hok => ?_
 simp only [okAll, D.ok, okRows, and_true, true_and, lim_eq, inR_i64', inR_i32', inR_u8', inR_u16', inR_u64'] at hok
 refine PCall.le ?_
 refine fn_ Tryz.func97 (by rfl) (by rfl) (rs := [.tmp 2]) (by rfl) (by simp [Tryz.f97]) ?_
 refine sr_ [0] [] [] fun κ ξ hκ hξ => ?_
 try simp +decide only [go_sem]
 repeat with_reducible refine an_ ?_
 refine hκ _ _ ?_; clear hκ hξ ξ κ
 refine sr_ [0, 3] [] [] fun κ ξ hκ hξ => ?_
 try simp +decide only [go_sem]
 repeat with_reducible refine an_ ?_
 refine hκ _ _ ?_; clear hκ hξ ξ κ
 refine sq ?_
 refine sr_ [0, 3, 4] [] [] fun κ ξ hκ hξ => ?_
 try simp +decide only [go_sem]
 repeat with_reducible refine an_ ?_
 refine hκ _ _ ?_; clear hκ hξ ξ κ
 refine bl ?_
 refine lp (α := Nat × Option (Nat × Nat)) (fun x => mk [(0, .str s), (3, apD 1 ((shown (s.take x.1)).map brow) x.2), (4, .int .i64 x.1)]) (fun x => apS 1 (shown (s.take x.1)).length x.2) (fun x => x.1 ≤ s.length ∧ apOK ((shown (s.take x.1)).map brow) x.2) (fun x => s.length - x.1) (0, none) ⟨⟨by omega, fun _ => rfl⟩, EnvLe.of_eq rfl, .refl _⟩ ?_
 rintro ⟨i, o⟩ ⟨hi, ho⟩
 simp only at hi ho
 have hsl := shown_len (s.take i)
 have htl := List.length_take_le i s
 refine sq ?_
 refine sr_ [0, 3, 4, 8] [] [] fun κ ξ hκ hξ => ?_
 try simp +decide only [go_sem]
 repeat with_reducible refine an_ ?_
 refine hκ _ _ ?_; clear hκ hξ ξ κ
 refine cd_ (fun c0 => ?_) (fun c0 => ?_)
 ·try simp only [go_sem] at c0
  refine sk ?_
  refine sq ?_
  refine bl ?_
  refine sr_ [0, 3, 4, 14] [] [] fun κ ξ hκ hξ => ?_
  try simp +decide only [go_sem, c0]
  repeat with_reducible refine an_ ?_
  refine hκ _ _ ?_; clear hκ hξ ξ κ
  refine cd_ (fun c1 => ?_) (fun c1 => ?_)
  ·try simp only [go_sem] at c1
   refine rr_ [0, 3, 4] [] [] fun κ ξ hκ hξ => ?_
   try simp +decide only [go_sem, c0, c1]
   repeat with_reducible refine an_ ?_
   refine napp_grow0 (by first | assumption | omega | (simp; done) | (simp; omega) | (intro hg; simp +decide only [go_sem, hg]; done) | (intro hg; simp +decide only [go_sem, hg]; omega)) (by first | (simp; done) | (simp [*]; done) | omega) rfl rfl (by simp +decide only [go_sem, Option.isSome_some]) tf366 tf367 tf57 (by refine ⟨⟨rfl, by decide, by decide⟩, by simp +decide only [go_sem], by simp, ?_⟩; simp [capB] <;> omega) ?_; intro b20 c20
   try simp +decide only [go_sem, c0, c1]
   repeat with_reducible refine an_ ?_
   refine hκ _ _ ?_; clear hκ hξ ξ κ
   refine rr_ [0, 3, 4] [] [] fun κ ξ hκ hξ => ?_
   try simp +decide only [go_sem, c0, c1]
   repeat with_reducible refine an_ ?_
   refine hκ _ _ ?_; clear hκ hξ ξ κ
   have c1' : ¬ sat s i = 126 := c1
   have e := shown_take (s := s) (i := i) (by omega)
   rw [if_neg c1'] at e
   refine ⟨(i + 1, some (b20, c20)), ⟨⟨by omega, fun h => by cases h⟩, by omega⟩, EnvLe.of_eq ?_, ?_⟩
   ·rw [w64 (by omega), e, List.map_append]; rfl
   ·rw [e, List.length_append]; exact .refl _
  ·try simp only [go_sem] at c1
   refine sk ?_
   refine rr_ [0, 3, 4] [] [] fun κ ξ hκ hξ => ?_
   try simp +decide only [go_sem, c0, c1]
   repeat with_reducible refine an_ ?_
   refine hκ _ _ ?_; clear hκ hξ ξ κ
   have c1' : sat s i = 126 := c1
   have e := shown_take (s := s) (i := i) (by omega)
   rw [if_pos c1'] at e
   refine ⟨(i + 1, o), ⟨⟨by omega, fun h => by rw [e]; exact ho h⟩, by omega⟩, EnvLe.of_eq ?_, ?_⟩
   ·rw [w64 (by omega), e]; rfl
   ·rw [e]; exact .refl _
 ·try simp only [go_sem] at c0
  refine ex ?_
  refine sq ?_
  have e0 : s.take i = s := List.take_of_length_le (by omega)
  rw [e0] at ho ⊢
  obtain ⟨t7, h7⟩ := apD_sl (rows := (shown s).map brow) 1 ho
  rw [h7]
  have hby := rowsB (shown s)
  refine rr_ [2] [] [] fun κ ξ hκ hξ => ?_
  try simp +decide only [go_sem, c0, hby]
  repeat with_reducible refine an_ ?_
  refine hκ _ _ ?_; clear hκ hξ ξ κ
  refine rt ?_
  refine retE ?_
  simp +decide only [go_sem, resD, resV, c0]
  
theorem rwd_w (s : List UInt8) : PCall Tryz.prog (.func 83) [.str s] (.tup [.int .i64 (wdN s), .int .i64 (wdE s)]) := by
 refine PCall.ok fun hok => ?_
 simp only [okAll, D.ok, okRows, and_true, true_and, lim_eq, inR_i64', inR_i32', inR_u8', inR_u16', inR_u64'] at hok
 refine PCall.le ?_
 refine fn_ Tryz.func83 (by rfl) (by rfl) (rs := [.tmp 2, .tmp 3]) (by rfl) (by simp [Tryz.f83]) ?_
 refine sr_ [0] [] [] fun κ ξ hκ hξ => ?_
 try simp +decide only [go_sem]
 repeat with_reducible refine an_ ?_
 refine hκ _ _ ?_; clear hκ hξ ξ κ
 refine sq ?_
 refine sr_ [0, 9] [] [] fun κ ξ hκ hξ => ?_
 try simp +decide only [go_sem]
 repeat with_reducible refine an_ ?_
 refine callF (rtv_w _) ?_
 try simp +decide only [go_sem]
 repeat with_reducible refine an_ ?_
 refine hκ _ _ ?_; clear hκ hξ ξ κ
 refine cd_ (fun c0 => ?_) (fun c0 => ?_)
 ·simp only [go_sem] at c0
  refine sr_ [2, 3] [] [] fun κ ξ hκ hξ => ?_
  try simp +decide only [go_sem, c0]
  repeat with_reducible refine an_ ?_
  refine hκ _ _ ?_; clear hκ hξ ξ κ
  refine rt ?_
  refine retE ?_
  simp +decide only [go_sem, resD, resV, c0]
  unfold wdN wdE
  rw [if_neg (by rw [c0]; simp), if_neg (by rw [c0]; simp)]
 ·simp only [go_sem] at c0
  have htv : tv s = true := by simpa using c0
  have hsl := tv_len htv
  have hsh := shown_len s
  refine sk ?_
  refine sr_ [4] [] [] fun κ ξ hκ hξ => ?_
  try simp +decide only [go_sem, c0]
  repeat with_reducible refine an_ ?_
  refine callF (shown_w _ (by omega)) ?_
  try simp +decide only [go_sem, c0]
  repeat with_reducible refine an_ ?_
  refine hκ _ _ ?_; clear hκ hξ ξ κ
  refine sr_ [4, 5] [] [] fun κ ξ hκ hξ => ?_
  try simp +decide only [go_sem, c0]
  repeat with_reducible refine an_ ?_
  refine hκ _ _ ?_; clear hκ hξ ξ κ
  refine sq ?_
  refine sr_ [4, 5, 6] [] [] fun κ ξ hκ hξ => ?_
  try simp +decide only [go_sem, c0]
  repeat with_reducible refine an_ ?_
  refine hκ _ _ ?_; clear hκ hξ ξ κ
  refine bl ?_
  refine lp (α := Nat) (fun i => mk [(4, .str (shown s)), (5, .int .i64 (wdP (shown s) i).1), (6, .int .i64 i)]) (fun _ => []) (fun i => i ≤ (shown s).length) (fun i => (shown s).length - i) 0 ⟨by omega, EnvLe.of_eq rfl, .refl _⟩ ?_
  rintro i hi
  refine sq ?_
  refine sr_ [4, 5, 6, 15] [] [] fun κ ξ hκ hξ => ?_
  try simp +decide only [go_sem, c0]
  repeat with_reducible refine an_ ?_
  refine hκ _ _ ?_; clear hκ hξ ξ κ
  refine cd_ (fun c1 => ?_) (fun c1 => ?_)
  ·simp only [go_sem] at c1
   have hni := wdP_ins (fun i h => shown_no s (i := i) h) i (by omega)
   have hsc := wdP_succ (s := shown s) (p := i) (by omega)
   have hn126 := shown_no s (i := i) (by omega)
   have hbd := wdP_bd (shown s) i
   have hnw : IntKind.wrap .i64 ((wdP (shown s) i).1 + 1) = (wdP (shown s) i).1 + 1 := w64 (by omega)
   have hi1 : IntKind.wrap .i64 ((i : Int) - 1) = (i : Int) - 1 := w64 (by omega)
   have hil : (i : Int) < ((shown s).length : Int) := by omega
   have hil1 : (i : Int) - 1 < ((shown s).length : Int) := by omega
   have hi0 : ¬ (i : Int) = 0 → 0 ≤ (i : Int) - 1 := by omega
   have htn : ((i : Int) - 1).toNat = i - 1 := by omega
   refine sk ?_
   refine sq ?_
   refine bl ?_
   refine sr_ [4, 5, 6, 32] [] [(4, 22), (7, 25)] fun κ ξ hκ hξ => ?_
   try simp +decide only [go_sem, c0, c1, hnw, hi1, hil, hil1, htn]
   repeat with_reducible refine an_ ?_
   refine hκ _ _ ?_; clear hκ hξ ξ κ
   refine cd_ (fun c2 => ?_) (fun c2 => ?_)
   ·try simp only [go_sem] at c2
    refine rr_ [4, 5, 6] [] [] fun κ ξ hκ hξ => ?_
    try simp +decide only [go_sem, c0, c1, hnw, hi1, hil, hil1, htn, c2]
    repeat with_reducible refine an_ ?_
    refine hκ _ _ ?_; clear hκ hξ ξ κ
    refine rr_ [4, 5, 6] [] [] fun κ ξ hκ hξ => ?_
    try simp +decide only [go_sem, c0, c1, hnw, hi1, hil, hil1, htn, c2]
    repeat with_reducible refine an_ ?_
    refine hκ _ _ ?_; clear hκ hξ ξ κ
    have hst : wdst (wdP (shown s) i) ((shown s).getD i 0) = ((wdP (shown s) i).1 + 1, true) := by
     unfold wdst
     rw [if_neg hn126, if_neg (fun h => by rw [h] at c2; simp at c2), show (wdP (shown s) i).2 = false by rw [← Bool.not_eq_true, hni]; rintro ⟨h1, h2⟩; rcases c2.2 with h | h; omega; exact h2 ((u8_eq (n := 32) (by decide)).1 h)]
     rfl
    refine ⟨i + 1, ⟨by omega, by omega⟩, EnvLe.of_eq ?_, .refl _⟩
    rw [w64 (n := (i : Int) + 1) (by omega), hsc, hst]; rfl
   ·try simp only [go_sem] at c2
    refine sk ?_
    refine rr_ [4, 5, 6] [] [] fun κ ξ hκ hξ => ?_
    try simp +decide only [go_sem, c0, c1, hnw, hi1, hil, hil1, htn, c2]
    repeat with_reducible refine an_ ?_
    refine hκ _ _ ?_; clear hκ hξ ξ κ
    have hst : (wdst (wdP (shown s) i) ((shown s).getD i 0)).1 = (wdP (shown s) i).1 := by
     unfold wdst
     rw [if_neg hn126]
     by_cases h32 : (shown s).getD i 0 = 32
     ·rw [if_pos h32]
     ·rw [if_neg h32, show (wdP (shown s) i).2 = true by
        rw [hni]
        rcases c2 with c | ⟨c, d⟩
        · exact absurd ((u8_eq (n := 32) (by decide)).1 c) h32
        · exact ⟨by omega, fun h => d ((u8_eq (n := 32) (by decide)).2 h)⟩]
      rfl
    refine ⟨i + 1, ⟨by omega, by omega⟩, EnvLe.of_eq ?_, .refl _⟩
    rw [w64 (n := (i : Int) + 1) (by omega), hsc, hst]; rfl
  ·simp only [go_sem] at c1
   refine ex ?_
   refine sr_ [2, 3] [] [] fun κ ξ hκ hξ => ?_
   try simp +decide only [go_sem, c0, c1]
   repeat with_reducible refine an_ ?_
   refine hκ _ _ ?_; clear hκ hξ ξ κ
   refine rt ?_
   refine retE ?_
   simp +decide only [go_sem, resD, resV, c0, c1]
   obtain rfl : i = (shown s).length := by omega
   unfold wdN wdE
   rw [if_pos htv, if_pos htv, wdP_shown]
end Go.Proofs.YtfjnohmdilmfhaaGreatDoor
/- Claim: parts of claims. Printed by a tool of our own. -/
namespace Go.Proofs.YtfjnohmdilmfhaaGreatDoor
open Go Go.RowKit
set_option linter.unusedSimpArgs false
set_option linter.unusedVariables false
set_option maxHeartbeats 4000000
set_option maxRecDepth 100000
def partC (o a b n : Int) (k : Nat) : Bool :=
 if o = 1 then decide (k = 0 ∧ b = 0 ∧ n = 0) else if o = 2 then decide (k = 0 ∧ n = 0) else if o = 3 then decide (k = 0 ∧ b = 0)
 else if o = 4 then decide (k = 0 ∧ a = 0 ∧ b = 0 ∧ n = 0) else if o = 5 then decide (k = 0 ∧ b = 0)
 else if o = 6 ∨ o = 7 then decide ((2 ≤ k ∧ k ≤ 10) ∧ a = 0 ∧ b = 0 ∧ n = 0) else if o = 8 then decide (k = 1 ∧ a = 0 ∧ b = 0 ∧ n = 0) else false
def rangC (o a b n : Int) : Bool :=
 if o = 1 then decide (1 ≤ a ∧ a ≤ 1000000) else if o = 2 then decide ((1 ≤ a ∧ a ≤ 1000000) ∧ (1 ≤ b ∧ b ≤ 1000000) ∧ a ≠ b)
 else if o = 3 then decide ((1 ≤ a ∧ a ≤ 1000000) ∧ 0 ≤ n ∧ n ≤ 1000000000) else if o = 5 then decide ((1 ≤ a ∧ a ≤ 1000000) ∧ 1 ≤ n ∧ n ≤ 100) else true
theorem part_rang (o a b n : Int) (k : Nat) : (partC o a b n k && rangC o a b n) = opC o a b n k := by
 unfold partC rangC opC
 by_cases h1 : o = 1
 ·subst h1; rw [Bool.eq_iff_iff]; simp; omega
 by_cases h2 : o = 2
 ·subst h2; rw [Bool.eq_iff_iff]; simp; omega
 by_cases h3 : o = 3
 ·subst h3; rw [Bool.eq_iff_iff]; simp; omega
 by_cases h4 : o = 4
 ·subst h4; rw [Bool.eq_iff_iff]; simp; omega
 by_cases h5 : o = 5
 ·subst h5; rw [Bool.eq_iff_iff]; simp; omega
 by_cases h6 : o = 6
 ·subst h6; rw [Bool.eq_iff_iff]; simp; omega
 by_cases h7 : o = 7
 ·subst h7; rw [Bool.eq_iff_iff]; simp; omega
 by_cases h8 : o = 8
 ·subst h8; rw [Bool.eq_iff_iff]; simp; omega
 simp [h1, h2, h3, h4, h5, h6, h7, h8]
theorem part_rang_t {o a b n : Int} {k : Nat} (h : partC o a b n k = true) (h2 : rangC o a b n = true) : opC o a b n k = true := by rw [← part_rang, h, h2]; rfl
theorem part_rang_f {o a b n : Int} {k : Nat} (h : partC o a b n k = false ∨ rangC o a b n = false) : opC o a b n k = false := by
 rw [← part_rang]
 rcases h with h | h <;> simp [h]
attribute [local go_sem] List.length_map rowAt_n nrow rowAt_t trow rowAt_i irow
attribute [local go_sem] rowAt_c rowAt_sn rowAt_bx snrow bxrow
theorem cwi_w (n lo hi : Int) : PCall Tryz.prog (.func 40) [.int .i64 n, .int .i64 lo, .int .i64 hi] (.bool (decide (lo ≤ n ∧ n ≤ hi))) := by
 refine PCall.le ?_
 refine fn_ Tryz.func40 (by rfl) (by rfl) (rs := [.tmp 6]) (by rfl) (by simp [Tryz.f40]) ?_
 refine sr_ [0, 1, 2] [] [] fun κ ξ hκ hξ => ?_
 try simp +decide only [go_sem]
 repeat with_reducible refine an_ ?_
 refine hκ _ _ ?_; clear hκ hξ ξ κ
 refine sr_ [6] [] [(3, 10)] fun κ ξ hκ hξ => ?_
 try simp +decide only [go_sem]
 repeat with_reducible refine an_ ?_
 refine hκ _ _ ?_; clear hκ hξ ξ κ
 refine rt ?_
 refine retE ?_
 simp +decide only [go_sem, resD, resV]
 all_goals congr 1
 all_goals rw [Bool.eq_iff_iff]
 all_goals simp []
 all_goals omega
theorem rin_w (n lo hi : Int) : PCall Tryz.prog (.func 81) [.int .i64 n, .int .i64 lo, .int .i64 hi] (.bool (decide (lo ≤ n ∧ n ≤ hi))) := by
 refine PCall.le ?_
 refine fn_ Tryz.func81 (by rfl) (by rfl) (rs := [.tmp 6]) (by rfl) (by simp [Tryz.f81]) ?_
 refine sr_ [0, 1, 2] [] [] fun κ ξ hκ hξ => ?_
 try simp +decide only [go_sem]
 repeat with_reducible refine an_ ?_
 refine hκ _ _ ?_; clear hκ hξ ξ κ
 refine sr_ [6] [] [(3, 10)] fun κ ξ hκ hξ => ?_
 try simp +decide only [go_sem]
 repeat with_reducible refine an_ ?_
 refine hκ _ _ ?_; clear hκ hξ ξ κ
 refine rt ?_
 refine retE ?_
 simp +decide only [go_sem, resD, resV]
 all_goals congr 1
 all_goals rw [Bool.eq_iff_iff]
 all_goals simp []
 all_goals omega
theorem bare_w (o a b n : Int) (ks : List Cl) (p q r : Bool) : PCall Tryz.prog (.func 84) [.ag [.int .i64 o, .int .i64 a, .int .i64 b, .int .i64 n, .sl 5 (ks.map crow) .no], .bool p, .bool q, .bool r] (.bool ((p || decide (a = 0)) && (q || decide (b = 0)) && (r || decide (n = 0)))) := by
 refine PCall.le ?_
 refine fn_ Tryz.func84 (by rfl) (by rfl) (rs := [.tmp 8]) (by rfl) (by simp [Tryz.f84]) ?_
 refine sr_ [1, 2, 3, 4] [4] [] fun κ ξ hκ hξ => ?_
 try simp +decide only [go_sem]
 repeat with_reducible refine an_ ?_
 refine hκ _ _ ?_; clear hκ hξ ξ κ
 refine sr_ [8] [] [(1, 10), (6, 15), (8, 17), (14, 23), (16, 25)] fun κ ξ hκ hξ => ?_
 try simp +decide only [go_sem]
 repeat with_reducible refine an_ ?_
 refine hκ _ _ ?_; clear hκ hξ ξ κ
 refine rt ?_
 refine retE ?_
 simp +decide only [go_sem, resD, resV]
 all_goals congr 1
 all_goals cases p <;> cases q <;> cases r <;> simp
theorem formed_w (o a b n : Int) (ks : List Cl) : PCall Tryz.prog (.func 57) [.ag [.int .i64 o, .int .i64 a, .int .i64 b, .int .i64 n, .sl 5 (ks.map crow) .no]] (.bool (opC o a b n ks.length)) := by
 refine PCall.ok fun hok => ?_
 simp only [okAll, D.ok, okRows, and_true, true_and, lim_eq, inR_i64', inR_i32', inR_u8', inR_u16', inR_u64'] at hok
 obtain ⟨h1, h2, h3, h4, hl, hr⟩ := hok; rw [List.length_map] at hl
 refine PCall.le ?_
 refine fn_ Tryz.func57 (by rfl) (by rfl) (rs := [.tmp 2]) (by rfl) (by simp [Tryz.f57]) ?_
 refine sr_ [1] [1] [] fun κ ξ hκ hξ => ?_
 try simp +decide only [go_sem]
 repeat with_reducible refine an_ ?_
 refine hκ _ _ ?_; clear hκ hξ ξ κ
 refine sr_ [1, 3, 4, 5, 6, 7] [] [] fun κ ξ hκ hξ => ?_
 try simp +decide only [go_sem]
 repeat with_reducible refine an_ ?_
 refine hκ _ _ ?_; clear hκ hξ ξ κ
 refine sr_ [1, 3, 4, 5, 6, 7, 8] [] [] fun κ ξ hκ hξ => ?_
 try simp +decide only [go_sem]
 repeat with_reducible refine an_ ?_
 refine hκ _ _ ?_; clear hκ hξ ξ κ
 refine sq ?_
 refine sr_ [1, 3, 4, 5, 6, 7, 8, 10] [] [] fun κ ξ hκ hξ => ?_
 try simp +decide only [go_sem]
 repeat with_reducible refine an_ ?_
 refine hκ _ _ ?_; clear hκ hξ ξ κ
 refine bl ?_
 refine sq ?_
 refine bl ?_
 refine sq ?_
 refine bl ?_
 refine sq ?_
 refine bl ?_
 refine sq ?_
 refine bl ?_
 refine sq ?_
 refine bl ?_
 refine sq ?_
 refine bl ?_
 refine sq ?_
 refine bl ?_
 refine sq ?_
 refine bl ?_
 refine sq ?_
 refine sq ?_
 refine sr_ [1, 3, 4, 5, 6, 7, 8, 10, 11] [] [] fun κ ξ hκ hξ => ?_
 try simp +decide only [go_sem]
 repeat with_reducible refine an_ ?_
 refine hκ _ _ ?_; clear hκ hξ ξ κ
 refine cd_ (fun c0 => ?_) (fun c0 => ?_)
 ·try simp only [go_sem] at c0
  refine ex ?_
  refine sq ?_
  refine sr_ [1, 3, 4, 5, 6, 7] [] [] fun κ ξ hκ hξ => ?_
  try simp +decide only [go_sem, c0]
  repeat with_reducible refine an_ ?_
  refine hκ _ _ ?_; clear hκ hξ ξ κ
  refine rr_ [1, 3, 4, 5, 6, 7, 8] [] [(3, 29)] fun κ ξ hκ hξ => ?_
  try simp +decide only [go_sem, c0]
  repeat with_reducible refine an_ ?_
  refine callF (cwi_w _ _ _) ?_
  try simp +decide only [go_sem, c0]
  repeat with_reducible refine an_ ?_
  refine hκ _ _ ?_; clear hκ hξ ξ κ
  refine ex ?_
  refine sr_ [2] [] [(1, 43), (4, 46), (10, 52), (17, 59)] fun κ ξ hκ hξ => ?_
  try simp +decide only [go_sem, c0]
  repeat with_reducible refine an_ ?_
  refine vo_gc ?_
  try simp +decide only [go_sem, c0]
  refine gcF (cwi_w _ _ _) ?_
  try simp +decide only [go_sem, c0]
  repeat with_reducible refine an_ ?_
  refine vo_gc ?_
  try simp +decide only [go_sem, c0]
  refine gcF (bare_w _ _ _ _ _ _ _ _) ?_
  try simp +decide only [go_sem, c0]
  repeat with_reducible refine an_ ?_
  refine vo_gc ?_
  try simp +decide only [go_sem, c0]
  refine gcF (cwi_w _ _ _) ?_
  try simp +decide only [go_sem, c0]
  repeat with_reducible refine an_ ?_
  refine hκ _ _ ?_; clear hκ hξ ξ κ
  refine rt ?_
  refine retE ?_
  simp +decide only [go_sem, resD, resV, c0]
  all_goals try generalize ks.length = kk at *
  all_goals congr 1
  all_goals unfold opC
  all_goals (repeat (first | rw [if_pos (by omega)] | rw [if_neg (by omega)]))
  all_goals first
  | rfl
  | (rw [Bool.eq_iff_iff]; simp; done)
  | (rw [Bool.eq_iff_iff]; simp; omega)
 ·try simp only [go_sem] at c0
  refine sk ?_
  refine sq ?_
  refine sr_ [1, 3, 4, 5, 6, 7, 8, 10, 13] [] [] fun κ ξ hκ hξ => ?_
  try simp +decide only [go_sem, c0]
  repeat with_reducible refine an_ ?_
  refine hκ _ _ ?_; clear hκ hξ ξ κ
  refine cd_ (fun c1 => ?_) (fun c1 => ?_)
  ·try simp only [go_sem] at c1
   refine ex ?_
   refine sq ?_
   refine sr_ [1, 3, 4, 5, 6, 7] [] [] fun κ ξ hκ hξ => ?_
   try simp +decide only [go_sem, c0, c1]
   repeat with_reducible refine an_ ?_
   refine hκ _ _ ?_; clear hκ hξ ξ κ
   refine rr_ [1, 3, 4, 5, 6, 7, 8] [] [] fun κ ξ hκ hξ => ?_
   try simp +decide only [go_sem, c0, c1]
   repeat with_reducible refine an_ ?_
   refine callF (cwi_w _ _ _) ?_
   try simp +decide only [go_sem, c0, c1]
   repeat with_reducible refine an_ ?_
   refine hκ _ _ ?_; clear hκ hξ ξ κ
   refine ex ?_
   refine sr_ [2] [] [(1, 43), (4, 46), (10, 52), (17, 59)] fun κ ξ hκ hξ => ?_
   try simp +decide only [go_sem, c0, c1]
   repeat with_reducible refine an_ ?_
   refine vo_gc ?_
   try simp +decide only [go_sem, c0, c1]
   refine gcF (cwi_w _ _ _) ?_
   try simp +decide only [go_sem, c0, c1]
   repeat with_reducible refine an_ ?_
   refine vo_gc ?_
   try simp +decide only [go_sem, c0, c1]
   refine gcF (bare_w _ _ _ _ _ _ _ _) ?_
   try simp +decide only [go_sem, c0, c1]
   repeat with_reducible refine an_ ?_
   refine vo_gc ?_
   try simp +decide only [go_sem, c0, c1]
   refine gcF (cwi_w _ _ _) ?_
   try simp +decide only [go_sem, c0, c1]
   repeat with_reducible refine an_ ?_
   refine hκ _ _ ?_; clear hκ hξ ξ κ
   refine rt ?_
   refine retE ?_
   simp +decide only [go_sem, resD, resV, c0, c1]
   all_goals try generalize ks.length = kk at *
   all_goals congr 1
   all_goals unfold opC
   all_goals (repeat (first | rw [if_pos (by omega)] | rw [if_neg (by omega)]))
   all_goals first
   | rfl
   | (rw [Bool.eq_iff_iff]; simp; done)
   | (rw [Bool.eq_iff_iff]; simp; omega)
  ·try simp only [go_sem] at c1
   refine sk ?_
   refine sq ?_
   refine sr_ [1, 3, 4, 5, 6, 7, 8, 10, 15] [] [] fun κ ξ hκ hξ => ?_
   try simp +decide only [go_sem, c0, c1]
   repeat with_reducible refine an_ ?_
   refine hκ _ _ ?_; clear hκ hξ ξ κ
   refine cd_ (fun c2 => ?_) (fun c2 => ?_)
   ·try simp only [go_sem] at c2
    refine ex ?_
    refine sr_ [1, 4, 5, 6, 7] [] [] fun κ ξ hκ hξ => ?_
    try simp +decide only [go_sem, c0, c1, c2]
    repeat with_reducible refine an_ ?_
    refine hκ _ _ ?_; clear hκ hξ ξ κ
    refine rr_ [1, 4, 5, 6, 7, 8] [] [] fun κ ξ hκ hξ => ?_
    try simp +decide only [go_sem, c0, c1, c2]
    repeat with_reducible refine an_ ?_
    refine callF (cwi_w _ _ _) ?_
    try simp +decide only [go_sem, c0, c1, c2]
    repeat with_reducible refine an_ ?_
    refine hκ _ _ ?_; clear hκ hξ ξ κ
    refine sr_ [1, 3, 4, 5, 6, 7, 8] [] [] fun κ ξ hκ hξ => ?_
    try simp +decide only [go_sem, c0, c1, c2]
    repeat with_reducible refine an_ ?_
    refine hκ _ _ ?_; clear hκ hξ ξ κ
    refine ex ?_
    refine sr_ [2] [] [(1, 43), (4, 46), (10, 52), (17, 59)] fun κ ξ hκ hξ => ?_
    try simp +decide only [go_sem, c0, c1, c2]
    repeat with_reducible refine an_ ?_
    refine vo_gc ?_
    try simp +decide only [go_sem, c0, c1, c2]
    refine gcF (cwi_w _ _ _) ?_
    try simp +decide only [go_sem, c0, c1, c2]
    repeat with_reducible refine an_ ?_
    refine vo_gc ?_
    try simp +decide only [go_sem, c0, c1, c2]
    refine gcF (bare_w _ _ _ _ _ _ _ _) ?_
    try simp +decide only [go_sem, c0, c1, c2]
    repeat with_reducible refine an_ ?_
    refine vo_gc ?_
    try simp +decide only [go_sem, c0, c1, c2]
    refine gcF (cwi_w _ _ _) ?_
    try simp +decide only [go_sem, c0, c1, c2]
    repeat with_reducible refine an_ ?_
    refine hκ _ _ ?_; clear hκ hξ ξ κ
    refine rt ?_
    refine retE ?_
    simp +decide only [go_sem, resD, resV, c0, c1, c2]
    all_goals try generalize ks.length = kk at *
    all_goals congr 1
    all_goals unfold opC
    all_goals (repeat (first | rw [if_pos (by omega)] | rw [if_neg (by omega)]))
    all_goals first
    | rfl
    | (rw [Bool.eq_iff_iff]; simp; done)
    | (rw [Bool.eq_iff_iff]; simp; omega)
   ·try simp only [go_sem] at c2
    refine sk ?_
    refine sq ?_
    refine sr_ [1, 3, 4, 5, 6, 7, 8, 10, 17] [] [] fun κ ξ hκ hξ => ?_
    try simp +decide only [go_sem, c0, c1, c2]
    repeat with_reducible refine an_ ?_
    refine hκ _ _ ?_; clear hκ hξ ξ κ
    refine cd_ (fun c3 => ?_) (fun c3 => ?_)
    ·try simp only [go_sem] at c3
     refine ex ?_
     refine sr_ [1, 3, 4, 5, 6, 7, 8] [] [] fun κ ξ hκ hξ => ?_
     try simp +decide only [go_sem, c0, c1, c2, c3]
     repeat with_reducible refine an_ ?_
     refine hκ _ _ ?_; clear hκ hξ ξ κ
     refine ex ?_
     refine sr_ [2] [] [(1, 43), (4, 46), (10, 52), (17, 59)] fun κ ξ hκ hξ => ?_
     try simp +decide only [go_sem, c0, c1, c2, c3]
     repeat with_reducible refine an_ ?_
     refine vo_gc ?_
     try simp +decide only [go_sem, c0, c1, c2, c3]
     refine gcF (cwi_w _ _ _) ?_
     try simp +decide only [go_sem, c0, c1, c2, c3]
     repeat with_reducible refine an_ ?_
     refine vo_gc ?_
     try simp +decide only [go_sem, c0, c1, c2, c3]
     refine gcF (bare_w _ _ _ _ _ _ _ _) ?_
     try simp +decide only [go_sem, c0, c1, c2, c3]
     repeat with_reducible refine an_ ?_
     refine vo_gc ?_
     try simp +decide only [go_sem, c0, c1, c2, c3]
     refine gcF (cwi_w _ _ _) ?_
     try simp +decide only [go_sem, c0, c1, c2, c3]
     repeat with_reducible refine an_ ?_
     refine hκ _ _ ?_; clear hκ hξ ξ κ
     refine rt ?_
     refine retE ?_
     simp +decide only [go_sem, resD, resV, c0, c1, c2, c3]
     all_goals try generalize ks.length = kk at *
     all_goals congr 1
     all_goals unfold opC
     all_goals (repeat (first | rw [if_pos (by omega)] | rw [if_neg (by omega)]))
     all_goals first
     | rfl
     | (rw [Bool.eq_iff_iff]; simp; done)
     | (rw [Bool.eq_iff_iff]; simp; omega)
    ·try simp only [go_sem] at c3
     refine sk ?_
     refine sq ?_
     refine sq ?_
     refine sr_ [1, 3, 4, 5, 6, 7, 8, 10, 19] [] [] fun κ ξ hκ hξ => ?_
     try simp +decide only [go_sem, c0, c1, c2, c3]
     repeat with_reducible refine an_ ?_
     refine hκ _ _ ?_; clear hκ hξ ξ κ
     refine cd_ (fun c4 => ?_) (fun c4 => ?_)
     ·try simp only [go_sem] at c4
      refine sk ?_
      refine cd_ (fun c5 => ?_) (fun c5 => ?_)
      ·simp only [go_sem] at c5
       refine ex ?_
       refine sr_ [1, 3, 4, 5, 6, 7, 8] [] [] fun κ ξ hκ hξ => ?_
       try simp +decide only [go_sem, c0, c1, c2, c3, c4, c5]
       repeat with_reducible refine an_ ?_
       refine hκ _ _ ?_; clear hκ hξ ξ κ
       refine ex ?_
       refine sr_ [2] [] [(1, 43), (4, 46), (10, 52), (17, 59)] fun κ ξ hκ hξ => ?_
       try simp +decide only [go_sem, c0, c1, c2, c3, c4, c5]
       repeat with_reducible refine an_ ?_
       refine vo_gc ?_
       try simp +decide only [go_sem, c0, c1, c2, c3, c4, c5]
       refine gcF (cwi_w _ _ _) ?_
       try simp +decide only [go_sem, c0, c1, c2, c3, c4, c5]
       repeat with_reducible refine an_ ?_
       refine vo_gc ?_
       try simp +decide only [go_sem, c0, c1, c2, c3, c4, c5]
       refine gcF (bare_w _ _ _ _ _ _ _ _) ?_
       try simp +decide only [go_sem, c0, c1, c2, c3, c4, c5]
       repeat with_reducible refine an_ ?_
       refine vo_gc ?_
       try simp +decide only [go_sem, c0, c1, c2, c3, c4, c5]
       refine gcF (cwi_w _ _ _) ?_
       try simp +decide only [go_sem, c0, c1, c2, c3, c4, c5]
       repeat with_reducible refine an_ ?_
       refine hκ _ _ ?_; clear hκ hξ ξ κ
       refine rt ?_
       refine retE ?_
       simp +decide only [go_sem, resD, resV, c0, c1, c2, c3, c4, c5]
       all_goals try generalize ks.length = kk at *
       all_goals congr 1
       all_goals unfold opC
       all_goals (repeat (first | rw [if_pos (by omega)] | rw [if_neg (by omega)]))
       all_goals first
       | rfl
       | (rw [Bool.eq_iff_iff]; simp; done)
       | (rw [Bool.eq_iff_iff]; simp; omega)
      ·simp only [go_sem] at c5
       exact absurd c4 c5
     ·try simp only [go_sem] at c4
      refine rr_ [1, 3, 4, 5, 6, 7, 8, 10, 19] [] [] fun κ ξ hκ hξ => ?_
      try simp +decide only [go_sem, c0, c1, c2, c3, c4]
      repeat with_reducible refine an_ ?_
      refine hκ _ _ ?_; clear hκ hξ ξ κ
      refine cd_ (fun c6 => ?_) (fun c6 => ?_)
      ·try simp only [go_sem] at c6
       refine ex ?_
       refine sr_ [1, 3, 4, 5, 6, 7, 8] [] [] fun κ ξ hκ hξ => ?_
       try simp +decide only [go_sem, c0, c1, c2, c3, c4, c6]
       repeat with_reducible refine an_ ?_
       refine hκ _ _ ?_; clear hκ hξ ξ κ
       refine ex ?_
       refine sr_ [2] [] [(1, 43), (4, 46), (10, 52), (17, 59)] fun κ ξ hκ hξ => ?_
       try simp +decide only [go_sem, c0, c1, c2, c3, c4, c6]
       repeat with_reducible refine an_ ?_
       refine vo_gc ?_
       try simp +decide only [go_sem, c0, c1, c2, c3, c4, c6]
       refine gcF (cwi_w _ _ _) ?_
       try simp +decide only [go_sem, c0, c1, c2, c3, c4, c6]
       repeat with_reducible refine an_ ?_
       refine vo_gc ?_
       try simp +decide only [go_sem, c0, c1, c2, c3, c4, c6]
       refine gcF (bare_w _ _ _ _ _ _ _ _) ?_
       try simp +decide only [go_sem, c0, c1, c2, c3, c4, c6]
       repeat with_reducible refine an_ ?_
       refine vo_gc ?_
       try simp +decide only [go_sem, c0, c1, c2, c3, c4, c6]
       refine gcF (cwi_w _ _ _) ?_
       try simp +decide only [go_sem, c0, c1, c2, c3, c4, c6]
       repeat with_reducible refine an_ ?_
       refine hκ _ _ ?_; clear hκ hξ ξ κ
       refine rt ?_
       refine retE ?_
       simp +decide only [go_sem, resD, resV, c0, c1, c2, c3, c4, c6]
       all_goals try generalize ks.length = kk at *
       all_goals congr 1
       all_goals unfold opC
       all_goals (repeat (first | rw [if_pos (by omega)] | rw [if_neg (by omega)]))
       all_goals first
       | rfl
       | (rw [Bool.eq_iff_iff]; simp; done)
       | (rw [Bool.eq_iff_iff]; simp; omega)
      ·try simp only [go_sem] at c6
       refine sk ?_
       refine sq ?_
       refine sr_ [1, 3, 4, 5, 6, 7, 8, 10, 22] [] [] fun κ ξ hκ hξ => ?_
       try simp +decide only [go_sem, c0, c1, c2, c3, c4, c6]
       repeat with_reducible refine an_ ?_
       refine hκ _ _ ?_; clear hκ hξ ξ κ
       refine cd_ (fun c7 => ?_) (fun c7 => ?_)
       ·try simp only [go_sem] at c7
        refine ex ?_
        refine sr_ [1, 3, 4, 5, 6, 7, 8] [] [] fun κ ξ hκ hξ => ?_
        try simp +decide only [go_sem, c0, c1, c2, c3, c4, c6, c7]
        repeat with_reducible refine an_ ?_
        refine hκ _ _ ?_; clear hκ hξ ξ κ
        refine ex ?_
        refine sr_ [2] [] [(1, 43), (4, 46), (10, 52), (17, 59)] fun κ ξ hκ hξ => ?_
        try simp +decide only [go_sem, c0, c1, c2, c3, c4, c6, c7]
        repeat with_reducible refine an_ ?_
        refine vo_gc ?_
        try simp +decide only [go_sem, c0, c1, c2, c3, c4, c6, c7]
        refine gcF (cwi_w _ _ _) ?_
        try simp +decide only [go_sem, c0, c1, c2, c3, c4, c6, c7]
        repeat with_reducible refine an_ ?_
        refine vo_gc ?_
        try simp +decide only [go_sem, c0, c1, c2, c3, c4, c6, c7]
        refine gcF (bare_w _ _ _ _ _ _ _ _) ?_
        try simp +decide only [go_sem, c0, c1, c2, c3, c4, c6, c7]
        repeat with_reducible refine an_ ?_
        refine vo_gc ?_
        try simp +decide only [go_sem, c0, c1, c2, c3, c4, c6, c7]
        refine gcF (cwi_w _ _ _) ?_
        try simp +decide only [go_sem, c0, c1, c2, c3, c4, c6, c7]
        repeat with_reducible refine an_ ?_
        refine hκ _ _ ?_; clear hκ hξ ξ κ
        refine rt ?_
        refine retE ?_
        simp +decide only [go_sem, resD, resV, c0, c1, c2, c3, c4, c6, c7]
        all_goals try generalize ks.length = kk at *
        all_goals congr 1
        all_goals unfold opC
        all_goals (repeat (first | rw [if_pos (by omega)] | rw [if_neg (by omega)]))
        all_goals first
        | rfl
        | (rw [Bool.eq_iff_iff]; simp; done)
        | (rw [Bool.eq_iff_iff]; simp; omega)
       ·try simp only [go_sem] at c7
        refine sk ?_
        refine sr_ [1, 3, 4, 5, 6, 7, 8, 24] [] [] fun κ ξ hκ hξ => ?_
        try simp +decide only [go_sem, c0, c1, c2, c3, c4, c6, c7]
        repeat with_reducible refine an_ ?_
        refine hκ _ _ ?_; clear hκ hξ ξ κ
        refine cd_ (fun c8 => ?_) (fun c8 => ?_)
        ·try simp only [go_sem] at c8
         refine ex ?_
         refine ex ?_
         refine sr_ [2] [] [(1, 43), (4, 46), (10, 52), (17, 59)] fun κ ξ hκ hξ => ?_
         try simp +decide only [go_sem, c0, c1, c2, c3, c4, c6, c7, c8]
         repeat with_reducible refine an_ ?_
         refine vo_gc ?_
         try simp +decide only [go_sem, c0, c1, c2, c3, c4, c6, c7, c8]
         refine gcF (cwi_w _ _ _) ?_
         try simp +decide only [go_sem, c0, c1, c2, c3, c4, c6, c7, c8]
         repeat with_reducible refine an_ ?_
         refine vo_gc ?_
         try simp +decide only [go_sem, c0, c1, c2, c3, c4, c6, c7, c8]
         refine gcF (bare_w _ _ _ _ _ _ _ _) ?_
         try simp +decide only [go_sem, c0, c1, c2, c3, c4, c6, c7, c8]
         repeat with_reducible refine an_ ?_
         refine vo_gc ?_
         try simp +decide only [go_sem, c0, c1, c2, c3, c4, c6, c7, c8]
         refine gcF (cwi_w _ _ _) ?_
         try simp +decide only [go_sem, c0, c1, c2, c3, c4, c6, c7, c8]
         repeat with_reducible refine an_ ?_
         refine hκ _ _ ?_; clear hκ hξ ξ κ
         refine rt ?_
         refine retE ?_
         simp +decide only [go_sem, resD, resV, c0, c1, c2, c3, c4, c6, c7, c8]
         all_goals try generalize ks.length = kk at *
         all_goals congr 1
         all_goals unfold opC
         all_goals (repeat (first | rw [if_pos (by omega)] | rw [if_neg (by omega)]))
         all_goals first
         | rfl
         | (rw [Bool.eq_iff_iff]; simp; done)
         | (rw [Bool.eq_iff_iff]; simp; omega)
        ·try simp only [go_sem] at c8
         refine sk ?_
         refine ex ?_
         refine sq ?_
         refine sr_ [2] [] [] fun κ ξ hκ hξ => ?_
         try simp +decide only [go_sem, c0, c1, c2, c3, c4, c6, c7, c8]
         repeat with_reducible refine an_ ?_
         refine hκ _ _ ?_; clear hκ hξ ξ κ
         refine rt ?_
         refine retE ?_
         simp +decide only [go_sem, resD, resV, c0, c1, c2, c3, c4, c6, c7, c8]
         all_goals try generalize ks.length = kk at *
         all_goals congr 1
         all_goals unfold opC
         all_goals (repeat (first | rw [if_pos (by omega)] | rw [if_neg (by omega)]))
         all_goals first
         | rfl
         | (rw [Bool.eq_iff_iff]; simp; done)
         | (rw [Bool.eq_iff_iff]; simp; omega)
theorem part_w (o a b n : Int) (ks : List Cl) : PCall Tryz.prog (.func 58) [.ag [.int .i64 o, .int .i64 a, .int .i64 b, .int .i64 n, .sl 5 (ks.map crow) .no]] (.bool (partC o a b n ks.length)) := by
 refine PCall.ok fun hok => ?_
 simp only [okAll, D.ok, okRows, and_true, true_and, lim_eq, inR_i64', inR_i32', inR_u8', inR_u16', inR_u64'] at hok
 obtain ⟨h1, h2, h3, h4, hl, hr⟩ := hok; rw [List.length_map] at hl
 refine PCall.le ?_
 refine fn_ Tryz.func58 (by rfl) (by rfl) (rs := [.tmp 2]) (by rfl) (by simp [Tryz.f58]) ?_
 refine sr_ [1] [1] [] fun κ ξ hκ hξ => ?_
 try simp +decide only [go_sem]
 repeat with_reducible refine an_ ?_
 refine hκ _ _ ?_; clear hκ hξ ξ κ
 refine sr_ [1, 3] [] [] fun κ ξ hκ hξ => ?_
 try simp +decide only [go_sem]
 repeat with_reducible refine an_ ?_
 refine hκ _ _ ?_; clear hκ hξ ξ κ
 refine sq ?_
 refine sr_ [1, 3, 8] [] [] fun κ ξ hκ hξ => ?_
 try simp +decide only [go_sem]
 repeat with_reducible refine an_ ?_
 refine hκ _ _ ?_; clear hκ hξ ξ κ
 refine bl ?_
 refine sr_ [1, 3, 8, 9] [] [] fun κ ξ hκ hξ => ?_
 try simp +decide only [go_sem]
 repeat with_reducible refine an_ ?_
 refine hκ _ _ ?_; clear hκ hξ ξ κ
 refine cd_ (fun c0 => ?_) (fun c0 => ?_)
 ·try simp only [go_sem] at c0
  refine sr_ [2] [] [(2, 13), (7, 18)] fun κ ξ hκ hξ => ?_
  try simp +decide only [go_sem, c0]
  repeat with_reducible refine an_ ?_
  refine hκ _ _ ?_; clear hκ hξ ξ κ
  refine rt ?_
  refine retE ?_
  simp +decide only [go_sem, resD, resV, c0]
  all_goals try generalize ks.length = kk at *
  all_goals congr 1
  all_goals unfold partC
  all_goals (repeat (first | rw [if_pos (by omega)] | rw [if_neg (by omega)]))
  all_goals first
  | rfl
  | (rw [Bool.eq_iff_iff]; simp; done)
  | (rw [Bool.eq_iff_iff]; simp; omega)
 ·try simp only [go_sem] at c0
  refine sr_ [1, 3, 8, 23] [] [] fun κ ξ hκ hξ => ?_
  try simp +decide only [go_sem, c0]
  repeat with_reducible refine an_ ?_
  refine hκ _ _ ?_; clear hκ hξ ξ κ
  refine cd_ (fun c1 => ?_) (fun c1 => ?_)
  ·try simp only [go_sem] at c1
   refine sr_ [2] [] [(2, 27)] fun κ ξ hκ hξ => ?_
   try simp +decide only [go_sem, c0, c1]
   repeat with_reducible refine an_ ?_
   refine hκ _ _ ?_; clear hκ hξ ξ κ
   refine rt ?_
   refine retE ?_
   simp +decide only [go_sem, resD, resV, c0, c1]
   all_goals try generalize ks.length = kk at *
   all_goals congr 1
   all_goals unfold partC
   all_goals (repeat (first | rw [if_pos (by omega)] | rw [if_neg (by omega)]))
   all_goals first
   | rfl
   | (rw [Bool.eq_iff_iff]; simp; done)
   | (rw [Bool.eq_iff_iff]; simp; omega)
  ·try simp only [go_sem] at c1
   refine sr_ [1, 3, 8, 32] [] [] fun κ ξ hκ hξ => ?_
   try simp +decide only [go_sem, c0, c1]
   repeat with_reducible refine an_ ?_
   refine hκ _ _ ?_; clear hκ hξ ξ κ
   refine cd_ (fun c2 => ?_) (fun c2 => ?_)
   ·try simp only [go_sem] at c2
    refine sr_ [2] [] [(2, 36)] fun κ ξ hκ hξ => ?_
    try simp +decide only [go_sem, c0, c1, c2]
    repeat with_reducible refine an_ ?_
    refine hκ _ _ ?_; clear hκ hξ ξ κ
    refine rt ?_
    refine retE ?_
    simp +decide only [go_sem, resD, resV, c0, c1, c2]
    all_goals try generalize ks.length = kk at *
    all_goals congr 1
    all_goals unfold partC
    all_goals (repeat (first | rw [if_pos (by omega)] | rw [if_neg (by omega)]))
    all_goals first
    | rfl
    | (rw [Bool.eq_iff_iff]; simp; done)
    | (rw [Bool.eq_iff_iff]; simp; omega)
   ·try simp only [go_sem] at c2
    refine sr_ [1, 3, 8, 41] [] [] fun κ ξ hκ hξ => ?_
    try simp +decide only [go_sem, c0, c1, c2]
    repeat with_reducible refine an_ ?_
    refine hκ _ _ ?_; clear hκ hξ ξ κ
    refine cd_ (fun c3 => ?_) (fun c3 => ?_)
    ·try simp only [go_sem] at c3
     refine sr_ [2] [] [(2, 45), (7, 50), (12, 55)] fun κ ξ hκ hξ => ?_
     try simp +decide only [go_sem, c0, c1, c2, c3]
     repeat with_reducible refine an_ ?_
     refine hκ _ _ ?_; clear hκ hξ ξ κ
     refine rt ?_
     refine retE ?_
     simp +decide only [go_sem, resD, resV, c0, c1, c2, c3]
     all_goals try generalize ks.length = kk at *
     all_goals congr 1
     all_goals unfold partC
     all_goals (repeat (first | rw [if_pos (by omega)] | rw [if_neg (by omega)]))
     all_goals first
     | rfl
     | (rw [Bool.eq_iff_iff]; simp; done)
     | (rw [Bool.eq_iff_iff]; simp; omega)
    ·try simp only [go_sem] at c3
     refine sr_ [1, 3, 8, 60] [] [] fun κ ξ hκ hξ => ?_
     try simp +decide only [go_sem, c0, c1, c2, c3]
     repeat with_reducible refine an_ ?_
     refine hκ _ _ ?_; clear hκ hξ ξ κ
     refine cd_ (fun c4 => ?_) (fun c4 => ?_)
     ·try simp only [go_sem] at c4
      refine sr_ [2] [] [(2, 64)] fun κ ξ hκ hξ => ?_
      try simp +decide only [go_sem, c0, c1, c2, c3, c4]
      repeat with_reducible refine an_ ?_
      refine hκ _ _ ?_; clear hκ hξ ξ κ
      refine rt ?_
      refine retE ?_
      simp +decide only [go_sem, resD, resV, c0, c1, c2, c3, c4]
      all_goals try generalize ks.length = kk at *
      all_goals congr 1
      all_goals unfold partC
      all_goals (repeat (first | rw [if_pos (by omega)] | rw [if_neg (by omega)]))
      all_goals first
      | rfl
      | (rw [Bool.eq_iff_iff]; simp; done)
      | (rw [Bool.eq_iff_iff]; simp; omega)
     ·try simp only [go_sem] at c4
      refine sr_ [1, 3, 8, 69] [] [] fun κ ξ hκ hξ => ?_
      try simp +decide only [go_sem, c0, c1, c2, c3, c4]
      repeat with_reducible refine an_ ?_
      refine hκ _ _ ?_; clear hκ hξ ξ κ
      refine cd_ (fun c5 => ?_) (fun c5 => ?_)
      ·try simp only [go_sem] at c5
       refine sr_ [2] [] [(2, 73), (7, 78), (12, 83)] fun κ ξ hκ hξ => ?_
       try simp +decide only [go_sem, c0, c1, c2, c3, c4, c5]
       repeat with_reducible refine an_ ?_
       refine callF (rin_w _ _ _) ?_
       try simp +decide only [go_sem, c0, c1, c2, c3, c4, c5]
       repeat with_reducible refine an_ ?_
       refine hκ _ _ ?_; clear hκ hξ ξ κ
       refine rt ?_
       refine retE ?_
       simp +decide only [go_sem, resD, resV, c0, c1, c2, c3, c4, c5]
       all_goals try generalize ks.length = kk at *
       all_goals congr 1
       all_goals unfold partC
       all_goals (repeat (first | rw [if_pos (by omega)] | rw [if_neg (by omega)]))
       all_goals first
       | rfl
       | (rw [Bool.eq_iff_iff]; simp; done)
       | (rw [Bool.eq_iff_iff]; simp; omega)
      ·try simp only [go_sem] at c5
       refine sr_ [1, 3, 8, 88] [] [] fun κ ξ hκ hξ => ?_
       try simp +decide only [go_sem, c0, c1, c2, c3, c4, c5]
       repeat with_reducible refine an_ ?_
       refine hκ _ _ ?_; clear hκ hξ ξ κ
       refine cd_ (fun c6 => ?_) (fun c6 => ?_)
       ·try simp only [go_sem] at c6
        refine sr_ [2] [] [(2, 92), (7, 97), (12, 102)] fun κ ξ hκ hξ => ?_
        try simp +decide only [go_sem, c0, c1, c2, c3, c4, c5, c6]
        repeat with_reducible refine an_ ?_
        refine callF (rin_w _ _ _) ?_
        try simp +decide only [go_sem, c0, c1, c2, c3, c4, c5, c6]
        repeat with_reducible refine an_ ?_
        refine hκ _ _ ?_; clear hκ hξ ξ κ
        refine rt ?_
        refine retE ?_
        simp +decide only [go_sem, resD, resV, c0, c1, c2, c3, c4, c5, c6]
        all_goals try generalize ks.length = kk at *
        all_goals congr 1
        all_goals unfold partC
        all_goals (repeat (first | rw [if_pos (by omega)] | rw [if_neg (by omega)]))
        all_goals first
        | rfl
        | (rw [Bool.eq_iff_iff]; simp; done)
        | (rw [Bool.eq_iff_iff]; simp; omega)
       ·try simp only [go_sem] at c6
        refine sr_ [1, 3, 107] [] [] fun κ ξ hκ hξ => ?_
        try simp +decide only [go_sem, c0, c1, c2, c3, c4, c5, c6]
        repeat with_reducible refine an_ ?_
        refine hκ _ _ ?_; clear hκ hξ ξ κ
        refine cd_ (fun c7 => ?_) (fun c7 => ?_)
        ·try simp only [go_sem] at c7
         refine sr_ [2] [] [(2, 111), (7, 116), (12, 121)] fun κ ξ hκ hξ => ?_
         try simp +decide only [go_sem, c0, c1, c2, c3, c4, c5, c6, c7]
         repeat with_reducible refine an_ ?_
         refine hκ _ _ ?_; clear hκ hξ ξ κ
         refine rt ?_
         refine retE ?_
         simp +decide only [go_sem, resD, resV, c0, c1, c2, c3, c4, c5, c6, c7]
         all_goals try generalize ks.length = kk at *
         all_goals congr 1
         all_goals unfold partC
         all_goals (repeat (first | rw [if_pos (by omega)] | rw [if_neg (by omega)]))
         all_goals first
         | rfl
         | (rw [Bool.eq_iff_iff]; simp; done)
         | (rw [Bool.eq_iff_iff]; simp; omega)
        ·try simp only [go_sem] at c7
         refine sk ?_
         refine sr_ [2] [] [] fun κ ξ hκ hξ => ?_
         try simp +decide only [go_sem, c0, c1, c2, c3, c4, c5, c6, c7]
         repeat with_reducible refine an_ ?_
         refine hκ _ _ ?_; clear hκ hξ ξ κ
         refine rt ?_
         refine retE ?_
         simp +decide only [go_sem, resD, resV, c0, c1, c2, c3, c4, c5, c6, c7]
         all_goals try generalize ks.length = kk at *
         all_goals congr 1
         all_goals unfold partC
         all_goals (repeat (first | rw [if_pos (by omega)] | rw [if_neg (by omega)]))
         all_goals first
         | rfl
         | (rw [Bool.eq_iff_iff]; simp; done)
         | (rw [Bool.eq_iff_iff]; simp; omega)
theorem rang_w (o a b n : Int) (ks : List Cl) : PCall Tryz.prog (.func 59) [.ag [.int .i64 o, .int .i64 a, .int .i64 b, .int .i64 n, .sl 5 (ks.map crow) .no]] (.bool (rangC o a b n)) := by
 refine PCall.le ?_
 refine fn_ Tryz.func59 (by rfl) (by rfl) (rs := [.tmp 2]) (by rfl) (by simp [Tryz.f59]) ?_
 refine sr_ [1] [1] [] fun κ ξ hκ hξ => ?_
 try simp +decide only [go_sem]
 repeat with_reducible refine an_ ?_
 refine hκ _ _ ?_; clear hκ hξ ξ κ
 refine sr_ [1, 3] [] [] fun κ ξ hκ hξ => ?_
 try simp +decide only [go_sem]
 repeat with_reducible refine an_ ?_
 refine callF (rin_w _ _ _) ?_
 try simp +decide only [go_sem]
 repeat with_reducible refine an_ ?_
 refine hκ _ _ ?_; clear hκ hξ ξ κ
 refine sq ?_
 refine sr_ [1, 3, 8] [] [] fun κ ξ hκ hξ => ?_
 try simp +decide only [go_sem]
 repeat with_reducible refine an_ ?_
 refine hκ _ _ ?_; clear hκ hξ ξ κ
 refine bl ?_
 refine sr_ [1, 3, 8, 9] [] [] fun κ ξ hκ hξ => ?_
 try simp +decide only [go_sem]
 repeat with_reducible refine an_ ?_
 refine hκ _ _ ?_; clear hκ hξ ξ κ
 refine cd_ (fun c0 => ?_) (fun c0 => ?_)
 ·try simp only [go_sem] at c0
  refine sr_ [2] [] [] fun κ ξ hκ hξ => ?_
  try simp +decide only [go_sem, c0]
  repeat with_reducible refine an_ ?_
  refine hκ _ _ ?_; clear hκ hξ ξ κ
  refine rt ?_
  refine retE ?_
  simp +decide only [go_sem, resD, resV, c0]
  all_goals try generalize ks.length = kk at *
  all_goals congr 1
  all_goals unfold rangC
  all_goals (repeat (first | rw [if_pos (by omega)] | rw [if_neg (by omega)]))
  all_goals first
  | rfl
  | (rw [Bool.eq_iff_iff]; simp; done)
  | (rw [Bool.eq_iff_iff]; simp; omega)
 ·try simp only [go_sem] at c0
  refine sr_ [1, 3, 8, 12] [] [] fun κ ξ hκ hξ => ?_
  try simp +decide only [go_sem, c0]
  repeat with_reducible refine an_ ?_
  refine hκ _ _ ?_; clear hκ hξ ξ κ
  refine cd_ (fun c1 => ?_) (fun c1 => ?_)
  ·try simp only [go_sem] at c1
   refine sr_ [2] [] [(1, 15), (6, 20)] fun κ ξ hκ hξ => ?_
   try simp +decide only [go_sem, c0, c1]
   repeat with_reducible refine an_ ?_
   refine vo_gc ?_
   try simp +decide only [go_sem, c0, c1]
   refine gcF (rin_w _ _ _) ?_
   try simp +decide only [go_sem, c0, c1]
   repeat with_reducible refine an_ ?_
   refine hκ _ _ ?_; clear hκ hξ ξ κ
   refine rt ?_
   refine retE ?_
   simp +decide only [go_sem, resD, resV, c0, c1]
   all_goals try generalize ks.length = kk at *
   all_goals congr 1
   all_goals unfold rangC
   all_goals (repeat (first | rw [if_pos (by omega)] | rw [if_neg (by omega)]))
   all_goals first
   | rfl
   | (rw [Bool.eq_iff_iff]; simp; done)
   | (rw [Bool.eq_iff_iff]; simp; omega)
  ·try simp only [go_sem] at c1
   refine sr_ [1, 3, 8, 27] [] [] fun κ ξ hκ hξ => ?_
   try simp +decide only [go_sem, c0, c1]
   repeat with_reducible refine an_ ?_
   refine hκ _ _ ?_; clear hκ hξ ξ κ
   refine cd_ (fun c2 => ?_) (fun c2 => ?_)
   ·try simp only [go_sem] at c2
    refine sr_ [2] [] [(1, 30)] fun κ ξ hκ hξ => ?_
    try simp +decide only [go_sem, c0, c1, c2]
    repeat with_reducible refine an_ ?_
    refine vo_gc ?_
    try simp +decide only [go_sem, c0, c1, c2]
    refine gcF (rin_w _ _ _) ?_
    try simp +decide only [go_sem, c0, c1, c2]
    repeat with_reducible refine an_ ?_
    refine hκ _ _ ?_; clear hκ hξ ξ κ
    refine rt ?_
    refine retE ?_
    simp +decide only [go_sem, resD, resV, c0, c1, c2]
    all_goals try generalize ks.length = kk at *
    all_goals congr 1
    all_goals unfold rangC
    all_goals (repeat (first | rw [if_pos (by omega)] | rw [if_neg (by omega)]))
    all_goals first
    | rfl
    | (rw [Bool.eq_iff_iff]; simp; done)
    | (rw [Bool.eq_iff_iff]; simp; omega)
   ·try simp only [go_sem] at c2
    refine sr_ [1, 3, 35] [] [] fun κ ξ hκ hξ => ?_
    try simp +decide only [go_sem, c0, c1, c2]
    repeat with_reducible refine an_ ?_
    refine hκ _ _ ?_; clear hκ hξ ξ κ
    refine cd_ (fun c3 => ?_) (fun c3 => ?_)
    ·try simp only [go_sem] at c3
     refine sr_ [2] [] [(1, 38)] fun κ ξ hκ hξ => ?_
     try simp +decide only [go_sem, c0, c1, c2, c3]
     repeat with_reducible refine an_ ?_
     refine vo_gc ?_
     try simp +decide only [go_sem, c0, c1, c2, c3]
     refine gcF (rin_w _ _ _) ?_
     try simp +decide only [go_sem, c0, c1, c2, c3]
     repeat with_reducible refine an_ ?_
     refine hκ _ _ ?_; clear hκ hξ ξ κ
     refine rt ?_
     refine retE ?_
     simp +decide only [go_sem, resD, resV, c0, c1, c2, c3]
     all_goals try generalize ks.length = kk at *
     all_goals congr 1
     all_goals unfold rangC
     all_goals (repeat (first | rw [if_pos (by omega)] | rw [if_neg (by omega)]))
     all_goals first
     | rfl
     | (rw [Bool.eq_iff_iff]; simp; done)
     | (rw [Bool.eq_iff_iff]; simp; omega)
    ·try simp only [go_sem] at c3
     refine sk ?_
     refine sr_ [2] [] [] fun κ ξ hκ hξ => ?_
     try simp +decide only [go_sem, c0, c1, c2, c3]
     repeat with_reducible refine an_ ?_
     refine hκ _ _ ?_; clear hκ hξ ξ κ
     refine rt ?_
     refine retE ?_
     simp +decide only [go_sem, resD, resV, c0, c1, c2, c3]
     all_goals try generalize ks.length = kk at *
     all_goals congr 1
     all_goals unfold rangC
     all_goals (repeat (first | rw [if_pos (by omega)] | rw [if_neg (by omega)]))
     all_goals first
     | rfl
     | (rw [Bool.eq_iff_iff]; simp; done)
     | (rw [Bool.eq_iff_iff]; simp; omega)
end Go.Proofs.YtfjnohmdilmfhaaGreatDoor
/- Claim: claims that are well-formed. Printed by a tool of our own. -/
namespace Go.Proofs.YtfjnohmdilmfhaaGreatDoor
open Go Go.RowKit
set_option linter.unusedSimpArgs false
set_option linter.unusedVariables false
set_option maxHeartbeats 4000000
set_option maxRecDepth 100000
attribute [local go_sem] List.length_map rowAt_n nrow rowAt_t trow rowAt_i irow
attribute [local go_sem] rowAt_c rowAt_sn rowAt_bx snrow bxrow
theorem szd_s (e : Cl) (bq L : Nat) (m : Int) (hL : L ≤ 30) (hm : -1000 ≤ m ∧ m ≤ 1000) (ih : ∀ k : Cl, clS k < clS e → ∀ (L : Nat) (m : Int), L ≤ 30 → (-1000 ≤ m ∧ m ≤ 1000) → RCall Tryz.prog (.func 28) [.ag [.int .i64 k.op, .int .i64 k.a, .int .i64 k.b, .int .i64 k.n, .sl 5 (k.kids.map crow) .no], .int .i64 L, .ptr bq 0] [(bq, .cells [.int .i64 m])] (fun y : Int => .bool (fmC k L m)) (fun y => [(bq, .cells [.int .i64 y])]) (fun y => fmC k L m = true → y = m - (clS k : Nat))) : RCall Tryz.prog (.func 28) [.ag [.int .i64 e.op, .int .i64 e.a, .int .i64 e.b, .int .i64 e.n, .sl 5 (e.kids.map crow) .no], .int .i64 L, .ptr bq 0] [(bq, .cells [.int .i64 m])] (fun y => .bool (fmC e L m)) (fun y => [(bq, .cells [.int .i64 y])]) (fun y => fmC e L m = true → y = m - (clS e : Nat)) := by
 refine RCall.ok fun hok => ?_
 simp only [okAll, D.ok, okRows, and_true, true_and, lim_eq, inR_i64', inR_i32', inR_u8', inR_u16', inR_u64'] at hok
 obtain ⟨⟨h1, h2, h3, h4, hl, hr⟩, _⟩ := hok; rw [List.length_map] at hl
 have hmw : IntKind.wrap .i64 (m - 1) = m - 1 := w64 (by omega)
 refine fn_ Tryz.func28 (by rfl) (by rfl) (rs := [.tmp 6]) (by rfl) (by simp [Tryz.f28]) ?_
 refine sr_ [1, 2, 3] [3] [] fun κ ξ hκ hξ => ?_
 try simp +decide only [go_sem, hmw]
 repeat with_reducible refine an_ ?_
 refine hκ _ _ ?_; clear hκ hξ ξ κ
 refine sr_ [1, 2, 3] [] [] fun κ ξ hκ hξ => ?_
 try simp +decide only [go_sem, hmw]
 repeat with_reducible refine an_ ?_
 refine hκ _ _ ?_; clear hκ hξ ξ κ
 refine sq ?_
 refine sr_ [1, 2, 3, 26] [] [(2, 16), (8, 22)] fun κ ξ hκ hξ => ?_
 try simp +decide only [go_sem, hmw]
 repeat with_reducible refine an_ ?_
 refine vo_gc ?_
 try simp +decide only [go_sem, hmw]
 refine gcF (formed_w _ _ _ _ _) ?_
 try simp +decide only [go_sem, hmw]
 repeat with_reducible refine an_ ?_
 refine hκ _ _ ?_; clear hκ hξ ξ κ
 refine cd_ (fun c0 => ?_) (fun c0 => ?_)
 ·simp only [go_sem] at c0
  refine sr_ [6] [] [] fun κ ξ hκ hξ => ?_
  try simp +decide only [go_sem, hmw, c0]
  repeat with_reducible refine an_ ?_
  refine hκ _ _ ?_; clear hκ hξ ξ κ
  have hf : fmC e L m = false := by
   refine fmC_no ?_
   rcases c0 with (c0 | c0) | c0
   ·exact .inr (.inl (by omega))
   ·exact .inr (.inr (by omega))
   ·exact .inl c0
  refine rt ?_
  refine retR (m - 1) ?_ ?_ ?_
  ·first | exact .refl _ | exact List.nil_sublist _ | exact List.sublist_cons_of_sublist _ (.refl _) | exact ((List.Sublist.refl _).cons _).cons _ | (simp [*]; done) | skip
  ·first | trivial | assumption | omega | (simp; done) | (simp [*]; done) | skip
  simp +decide only [go_sem, resD, resV, hmw, c0]
  rw [hf]
 ·simp only [go_sem] at c0
  have hop : opC e.op e.a e.b e.n e.kids.length = true := c0.2
  have hL1 : 1 ≤ L := by omega
  have hm1 : 1 ≤ m := by omega
  have hlw : IntKind.wrap .i64 ((L : Int) - 1) = ((L - 1 : Nat) : Int) := by rw [w64 (by omega)]; omega
  replace c0 := hL1
  refine sk ?_
  refine sq ?_
  refine sr_ [1, 2, 28, 29, 30] [] [] fun κ ξ hκ hξ => ?_
  try simp +decide only [go_sem, hmw, c0, hlw]
  repeat with_reducible refine an_ ?_
  refine hκ _ _ ?_; clear hκ hξ ξ κ
  refine bl ?_
  refine lp (α := Nat) (fun i => mk [(1, .int .i64 L), (2, .ptr bq 0), (28, .sl 5 (e.kids.map crow) .no), (29, .int .i64 e.kids.length), (30, .int .i64 i)]) (fun i => [(bq, .cells [.int .i64 (m - 1 - (clSs (e.kids.take i) : Nat))])]) (fun i => (i ≤ e.kids.length ∧ (0 : Int) ≤ m - 1 - (clSs (e.kids.take i) : Nat)) ∧ ∀ j, j < i → clN (cat e.kids j) = true ∧ clD (cat e.kids j) ≤ L - 1) (fun i => e.kids.length - i) 0 ⟨⟨⟨by omega, by simp [clSs]; omega⟩, by intro j hj; omega⟩, EnvLe.of_eq rfl, by simp [clSs]⟩ ?_
  rintro i ⟨⟨hi, hn⟩, hj⟩
  refine sr_ [1, 2, 28, 29, 30, 31] [] [] fun κ ξ hκ hξ => ?_
  try simp +decide only [go_sem, hmw, c0, hlw]
  repeat with_reducible refine an_ ?_
  refine hκ _ _ ?_; clear hκ hξ ξ κ
  refine sq ?_
  refine cd_ (fun c1 => ?_) (fun c1 => ?_)
  ·try simp only [go_sem] at c1
   refine sk ?_
   refine sq ?_
   refine bl ?_
   refine srz_ [(8, [])] [1, 2, 8, 28, 29, 30] [] [] fun κ ξ hκ hξ => ?_
   try simp +decide only [go_sem, hmw, c0, hlw, c1]
   repeat with_reducible refine an_ ?_
   intro b8 hb8
   try simp +decide only [go_sem, hmw, c0, hlw, c1, hb8]
   repeat with_reducible refine an_ ?_
   refine hκ _ _ ?_; clear hκ hξ ξ κ
   refine sr_ [1, 2, 28, 29, 30, 39] [] [] fun κ ξ hκ hξ => ?_
   try simp +decide only [go_sem, hmw, c0, hlw, c1, hb8]
   repeat with_reducible refine an_ ?_
   refine callR (ih (cat e.kids i) (kid_lt (by omega)) (L - 1) (m - 1 - (clSs (e.kids.take i) : Nat)) (by omega) (by omega)) fun y hy => ?_
   try simp +decide only [go_sem, hmw, c0, hlw, c1, hb8]
   repeat with_reducible refine an_ ?_
   refine hκ _ _ ?_; clear hκ hξ ξ κ
   refine cd_ (fun c2 => ?_) (fun c2 => ?_)
   ·simp only [go_sem] at c2
    refine sr_ [6] [] [] fun κ ξ hκ hξ => ?_
    try simp +decide only [go_sem, hmw, c0, hlw, c1, hb8, c2]
    repeat with_reducible refine an_ ?_
    refine hκ _ _ ?_; clear hκ hξ ξ κ
    have hf : fmC e L m = false := fmC_kid (i := i) (by omega) c2 hL1
    refine rt ?_
    refine retR (y) ?_ ?_ ?_
    ·first | exact .refl _ | exact List.nil_sublist _ | exact List.sublist_cons_of_sublist _ (.refl _) | exact ((List.Sublist.refl _).cons _).cons _ | (simp [*]; done) | skip
    ·first | trivial | assumption | omega | (simp; done) | (simp [*]; done) | skip
    simp +decide only [go_sem, resD, resV, hmw, c0, hlw, c1, hb8, c2]
    rw [hf]
   ·simp only [go_sem] at c2
    have hk := fmC_true.1 c2
    have hy2 := hy c2
    refine sk ?_
    refine rr_ [1, 2, 28, 29, 30] [] [] fun κ ξ hκ hξ => ?_
    try simp +decide only [go_sem, hmw, c0, hlw, c1, hb8, c2]
    repeat with_reducible refine an_ ?_
    refine hκ _ _ ?_; clear hκ hξ ξ κ
    have hs := clSs_take (l := e.kids) (i := i) (by omega)
    refine ⟨i + 1, ⟨⟨⟨by omega, by omega⟩, ?_⟩, by omega⟩, EnvLe.of_eq (by rw [w64 (n := (i : Int) + 1) (by omega)]; rfl), ?_⟩
    ·intro j h
     rcases Nat.lt_succ_iff_lt_or_eq.1 h with h | rfl
     ·exact hj j h
     ·exact ⟨hk.1, hk.2.1⟩
    ·rw [hy2, show m - 1 - (clSs (e.kids.take i) : Nat) - (clS (cat e.kids i) : Nat) = m - 1 - ((clSs (e.kids.take (i + 1)) : Nat) : Int) by omega]; exact .refl _
  ·try simp only [go_sem] at c1
   refine ex ?_
   refine sr_ [6] [] [] fun κ ξ hκ hξ => ?_
   try simp +decide only [go_sem, hmw, c0, hlw, c1]
   repeat with_reducible refine an_ ?_
   refine hκ _ _ ?_; clear hκ hξ ξ κ
   have e1 : i = e.kids.length := by omega
   subst e1
   have hf : fmC e L m = true := by
    rw [List.take_length] at hn
    exact fmC_end hL1 hop hj (by omega)
   have hok2 : fmC e L m = true → m - 1 - ((clSs (e.kids.take e.kids.length) : Nat) : Int) = m - (clS e : Nat) := fun _ => by rw [List.take_length, clS_eq]; omega
   refine rt ?_
   refine retR (m - 1 - ((clSs (e.kids.take e.kids.length) : Nat) : Int)) ?_ ?_ ?_
   ·first | exact .refl _ | exact List.nil_sublist _ | exact List.sublist_cons_of_sublist _ (.refl _) | exact ((List.Sublist.refl _).cons _).cons _ | (simp [*]; done) | skip
   ·first | trivial | assumption | omega | (simp; done) | (simp [*]; done) | skip
   simp +decide only [go_sem, resD, resV, hmw, c0, hlw, c1]
   rw [hf]
theorem szd_w (k : Cl) (bq L : Nat) (m : Int) (hL : L ≤ 30) (hm : -1000 ≤ m ∧ m ≤ 1000) : RCall Tryz.prog (.func 28) [.ag [.int .i64 k.op, .int .i64 k.a, .int .i64 k.b, .int .i64 k.n, .sl 5 (k.kids.map crow) .no], .int .i64 L, .ptr bq 0] [(bq, .cells [.int .i64 m])] (fun y : Int => .bool (fmC k L m)) (fun y => [(bq, .cells [.int .i64 y])]) (fun y => fmC k L m = true → y = m - (clS k : Nat)) := by
 suffices h : ∀ n (k : Cl), clS k ≤ n → ∀ (L : Nat) (m : Int), L ≤ 30 → (-1000 ≤ m ∧ m ≤ 1000) → RCall Tryz.prog (.func 28) [.ag [.int .i64 k.op, .int .i64 k.a, .int .i64 k.b, .int .i64 k.n, .sl 5 (k.kids.map crow) .no], .int .i64 L, .ptr bq 0] [(bq, .cells [.int .i64 m])] (fun y : Int => .bool (fmC k L m)) (fun y => [(bq, .cells [.int .i64 y])]) (fun y => fmC k L m = true → y = m - (clS k : Nat)) from h _ k (Nat.le_refl _) L m hL hm
 intro n
 induction n with
 | zero => intro e he; have := clS_pos e; omega
 | succ n ih => exact fun e he L m hL hm => szd_s e bq L m hL hm fun k hk a b ha hb => ih k (by omega) a b ha hb
theorem clv_w (e : Cl) : PCall Tryz.prog (.func 14) [.ag [.int .i64 e.op, .int .i64 e.a, .int .i64 e.b, .int .i64 e.n, .sl 5 (e.kids.map crow) .no]] (.bool (clB e)) := by
 refine PCall.le ?_
 refine fn_ Tryz.func14 (by rfl) (by rfl) (rs := [.tmp 2]) (by rfl) (by simp [Tryz.f14]) ?_
 refine sr_ [1] [1] [] fun κ ξ hκ hξ => ?_
 try simp +decide only [go_sem]
 repeat with_reducible refine an_ ?_
 refine hκ _ _ ?_; clear hκ hξ ξ κ
 refine sr_ [1, 3] [] [] fun κ ξ hκ hξ => ?_
 try simp +decide only [go_sem]
 repeat with_reducible refine an_ ?_
 intro b3 hb3
 try simp +decide only [go_sem, hb3]
 repeat with_reducible refine an_ ?_
 refine hκ _ _ ?_; clear hκ hξ ξ κ
 refine sr_ [2] [] [] fun κ ξ hκ hξ => ?_
 try simp +decide only [go_sem, hb3]
 repeat with_reducible refine an_ ?_
 refine callR (szd_w e b3 30 100 (by omega) (by omega)) fun y _ => ?_
 try simp +decide only [go_sem, hb3]
 repeat with_reducible refine an_ ?_
 refine hκ _ _ ?_; clear hκ hξ ξ κ
 refine rt ?_
 refine retE ?_
 simp +decide only [go_sem, resD, resV, hb3]
 rw [fmC_all]
theorem sizc_s (e : Cl) (lv mo : Nat) (hlv : lv ≤ 100) (hmo : mo ≤ 100) (ih : ∀ k : Cl, clS k < clS e → ∀ lv mo : Nat, lv ≤ 100 → mo ≤ 100 → PCall Tryz.prog (.func 29) [.ag [.int .i64 k.op, .int .i64 k.a, .int .i64 k.b, .int .i64 k.n, .sl 5 (k.kids.map crow) .no], .int .i64 lv, .int .i64 mo] (.int .i64 (szC k lv mo))) : PCall Tryz.prog (.func 29) [.ag [.int .i64 e.op, .int .i64 e.a, .int .i64 e.b, .int .i64 e.n, .sl 5 (e.kids.map crow) .no], .int .i64 lv, .int .i64 mo] (.int .i64 (szC e lv mo)) := by
 refine PCall.ok fun hok => ?_
 simp only [okAll, D.ok, okRows, and_true, true_and, lim_eq, inR_i64', inR_i32', inR_u8', inR_u16', inR_u64'] at hok
 obtain ⟨⟨h1, h2, h3, h4, hl, hr⟩, _⟩ := hok; rw [List.length_map] at hl
 refine PCall.le ?_
 refine fn_ Tryz.func29 (by rfl) (by rfl) (rs := [.tmp 6]) (by rfl) (by simp [Tryz.f29]) ?_
 refine sr_ [1, 2, 3] [3] [] fun κ ξ hκ hξ => ?_
 try simp +decide only [go_sem]
 repeat with_reducible refine an_ ?_
 refine hκ _ _ ?_; clear hκ hξ ξ κ
 refine sr_ [1, 2, 3, 7] [] [] fun κ ξ hκ hξ => ?_
 try simp +decide only [go_sem]
 repeat with_reducible refine an_ ?_
 refine callF (part_w _ _ _ _ _) ?_
 try simp +decide only [go_sem]
 repeat with_reducible refine an_ ?_
 refine hκ _ _ ?_; clear hκ hξ ξ κ
 refine sr_ [1, 2, 3, 7, 8] [] [] fun κ ξ hκ hξ => ?_
 try simp +decide only [go_sem]
 repeat with_reducible refine an_ ?_
 refine callF (rang_w _ _ _ _ _) ?_
 try simp +decide only [go_sem]
 repeat with_reducible refine an_ ?_
 refine hκ _ _ ?_; clear hκ hξ ξ κ
 refine sq ?_
 refine sr_ [1, 2, 3, 28] [] [(2, 17), (6, 21), (10, 25)] fun κ ξ hκ hξ => ?_
 try simp +decide only [go_sem]
 repeat with_reducible refine an_ ?_
 refine hκ _ _ ?_; clear hκ hξ ξ κ
 refine cd_ (fun c0 => ?_) (fun c0 => ?_)
 ·simp only [go_sem] at c0
  have hf : fmC e lv mo = false := by
   refine fmC_no ?_
   rcases c0 with ((c0 | c0) | c0) | c0
   ·exact .inl (part_rang_f (.inl c0))
   ·exact .inl (part_rang_f (.inr c0))
   ·exact .inr (.inl (by omega))
   ·exact .inr (.inr (by omega))
  refine sr_ [6] [] [] fun κ ξ hκ hξ => ?_
  try simp +decide only [go_sem, c0]
  repeat with_reducible refine an_ ?_
  refine hκ _ _ ?_; clear hκ hξ ξ κ
  refine rt ?_
  refine retE ?_
  simp +decide only [go_sem, resD, resV, c0]
  congr 1
  unfold szC
  rw [if_neg (by rw [hf]; simp)]
 ·simp only [go_sem] at c0
  have hL1 : 1 ≤ lv := by omega
  have hm1 : 1 ≤ mo := by omega
  have hop := part_rang_t c0.1.1.1 c0.1.1.2
  have hlw : IntKind.wrap .i64 ((lv : Int) - 1) = ((lv - 1 : Nat) : Int) := by rw [w64 (by omega)]; omega
  refine sk ?_
  refine sr_ [1, 2, 3, 9] [] [] fun κ ξ hκ hξ => ?_
  try simp +decide only [go_sem, c0, hlw]
  repeat with_reducible refine an_ ?_
  refine hκ _ _ ?_; clear hκ hξ ξ κ
  refine sq ?_
  refine sr_ [1, 2, 3, 9, 10] [] [] fun κ ξ hκ hξ => ?_
  try simp +decide only [go_sem, c0, hlw]
  repeat with_reducible refine an_ ?_
  refine hκ _ _ ?_; clear hκ hξ ξ κ
  refine bl ?_
  refine lp (α := Nat) (fun i => mk [(1, .int .i64 lv), (2, .int .i64 mo), (3, .el [.int .i64 e.op, .int .i64 e.a, .int .i64 e.b, .int .i64 e.n, .sl 5 (e.kids.map crow) .no]), (9, .int .i64 (1 + ((clSs (e.kids.take i) : Nat) : Int))), (10, .int .i64 i)]) (fun _ => []) (fun i => (i ≤ e.kids.length ∧ 1 + clSs (e.kids.take i) ≤ mo) ∧ ∀ j, j < i → clN (cat e.kids j) = true ∧ clD (cat e.kids j) ≤ lv - 1) (fun i => e.kids.length - i) 0 ⟨⟨⟨by omega, by simp [clSs]; omega⟩, by intro j hj; omega⟩, EnvLe.of_eq (by simp [clSs]), .refl _⟩ ?_
  rintro i ⟨⟨hi, hn⟩, hj⟩
  refine sq ?_
  refine sr_ [1, 2, 3, 9, 10, 33] [] [] fun κ ξ hκ hξ => ?_
  try simp +decide only [go_sem, c0, hlw]
  repeat with_reducible refine an_ ?_
  refine hκ _ _ ?_; clear hκ hξ ξ κ
  refine cd_ (fun c1 => ?_) (fun c1 => ?_)
  ·simp only [go_sem] at c1
   have hmw : IntKind.wrap .i64 ((mo : Int) - (1 + ((clSs (e.kids.take i) : Nat) : Int))) = (((mo - (1 + clSs (e.kids.take i))) : Nat) : Int) := by rw [w64 (by omega)]; omega
   have hbd := szC_bd (cat e.kids i) (lv - 1) (mo := (mo - (1 + clSs (e.kids.take i)))) (by omega)
   have hnw : IntKind.wrap .i64 ((1 + ((clSs (e.kids.take i) : Nat) : Int)) + szC (cat e.kids i) (lv - 1) (mo - (1 + clSs (e.kids.take i)))) = (1 + ((clSs (e.kids.take i) : Nat) : Int)) + szC (cat e.kids i) (lv - 1) (mo - (1 + clSs (e.kids.take i))) := w64 (by omega)
   refine sk ?_
   refine sq ?_
   refine bl ?_
   refine sr_ [1, 2, 3, 9, 10] [] [] fun κ ξ hκ hξ => ?_
   try simp +decide only [go_sem, c0, hlw, c1, hmw, hnw]
   repeat with_reducible refine an_ ?_
   refine callF (ih (cat e.kids i) (kid_lt (by omega)) (lv - 1) (mo - (1 + clSs (e.kids.take i))) (by omega) (by omega)) ?_
   try simp +decide only [go_sem, c0, hlw, c1, hmw, hnw]
   repeat with_reducible refine an_ ?_
   refine hκ _ _ ?_; clear hκ hξ ξ κ
   refine sr_ [1, 2, 3, 9, 10, 51] [] [] fun κ ξ hκ hξ => ?_
   try simp +decide only [go_sem, c0, hlw, c1, hmw, hnw]
   repeat with_reducible refine an_ ?_
   refine hκ _ _ ?_; clear hκ hξ ξ κ
   refine cd_ (fun c2 => ?_) (fun c2 => ?_)
   ·simp only [go_sem] at c2
    have hf : fmC e lv mo = false := by
     refine fmC_kid (i := i) (by omega) ?_ hL1
     rw [show (mo : Int) - 1 - ((clSs (e.kids.take i) : Nat) : Int) = (((mo - (1 + clSs (e.kids.take i))) : Nat) : Int) by omega]
     cases hf : fmC (cat e.kids i) (lv - 1) ((mo - (1 + clSs (e.kids.take i))) : Nat) with
     | false => rfl
     | true => have h3 := (fmC_true.1 hf).2.2; unfold szC at c2; rw [if_pos hf] at c2; omega
    refine sr_ [6] [] [] fun κ ξ hκ hξ => ?_
    try simp +decide only [go_sem, c0, hlw, c1, hmw, hnw, c2]
    repeat with_reducible refine an_ ?_
    refine hκ _ _ ?_; clear hκ hξ ξ κ
    refine rt ?_
    refine retE ?_
    simp +decide only [go_sem, resD, resV, c0, hlw, c1, hmw, hnw, c2]
    congr 1
    unfold szC
    rw [if_neg (by rw [hf]; simp)]
   ·simp only [go_sem] at c2
    refine sk ?_
    refine rr_ [1, 2, 3, 9, 10] [] [] fun κ ξ hκ hξ => ?_
    try simp +decide only [go_sem, c0, hlw, c1, hmw, hnw, c2]
    repeat with_reducible refine an_ ?_
    refine hκ _ _ ?_; clear hκ hξ ξ κ
    have hs := clSs_take (l := e.kids) (i := i) (by omega)
    have hk : fmC (cat e.kids i) (lv - 1) ((mo - (1 + clSs (e.kids.take i))) : Nat) = true := by
     cases hf : fmC (cat e.kids i) (lv - 1) ((mo - (1 + clSs (e.kids.take i))) : Nat) with
     | true => rfl
     | false => unfold szC at c2; rw [if_neg (by rw [hf]; simp)] at c2; omega
    have hse : szC (cat e.kids i) (lv - 1) (mo - (1 + clSs (e.kids.take i))) = (clS (cat e.kids i) : Int) := if_pos hk
    have hk2 := fmC_true.1 hk
    refine ⟨i + 1, ⟨⟨⟨by omega, by omega⟩, ?_⟩, by omega⟩, EnvLe.of_eq ?_, .refl _⟩
    ·intro j h
     rcases Nat.lt_succ_iff_lt_or_eq.1 h with h | rfl
     ·exact hj j h
     ·exact ⟨hk2.1, hk2.2.1⟩
    ·rw [w64 (n := (i : Int) + 1) (by omega), hse, hs, Int.natCast_add, Int.add_assoc]; rfl
  ·simp only [go_sem] at c1
   refine ex ?_
   refine sr_ [6] [] [] fun κ ξ hκ hξ => ?_
   try simp +decide only [go_sem, c0, hlw, c1]
   repeat with_reducible refine an_ ?_
   refine hκ _ _ ?_; clear hκ hξ ξ κ
   refine rt ?_
   refine retE ?_
   simp +decide only [go_sem, resD, resV, c0, hlw, c1]
   congr 1
   have e1 : i = e.kids.length := by omega
   subst e1
   rw [List.take_length] at hn ⊢
   have hf : fmC e lv mo = true := fmC_end hL1 hop hj (by omega)
   unfold szC
   rw [if_pos hf, clS_eq]
   omega
theorem sizc_w (k : Cl) : ∀ lv mo : Nat, lv ≤ 100 → mo ≤ 100 → PCall Tryz.prog (.func 29) [.ag [.int .i64 k.op, .int .i64 k.a, .int .i64 k.b, .int .i64 k.n, .sl 5 (k.kids.map crow) .no], .int .i64 lv, .int .i64 mo] (.int .i64 (szC k lv mo)) := by
 suffices h : ∀ n (k : Cl), clS k ≤ n → ∀ lv mo : Nat, lv ≤ 100 → mo ≤ 100 → PCall Tryz.prog (.func 29) [.ag [.int .i64 k.op, .int .i64 k.a, .int .i64 k.b, .int .i64 k.n, .sl 5 (k.kids.map crow) .no], .int .i64 lv, .int .i64 mo] (.int .i64 (szC k lv mo)) from h _ k (Nat.le_refl _)
 intro n
 induction n with
 | zero => intro e he; have := clS_pos e; omega
 | succ n ih => exact fun e he lv mo h1 h2 => sizc_s e lv mo h1 h2 fun k hk a b ha hb => ih k (by omega) a b ha hb
theorem rclv_w (e : Cl) : PCall Tryz.prog (.func 15) [.ag [.int .i64 e.op, .int .i64 e.a, .int .i64 e.b, .int .i64 e.n, .sl 5 (e.kids.map crow) .no]] (.bool (clB e)) := by
 refine PCall.le ?_
 refine fn_ Tryz.func15 (by rfl) (by rfl) (rs := [.tmp 2]) (by rfl) (by simp [Tryz.f15]) ?_
 refine sr_ [1] [1] [] fun κ ξ hκ hξ => ?_
 try simp +decide only [go_sem]
 repeat with_reducible refine an_ ?_
 refine hκ _ _ ?_; clear hκ hξ ξ κ
 refine sr_ [2] [] [] fun κ ξ hκ hξ => ?_
 try simp +decide only [go_sem]
 repeat with_reducible refine an_ ?_
 refine callF (sizc_w e 30 100 (by omega) (by omega)) ?_
 try simp +decide only [go_sem]
 repeat with_reducible refine an_ ?_
 refine hκ _ _ ?_; clear hκ hξ ξ κ
 refine rt ?_
 refine retE ?_
 simp +decide only [go_sem, resD, resV]
 congr 1
 rw [← fmC_all]
 unfold szC
 cases h : fmC e 30 100 with
 | true =>
  have h2 := (fmC_true.1 h).2.2
  simp
  omega
 | false => simp
theorem same_s (e : Cl) (ih : ∀ k : Cl, clS k < clS e → PCall Tryz.prog (.func 18) [.ag [.int .i64 k.op, .int .i64 k.a, .int .i64 k.b, .int .i64 k.n, .sl 5 (k.kids.map crow) .no], .ag [.int .i64 k.op, .int .i64 k.a, .int .i64 k.b, .int .i64 k.n, .sl 5 (k.kids.map crow) .no]] (.bool true)) : PCall Tryz.prog (.func 18) [.ag [.int .i64 e.op, .int .i64 e.a, .int .i64 e.b, .int .i64 e.n, .sl 5 (e.kids.map crow) .no], .ag [.int .i64 e.op, .int .i64 e.a, .int .i64 e.b, .int .i64 e.n, .sl 5 (e.kids.map crow) .no]] (.bool true) := by
 refine PCall.ok fun hok => ?_
 simp only [okAll, D.ok, okRows, and_true, true_and, lim_eq, inR_i64', inR_i32', inR_u8', inR_u16', inR_u64'] at hok
 obtain ⟨⟨h1, h2, h3, h4, hl, hr⟩, _⟩ := hok; rw [List.length_map] at hl
 refine PCall.le ?_
 refine fn_ Tryz.func18 (by rfl) (by rfl) (rs := [.tmp 4]) (by rfl) (by simp [Tryz.f18]) ?_
 refine sr_ [2, 3] [2, 3] [] fun κ ξ hκ hξ => ?_
 try simp +decide only [go_sem]
 repeat with_reducible refine an_ ?_
 refine hκ _ _ ?_; clear hκ hξ ξ κ
 refine sq ?_
 refine sr_ [2, 3, 41] [] [(5, 12), (12, 19), (19, 26), (26, 33)] fun κ ξ hκ hξ => ?_
 try simp +decide only [go_sem]
 repeat with_reducible refine an_ ?_
 refine hκ _ _ ?_; clear hκ hξ ξ κ
 refine cdf (by rfl) ?_
 refine sk ?_
 refine sq ?_
 refine sr_ [2, 3, 5] [] [] fun κ ξ hκ hξ => ?_
 try simp +decide only [go_sem]
 repeat with_reducible refine an_ ?_
 refine hκ _ _ ?_; clear hκ hξ ξ κ
 refine bl ?_
 refine lp (α := Nat) (fun i => mk [(2, .el [.int .i64 e.op, .int .i64 e.a, .int .i64 e.b, .int .i64 e.n, .sl 5 (e.kids.map crow) .no]), (3, .el [.int .i64 e.op, .int .i64 e.a, .int .i64 e.b, .int .i64 e.n, .sl 5 (e.kids.map crow) .no]), (5, .int .i64 i)]) (fun _ => []) (fun i => i ≤ e.kids.length) (fun i => e.kids.length - i) 0 ⟨by omega, EnvLe.of_eq rfl, .refl _⟩ ?_
 rintro i hi
 refine sq ?_
 refine sr_ [2, 3, 5, 46] [] [] fun κ ξ hκ hξ => ?_
 try simp +decide only [go_sem]
 repeat with_reducible refine an_ ?_
 refine hκ _ _ ?_; clear hκ hξ ξ κ
 refine cd_ (fun c0 => ?_) (fun c0 => ?_)
 ·try simp only [go_sem] at c0
  refine sk ?_
  refine sq ?_
  refine bl ?_
  refine srd_ [2, 3, 5, 6] [] [59] [] fun κ ξ hκ hξ => ?_
  try simp +decide only [go_sem, c0]
  repeat with_reducible refine an_ ?_
  refine scallF (ih (cat e.kids i) (kid_lt (by omega))) ?_
  try simp +decide only [go_sem, c0]
  repeat with_reducible refine an_ ?_
  refine hκ _ _ ?_; clear hκ hξ ξ κ
  refine sr_ [2, 3, 5, 61] [] [] fun κ ξ hκ hξ => ?_
  try simp +decide only [go_sem, c0]
  repeat with_reducible refine an_ ?_
  refine hκ _ _ ?_; clear hκ hξ ξ κ
  refine cdf (by rfl) ?_
  refine sk ?_
  refine rr_ [2, 3, 5] [] [] fun κ ξ hκ hξ => ?_
  try simp +decide only [go_sem, c0]
  repeat with_reducible refine an_ ?_
  refine hκ _ _ ?_; clear hκ hξ ξ κ
  refine ⟨i + 1, ⟨by omega, by omega⟩, EnvLe.of_eq (by rw [w64 (by omega)]; rfl), List.nil_sublist _⟩
 ·try simp only [go_sem] at c0
  refine ex ?_
  refine sr_ [4] [] [] fun κ ξ hκ hξ => ?_
  try simp +decide only [go_sem, c0]
  repeat with_reducible refine an_ ?_
  refine hκ _ _ ?_; clear hκ hξ ξ κ
  refine rt ?_
  refine retE ?_
  simp +decide only [go_sem, resD, resV, c0]
  
theorem same_w (e : Cl) : PCall Tryz.prog (.func 18) [.ag [.int .i64 e.op, .int .i64 e.a, .int .i64 e.b, .int .i64 e.n, .sl 5 (e.kids.map crow) .no], .ag [.int .i64 e.op, .int .i64 e.a, .int .i64 e.b, .int .i64 e.n, .sl 5 (e.kids.map crow) .no]] (.bool true) := by
 suffices h : ∀ n (e : Cl), clS e ≤ n → PCall Tryz.prog (.func 18) [.ag [.int .i64 e.op, .int .i64 e.a, .int .i64 e.b, .int .i64 e.n, .sl 5 (e.kids.map crow) .no], .ag [.int .i64 e.op, .int .i64 e.a, .int .i64 e.b, .int .i64 e.n, .sl 5 (e.kids.map crow) .no]] (.bool true) from h _ e (Nat.le_refl _)
 intro n
 induction n with
 | zero => intro e he; have := clS_pos e; omega
 | succ n ih => exact fun e he => same_s e fun k hk => ih k (by omega)
end Go.Proofs.YtfjnohmdilmfhaaGreatDoor
