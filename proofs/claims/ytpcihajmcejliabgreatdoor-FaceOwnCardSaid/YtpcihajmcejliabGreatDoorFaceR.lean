/- The walks of slices.Equal, as the faces' comparisons use it: of rows of numbers, of rows of variables. A face whose label is turned: in memory, in plain Lean. The walks of the program's face.Same: its closure on two procedures, slices.EqualFunc with it, Same itself. The walks of the reference's comparison of faces: proc, Same. -/
import Derived.StillTailTactics
import Derived.Test.YtpcihajmcejliabGreatDoorFace
namespace Go.Proofs.YtpcihajmcejliabGreatDoor
open Go.RowKit
instance : DecidableEq FVar := fun ⟨a, b, c, d⟩ ⟨a', b', c', d'⟩ => decidable_of_iff (a = a' ∧ b = b' ∧ c = c' ∧ d = d') (by simp)
instance : DecidableEq FProc := fun ⟨a, b, c, d, e, f⟩ ⟨a', b', c', d', e', f'⟩ => decidable_of_iff (a = a' ∧ b = b' ∧ c = c' ∧ d = d' ∧ e = e' ∧ f = f') (by simp)
instance : DecidableEq FFace := fun ⟨a, b, c⟩ ⟨a', b', c'⟩ => decidable_of_iff (a = a' ∧ b = b' ∧ c = c') (by simp)
namespace face
theorem take_snoc {α : Type} [DecidableEq α] (l m : List α) (k : Nat) (hl : k < l.length) (hm : k < m.length) : (decide (l.take (k + 1) = m.take (k + 1))) = (decide (l.take k = m.take k) && decide (l[k] = m[k])) := by
 rw [List.take_succ_eq_append_getElem hl, List.take_succ_eq_append_getElem hm]; rw [Bool.eq_iff_iff]; simp only [decide_eq_true_eq, Bool.and_eq_true]; constructor
 ·intro h
  have := List.append_inj' h rfl; exact ⟨this.1, by simpa using this.2⟩
 ·rintro ⟨h1, h2⟩
  rw [h1, h2]
theorem take_ne {α : Type} [DecidableEq α] {l m : List α} {k : Nat} (hl : k < l.length) (hm : k < m.length) (h : l[k] ≠ m[k]) : decide (l = m) = false := by
 rw [decide_eq_false_iff_not]; rintro rfl; exact h rfl
theorem take_all {α : Type} [DecidableEq α] {l m : List α} {k : Nat} (hl : l.length = k) (hm : m.length = k) (h : decide (l.take k = m.take k) = true) : decide (l = m) = true := by
 rw [List.take_of_length_le (by omega), List.take_of_length_le (by omega)] at h; exact h
theorem len_ne {α : Type} [DecidableEq α] {l m : List α} (h : l.length ≠ m.length) : decide (l = m) = false := by
 rw [decide_eq_false_iff_not]; rintro rfl; exact h rfl
set_option maxRecDepth 100000 in
theorem ints_any (a b : Option Addr) (c d : Nat) (l m : List Int) (w : World) (hl : AllIn 1 IntIn w a l) (hm : AllIn 1 IntIn w b m) (hc : l.length ≤ c) (hc2 : c ≤ maxLen) (hd : m.length ≤ d) :
  Calls Tryz.prog 107 #[.slice a l.length c, .slice b m.length d] w fun e w' => e = .returned (.bool (decide (l = m))) ∧ ∃ n, w' = w.drewN n := by
 unfold maxLen at hc2; by_cases hlen : l.length = m.length
 ·generalize hB : decide (l = m) = B
  have HB := Z_ hB; clear hB; obtain ⟨n, hn⟩ : ∃ n, l.length = n := ⟨_, rfl⟩; have HN := Z_ hn; have HM := Z_ (hlen.symm.trans hn); rw [← hlen, hn]; rw [hn] at hc; rw [← hlen, hn] at hd; have HI := Z_ (And.intro hl hm); clear hn hlen hl hm; go_enter Tryz.func107, Tryz.ntmps107
  go_wp2_with fail
  go_loopw [13] (fun i wr => ∃ k : Nat, k ≤ n ∧ i = .int .i64 k ∧ Hid (decide (l.take k = m.take k) = true) ∧ ∃ q, wr = w.drewN q) (fun i _ => n - (intOf i).toNat)
  case atStart => exact ⟨0, Nat.zero_le _, rfl, by simp [Hid], 0, rfl⟩
  case round =>
   obtain ⟨k, hk, rfl, hrel, q, rfl⟩ := hrel; by_cases hlt : k < n
   ·have hki : (k : Int) < (n : Int) := by omega
    have hlk : k < l.length := by rw [HN.out]; exact hlt
    have hmk : k < m.length := by rw [HM.out]; exact hlt
    obtain ⟨bl, ol, rfl, hbl, cl⟩ := HI.out.1 k hlk; obtain ⟨bm, om, rfl, hbm, cm⟩ := HI.out.2 k hmk; unfold IntIn at cl cm; rw [Nat.mul_one] at cl cm; have hs := take_snoc l m k hlk hmk; rw [hrel.out, Bool.true_and] at hs; have HNE := Z_ (fun h => take_ne hlk hmk h); generalize l[k] = x at *; generalize m[k] = y at *; by_cases he : x = y
    ·have hxy : (x == y) = true := by simpa using he
     have HS := Z_ (hs.trans (decide_eq_true he)); clear hs he; go_wp2_with fail
     go_quiet (fail)
     go_wp2_with fail
     go_roundw
     case rel => exact ⟨k + 1, by omega, by go_num, HS.out, _, rfl⟩
     case measure => simp [intOf]; omega
    ·have hxy : (x == y) = false := by simpa using he
     have HF := Z_ (HB.out.symm.trans (HNE.out he)); clear hs he HNE; go_wp2_with fail
     go_quiet (fail)
     go_wp2_with fail
     go_ret
     first | exact ⟨ret_bool HF.out.symm, _, rfl⟩ | exact ⟨ret_bool HF.out.symm, _, World.drewN_drewN _ _ _⟩
   ·obtain rfl : k = n := by omega
    have HF := Z_ (HB.out.symm.trans (take_all HN.out HM.out hrel.out)); go_wp2_with fail
    go_ret
    first | exact ⟨ret_bool HF.out.symm, _, rfl⟩ | exact ⟨ret_bool HF.out.symm, _, World.drewN_drewN _ _ _⟩
 ·rw [len_ne hlen]
  have hne : ((l.length : Int) == (m.length : Int)) = false := by rw [beq_eq_false_iff_ne]; omega
  obtain ⟨n, hn⟩ : ∃ n, l.length = n := ⟨_, rfl⟩; obtain ⟨n', hn'⟩ : ∃ n, m.length = n := ⟨_, rfl⟩; rw [hn, hn'] at hne hlen ⊢; clear hn hn' hl hm; go_enter Tryz.func107, Tryz.ntmps107
  go_wp2_with fail
  go_ret
  exact ⟨rfl, 0, rfl⟩
set_option maxRecDepth 100000 in
set_option maxHeartbeats 1000000 in
theorem vars_any (a b : Option Addr) (c d : Nat) (l m : List FVar) (w : World) (hl : AllIn 4 VarIn w a l) (hm : AllIn 4 VarIn w b m) (hc : l.length ≤ c) (hc2 : c ≤ maxLen) (hd : m.length ≤ d) :
  Calls Tryz.prog 104 #[.slice a l.length c, .slice b m.length d] w fun e w' => e = .returned (.bool (decide (l = m))) ∧ ∃ n, w' = w.drewN n := by
 unfold maxLen at hc2; by_cases hlen : l.length = m.length
 ·generalize hB : decide (l = m) = B
  have HB := Z_ hB; clear hB; obtain ⟨n, hn⟩ : ∃ n, l.length = n := ⟨_, rfl⟩; have HN := Z_ hn; have HM := Z_ (hlen.symm.trans hn); rw [← hlen, hn]; rw [hn] at hc; rw [← hlen, hn] at hd; have HI := Z_ (And.intro hl hm); clear hn hlen hl hm; go_enter Tryz.func104, Tryz.ntmps104
  go_wp2_with fail
  go_loopw [13] (fun i wr => ∃ k : Nat, k ≤ n ∧ i = .int .i64 k ∧ Hid (decide (l.take k = m.take k) = true) ∧ ∃ q, wr = w.drewN q) (fun i _ => n - (intOf i).toNat)
  case atStart => exact ⟨0, Nat.zero_le _, rfl, by simp [Hid], 0, rfl⟩
  case round =>
   obtain ⟨k, hk, rfl, hrel, q, rfl⟩ := hrel; by_cases hlt : k < n
   ·have hki : (k : Int) < (n : Int) := by omega
    have hlk : k < l.length := by rw [HN.out]; exact hlt
    have hmk : k < m.length := by rw [HM.out]; exact hlt
    obtain ⟨bl, ol, rfl, hbl, cl⟩ := HI.out.1 k hlk; obtain ⟨bm, om, rfl, hbm, cm⟩ := HI.out.2 k hmk; obtain ⟨l0, l1, l2, l3, _⟩ := cl; obtain ⟨m0, m1, m2, m3, _⟩ := cm; have hs := take_snoc l m k hlk hmk; rw [hrel.out, Bool.true_and] at hs; have HNE := Z_ (fun h => take_ne hlk hmk h); generalize l[k] = x at *; generalize m[k] = y at *; obtain ⟨xn, xp, xl, xs⟩ := x; obtain ⟨yn, yp, yl, ys⟩ := y; simp only at l0 l1 l2 l3 m0 m1 m2 m3; have hq : FVar.mk xn xp xl xs = FVar.mk yn yp yl ys ↔ xn = yn ∧ xp = yp ∧ xl = yl ∧ xs = ys := by simp
    have HQ := Z_ hq; have HS := Z_ hs; clear hs hq; by_cases e0 : xn = yn
    ·subst e0
     by_cases e1 : xp = yp
     ·subst e1
      by_cases e2 : xl = yl
      ·subst e2
       by_cases e3 : xs = ys
       ·subst e3
        have HT := Z_ (HS.out.trans (decide_eq_true rfl)); clear HS HQ HNE; go_wp2_with fail
        go_quiet (fail)
        go_wp2_with fail
        go_roundw
        case rel => exact ⟨k + 1, by omega, by go_num, HT.out, _, rfl⟩
        case measure => simp [intOf]; omega
       ·have HF := Z_ (HB.out.symm.trans (HNE.out (fun h => e3 (HQ.out.1 h).2.2.2)))
        have h0 : (xs == ys) = false := by simpa using e3
        clear HS HQ HNE e3; go_wp2_with fail
        go_quiet (fail)
        go_wp2_with fail
        go_ret
        first | exact ⟨ret_bool HF.out.symm, _, rfl⟩ | exact ⟨ret_bool HF.out.symm, _, World.drewN_drewN _ _ _⟩
      ·have HF := Z_ (HB.out.symm.trans (HNE.out (fun h => e2 (HQ.out.1 h).2.2.1)))
       have h0 : (xl == yl) = false := by simpa using e2
       clear HS HQ HNE e2; go_wp2_with fail
       go_quiet (fail)
       go_wp2_with fail
       go_ret
       first | exact ⟨ret_bool HF.out.symm, _, rfl⟩ | exact ⟨ret_bool HF.out.symm, _, World.drewN_drewN _ _ _⟩
     ·have HF := Z_ (HB.out.symm.trans (HNE.out (fun h => e1 (HQ.out.1 h).2.1)))
      have h0 : (xp == yp) = false := by simpa using e1
      clear HS HQ HNE e1; go_wp2_with fail
      go_quiet (fail)
      go_wp2_with fail
      go_ret
      first | exact ⟨ret_bool HF.out.symm, _, rfl⟩ | exact ⟨ret_bool HF.out.symm, _, World.drewN_drewN _ _ _⟩
    ·have HF := Z_ (HB.out.symm.trans (HNE.out (fun h => e0 (HQ.out.1 h).1)))
     have h0 : (xn.toList == yn.toList) = false := by rw [ByteArray.toList_eq, ByteArray.toList_eq]; simpa [ByteArray.ext_iff] using e0
     have h1 : (xn.data.toList == yn.data.toList) = false := by simpa [ByteArray.ext_iff] using e0
     clear HS HQ HNE e0; go_wp2_with fail
     go_quiet (fail)
     go_wp2_with fail
     go_ret
     first | exact ⟨ret_bool HF.out.symm, _, rfl⟩ | exact ⟨ret_bool HF.out.symm, _, World.drewN_drewN _ _ _⟩
   ·obtain rfl : k = n := by omega
    have HF := Z_ (HB.out.symm.trans (take_all HN.out HM.out hrel.out)); go_wp2_with fail
    go_ret
    first | exact ⟨ret_bool HF.out.symm, _, rfl⟩ | exact ⟨ret_bool HF.out.symm, _, World.drewN_drewN _ _ _⟩
 ·rw [len_ne hlen]
  have hne : ((l.length : Int) == (m.length : Int)) = false := by rw [beq_eq_false_iff_ne]; omega
  obtain ⟨n, hn⟩ : ∃ n, l.length = n := ⟨_, rfl⟩; obtain ⟨n', hn'⟩ : ∃ n, m.length = n := ⟨_, rfl⟩; rw [hn, hn'] at hne hlen ⊢; clear hn hn' hl hm; go_enter Tryz.func104, Tryz.ntmps104
  go_wp2_with fail
  go_ret
  exact ⟨rfl, 0, rfl⟩
end face
end Go.Proofs.YtpcihajmcejliabGreatDoor
namespace Go.Proofs.YtpcihajmcejliabGreatDoor
open Go.RowKit
def turnV (x : FFace) (k : Nat) (z : Int) : FFace := ⟨x.modn, x.vars.modify k fun v => { v with label := z }, x.procs⟩
namespace ownm
open synw
theorem turn_len (x : FFace) (k : Nat) (z : Int) : (turnV x k z).vars.length = x.vars.length := by simp [turnV]
theorem turn_at (x : FFace) (k : Nat) (z : Int) (j : Nat) (hj : j < (turnV x k z).vars.length) (hj2 : j < x.vars.length) : (turnV x k z).vars[j] = if k = j then { x.vars[j] with label := z } else x.vars[j] := by
 simp only [turnV, List.getElem_modify]
theorem turn_keys (x : FFace) (k : Nat) (z : Int) : (turnV x k z).keys = x.keys := by
 unfold FFace.keys turnV; simp only
 congr 1
 refine List.ext_getElem (by simp) fun j h1 h2 => ?_
 simp only [List.getElem_map, List.getElem_modify]; split <;> rfl
theorem turn_may {x : FFace} {k : Nat} {z : Int} (hz : z = 0 ∨ z = 1) (h : mayFaceB x = true) : mayFaceB (turnV x k z) = true := by
 unfold mayFaceB at h ⊢; simp only [Bool.and_eq_true] at h ⊢; obtain ⟨⟨⟨⟨⟨h1, h2⟩, h3⟩, h4⟩, h5⟩, h6⟩ := h; refine ⟨⟨⟨⟨⟨h1, by rw [turn_len]; exact h2⟩, ?_⟩, h4⟩, by rw [turn_keys]; exact h5⟩, by rw [turn_keys]; exact h6⟩
 rw [List.all_eq_true] at h3 ⊢; intro v hv; obtain ⟨j, hj, rfl⟩ := List.getElem_of_mem hv; have hj2 : j < x.vars.length := by rw [turn_len] at hj; exact hj
 rw [turn_at x k z j hj hj2]; have h7 := h3 x.vars[j] (List.getElem_mem hj2); split
 ·unfold varT at h7 ⊢
  simp only [Bool.and_eq_true] at h7 ⊢; refine ⟨⟨⟨h7.1.1.1, ?_⟩, h7.1.2⟩, h7.2⟩
  rcases hz with rfl | rfl <;> rfl
 ·exact h7
theorem turn_ne {x : FFace} {k : Nat} (hk : k < x.vars.length) (_h : x.vars[k].label = 0 ∨ x.vars[k].label = 1) : x ≠ turnV x k (1 - x.vars[k].label) := by
 intro e; have h1 : k < (turnV x k (1 - x.vars[k].label)).vars.length := by rw [turn_len]; exact hk
 have h2 := turn_at x k (1 - x.vars[k].label) k h1 hk
 have h3 : (turnV x k (1 - x.vars[k].label)).vars[k] = x.vars[k] := by
  have : ∀ (y : FFace) (e : x = y), y.vars[k]'(by subst e; exact hk) = x.vars[k] := fun y e => by subst e; rfl
  exact this _ e
 rw [h3, if_pos rfl] at h2; have h4 := congrArg FVar.label h2; simp only at h4; omega
theorem may_label {x : FFace} (h : mayFaceB x = true) {k : Nat} (hk : k < x.vars.length) : x.vars[k].label = 0 ∨ x.vars[k].label = 1 := by
 unfold mayFaceB at h; simp only [Bool.and_eq_true] at h; have h1 := h.1.1.1.2; rw [List.all_eq_true] at h1; have h2 := h1 _ (List.getElem_mem hk); unfold varT at h2; simp only [Bool.and_eq_true] at h2; have h3 := h2.1.1.2; unfold labB at h3; simpa using h3
theorem may_few {x : FFace} (h : mayFaceB x = true) : x.vars.length + x.procs.length ≤ 20 := by
 unfold mayFaceB at h; simp only [Bool.and_eq_true] at h; simpa using h.1.1.1.1.2
theorem face_blk {M : Nat → Bool} {w : World} {x : FFace} {a : Option Addr} {s q : Value} {n m k : Nat} (h : ofn.FaceX M w x (.agg #[s, .slice a n m, q])) (hk : k < x.vars.length) : ∃ g cs, a = some ⟨g, 0, none⟩ ∧ M g = false ∧ Blk w g cs 82 := by
 obtain ⟨a', m', c', d', e', hV, -, -, -, -, -, -, hh⟩ := h; injection e' with e'
 injection e' with e'
 injection e' with _ e'
 injection e' with e1 _
 injection e1 with e1 _ _
 subst e1; rcases hh with rfl | hh
 ·obtain ⟨b, o, eb, -⟩ := hV k hk
  cases eb
 ·exact hh
theorem turn_face {M : Nat → Bool} {w : World} {x : FFace} {g : Nat} {cs : Array Value} {s : ByteArray} {n m : Nat} {q : Value} {T : TypeId} (h : ofn.FaceX M w x (.agg #[.string s, .slice (some ⟨g, 0, none⟩) n m, q])) (hB : Blk w g cs T) (k : Nat) (z : Int) :
  FaceAt (w.setCell ⟨g, k * 4 + 2, none⟩ (.int .i64 z)) (turnV x k z) (.agg #[.string s, .slice (some ⟨g, 0, none⟩) n m, q]) := by
 obtain ⟨a, m', c, d, e, h1, h2, h3, h4, h5, h6, h7, h8⟩ := h; injection e with e
 injection e with e
 injection e with e0 e
 injection e0 with e0
 injection e with e1 e
 injection e1 with e1 e2 e3
 injection e with e4 e
 subst e0 e1 e2 e3 e4; have hC := chg_set (S := g) (Chg.refl _ w) (k * 4 + 2) (.int .i64 z); have hB2 := hB.set (k * 4 + 2) (.int .i64 z); refine ⟨some ⟨g, 0, none⟩, m, c, d, by rw [turn_len]; rfl, fun j hj => ?_, ?_, h3, by rw [turn_len]; exact h4, h5, h6, h7⟩
 ·have hj2 : j < x.vars.length := by rw [turn_len] at hj; exact hj
  obtain ⟨b, o, eb, hb, hin⟩ := h1 j hj2; injection eb with eb
  injection eb with eb eo
  subst eb eo; have hin2 := VarIn.keeps (keeps_bare M w) hin; rw [turn_at x k z j hj hj2]; refine ⟨g, 0, rfl, by rw [hide_size] at hb; simpa [World.setCell] using hb, ?_⟩
  have cell : ∀ o u, w.cell? ⟨g, o, none⟩ = some u → (w.setCell ⟨g, k * 4 + 2, none⟩ (.int .i64 z)).cell? ⟨g, o, none⟩ = some (if o = k * 4 + 2 then .int .i64 z else u) := fun o u hu => by
   rw [hB.cell] at hu; rw [hB2.cell, Array.getElem?_setIfInBounds]; have hlt : o < cs.size := (Array.getElem?_eq_some_iff.1 hu).1; by_cases e : k * 4 + 2 = o
   ·subst e; rw [if_pos rfl, if_pos hlt, if_pos rfl]
   ·rw [if_neg e, hu, if_neg (fun h => e h.symm)]
  obtain ⟨c0, c1, c2, c3, c4⟩ := hin2; have d0 := cell _ _ c0; have d1 := cell _ _ c1; have d2 := cell _ _ c2; have d3 := cell _ _ c3; rw [if_neg (by omega)] at d0 d1 d3; by_cases ek : k = j
  ·subst ek
   rw [if_pos rfl]; rw [if_pos (by omega)] at d2; exact ⟨d0, d1, d2, d3, c4⟩
  ·rw [if_neg ek]
   rw [if_neg (by omega)] at d2; exact ⟨d0, d1, d2, d3, c4⟩
 ·have hK : Keeps (hide (fun i => M i || ofp.ownB (.slice (some ⟨g, 0, none⟩) x.vars.length m) i) w) (w.setCell ⟨g, k * 4 + 2, none⟩ (.int .i64 z)) :=
   (keeps_chg hC fun i _ e => by subst e; simp [ofp.ownB, Value.ownBlock]).trans (keeps_bare _ _)
  exact h2.keeps hK fun _ _ _ => ProcIn.keeps hK
end ownm
end Go.Proofs.YtpcihajmcejliabGreatDoor
namespace Go.Proofs.YtpcihajmcejliabGreatDoor
open Go.RowKit
def ProcAt (w : World) (x : FProc) (v : Value) : Prop :=
 ∃ a cap, v = .agg #[.string x.name, .bool x.pub, .slice a x.params.length cap, .int .i64 x.writes, .bool x.gives, .int .i64 x.given] ∧ AllIn 1 IntIn w a x.params ∧ x.params.length ≤ cap ∧ cap ≤ maxLen
theorem ProcAt.ext {w w' : World} (hE : Ext w w') {x : FProc} {v : Value} (h : ProcAt w x v) : ProcAt w' x v := by
 obtain ⟨a, cap, rfl, h1, h2⟩ := h; exact ⟨a, cap, rfl, h1.mono hE.size fun _ _ _ hb h => IntIn.ext hE hb h, h2⟩
namespace face
theorem str_ne {a b : ByteArray} (h : a ≠ b) : (a.toList == b.toList) = false ∧ (a.data.toList == b.data.toList) = false := by
 have h1 : a.data.toList ≠ b.data.toList := fun e => h (ByteArray.ext (Array.ext' e))
 rw [ByteArray.toList_eq, ByteArray.toList_eq]; exact ⟨by simpa using h1, by simpa using h1⟩
set_option maxRecDepth 100000 in
set_option maxHeartbeats 1000000 in
theorem closure_any (x y : FProc) (v u : Value) (w : World) (hx : ProcAt w x v) (hy : ProcAt w y u) :
  Calls Tryz.prog 106 #[v, u] w fun e w' => e = .returned (.bool (decide (x = y))) ∧ Ext w w' := by
 obtain ⟨a, c, rfl, ha, hac, hcm⟩ := hx; obtain ⟨b, d, rfl, hb, hbd, hdm⟩ := hy; have CI := Z_ (fun w hl hm => ints_any a b c d x.params y.params w hl hm hac hcm hbd); obtain ⟨xn, xp, xl, xw, xg, xv⟩ := x; obtain ⟨yn, yp, yl, yw, yg, yv⟩ := y; simp only at ha hb CI; have HQ := Z_ (show FProc.mk xn xp xl xw xg xv = FProc.mk yn yp yl yw yg yv ↔ xn = yn ∧ xp = yp ∧ xl = yl ∧ xw = yw ∧ xg = yg ∧ xv = yv by simp); generalize hB : decide (FProc.mk xn xp xl xw xg xv = FProc.mk yn yp yl yw yg yv) = B; have HB := Z_ hB; have hf : (¬ (FProc.mk xn xp xl xw xg xv = FProc.mk yn yp yl yw yg yv)) → B = false := fun h => by rw [← hB]; exact decide_eq_false h
 have HF := Z_ hf; have hE : Ext w ((w.alloc (.cells #[.string xn, .bool xp, .slice a xl.length c, .int .i64 xw, .bool xg, .int .i64 xv] 179)).alloc (.cells #[.string yn, .bool yp, .slice b yl.length d, .int .i64 yw, .bool yg, .int .i64 yv] 179)) := ((Chg.refl _ _).alloc _).alloc _; have ha' := ha.mono hE.size fun _ _ _ hb h => IntIn.ext hE hb h
 have hb' := hb.mono hE.size fun _ _ _ hb h => IntIn.ext hE hb h
 have HA := Z_ (And.intro ha' hb'); have HE := Z_ hE; clear hB hf ha hb hac hbd ha' hb' hE hcm hdm; by_cases e0 : xn = yn
 ·subst e0
  by_cases e1 : xp = yp
  ·subst e1
   have e2 : (decide (xl = yl) = true) ∨ (decide (xl = yl) = false) := by cases decide (xl = yl) <;> simp
   obtain ⟨nx, hnx⟩ : ∃ n, xl.length = n := ⟨_, rfl⟩; obtain ⟨ny, hny⟩ : ∃ n, yl.length = n := ⟨_, rfl⟩; rw [hnx] at HA CI HE ⊢; rw [hny] at HA CI HE ⊢; clear hnx hny; rcases e2 with e2 | e2
   ·have he2 := Z_ (of_decide_eq_true e2)
    rw [e2] at CI; clear e2; by_cases e3 : xw = yw
    ·subst e3
     by_cases e4 : xg = yg
     ·subst e4
      by_cases e5 : xv = yv
      ·subst e5
       have HT := Z_ (show B = true by rw [← HB.out]; exact decide_eq_true (HQ.out.2 ⟨rfl, rfl, he2.out, rfl, rfl, rfl⟩)); go_enter Tryz.func106, Tryz.ntmps106
       go_wp2_with (go_at_call 107; refine (CI.out _ HA.out.1 HA.out.2).mono ?_; rintro e w' ⟨rfl, nq, rfl⟩)
       go_ret
       exact ⟨ret_bool HT.out.symm, HE.out.drewN _⟩
      ·have HT := Z_ (HF.out fun h => e5 (HQ.out.1 h).2.2.2.2.2)
       have h0 : (xv == yv) = false := by simpa using e5
       clear e5; go_enter Tryz.func106, Tryz.ntmps106
       go_wp2_with (go_at_call 107; refine (CI.out _ HA.out.1 HA.out.2).mono ?_; rintro e w' ⟨rfl, nq, rfl⟩)
       go_ret
       exact ⟨ret_bool HT.out.symm, HE.out.drewN _⟩
     ·have HT := Z_ (HF.out fun h => e4 (HQ.out.1 h).2.2.2.2.1)
      have h0 : (xg == yg) = false := by simpa using e4
      clear e4; go_enter Tryz.func106, Tryz.ntmps106
      go_wp2_with (go_at_call 107; refine (CI.out _ HA.out.1 HA.out.2).mono ?_; rintro e w' ⟨rfl, nq, rfl⟩)
      go_ret
      exact ⟨ret_bool HT.out.symm, HE.out.drewN _⟩
    ·have HT := Z_ (HF.out fun h => e3 (HQ.out.1 h).2.2.2.1)
     have h0 : (xw == yw) = false := by simpa using e3
     clear e3; go_enter Tryz.func106, Tryz.ntmps106
     go_wp2_with (go_at_call 107; refine (CI.out _ HA.out.1 HA.out.2).mono ?_; rintro e w' ⟨rfl, nq, rfl⟩)
     go_ret
     exact ⟨ret_bool HT.out.symm, HE.out.drewN _⟩
   ·have HT := Z_ (HF.out fun h => of_decide_eq_false e2 (HQ.out.1 h).2.2.1)
    rw [e2] at CI; clear e2; go_enter Tryz.func106, Tryz.ntmps106
    go_wp2_with (go_at_call 107; refine (CI.out _ HA.out.1 HA.out.2).mono ?_; rintro e w' ⟨rfl, nq, rfl⟩)
    go_ret
    exact ⟨ret_bool HT.out.symm, HE.out.drewN _⟩
  ·have HT := Z_ (HF.out fun h => e1 (HQ.out.1 h).2.1)
   have h0 : (xp == yp) = false := by simpa using e1
   clear e1; go_enter Tryz.func106, Tryz.ntmps106
   go_wp2_with fail
   go_ret
   exact ⟨ret_bool HT.out.symm, HE.out⟩
 ·have HT := Z_ (HF.out fun h => e0 (HQ.out.1 h).1)
  obtain ⟨h0, h1⟩ := str_ne e0; clear e0; go_enter Tryz.func106, Tryz.ntmps106
  go_wp2_with fail
  go_ret
  exact ⟨ret_bool HT.out.symm, HE.out⟩
set_option maxRecDepth 100000 in
set_option maxHeartbeats 2000000 in
theorem equalfunc_any (a b : Option Addr) (c d : Nat) (l m : List FProc) (w : World) (hl : AllIn 6 ProcIn w a l) (hm : AllIn 6 ProcIn w b m) (hc : l.length ≤ c) (hc2 : c ≤ maxLen) (hd : m.length ≤ d) :
  Calls Tryz.prog 105 #[.slice a l.length c, .slice b m.length d, .func (.func 106) #[] #[]] w fun e w' => e = .returned (.bool (decide (l = m))) ∧ Ext w w' := by
 unfold maxLen at hc2; by_cases hlen : l.length = m.length
 ·generalize hB : decide (l = m) = B
  have HB := Z_ hB; clear hB; obtain ⟨n, hn⟩ : ∃ n, l.length = n := ⟨_, rfl⟩; have HN := Z_ hn; have HM := Z_ (hlen.symm.trans hn); rw [← hlen, hn]; rw [hn] at hc; rw [← hlen, hn] at hd; have HI := Z_ (And.intro hl hm); clear hn hlen hl hm; go_enter Tryz.func105, Tryz.ntmps105
  go_wp2_with fail
  go_loopw [17] (fun i wr => ∃ k : Nat, k ≤ n ∧ i = .int .i64 k ∧ Hid (decide (l.take k = m.take k) = true) ∧ Ext w wr) (fun i _ => n - (intOf i).toNat)
  case atStart => exact ⟨0, Nat.zero_le _, rfl, by simp [Hid], Chg.refl _ _⟩
  case round =>
   obtain ⟨k, hk, rfl, hrel, hE⟩ := hrel; by_cases hlt : k < n
   ·have hki : (k : Int) < (n : Int) := by omega
    have hlk : k < l.length := by rw [HN.out]; exact hlt
    have hmk : k < m.length := by rw [HM.out]; exact hlt
    obtain ⟨bl, ol, rfl, hbl, cl⟩ := HI.out.1 k hlk; obtain ⟨bm, om, rfl, hbm, cm⟩ := HI.out.2 k hmk; have hs := take_snoc l m k hlk hmk; rw [hrel.out, Bool.true_and] at hs; have HNE := Z_ (fun h => take_ne hlk hmk h); generalize l[k] = x at *; generalize m[k] = y at *; have HS := Z_ hs; obtain ⟨l0, l1, ⟨pa, pc, l2, p1, p2, p3⟩, l3, l4, l5, _⟩ := ProcIn.ext hE hbl cl; obtain ⟨m0, m1, ⟨qa, qc, m2, q1, q2, q3⟩, m3, m4, m5, _⟩ := ProcIn.ext hE hbm cm; have hbl' := Nat.lt_of_lt_of_le hbl hE.size; have hbm' := Nat.lt_of_lt_of_le hbm hE.size; have CC := Z_ (fun (w2 : World) (hE2 : Ext wr w2) => closure_any x y _ _ w2 (ProcAt.ext hE2 ⟨pa, pc, rfl, p1, p2, p3⟩) (ProcAt.ext hE2 ⟨qa, qc, rfl, q1, q2, q3⟩)); have HE := Z_ hE; clear hs cl cm p1 p2 p3 q1 q2 q3 hE; obtain ⟨xn, xp, xl, xw, xg, xv⟩ := x; obtain ⟨yn, yp, yl, yw, yg, yv⟩ := y; simp only at l0 l1 l2 l3 l4 l5 m0 m1 m2 m3 m4 m5 CC
    obtain ⟨nx, hnx⟩ : ∃ n, xl.length = n := ⟨_, rfl⟩; obtain ⟨ny, hny⟩ : ∃ n, yl.length = n := ⟨_, rfl⟩; rw [hnx] at l2 CC; rw [hny] at m2 CC; clear hnx hny; obtain ⟨D, hD⟩ : ∃ D, decide (FProc.mk xn xp xl xw xg xv = FProc.mk yn yp yl yw yg yv) = D := ⟨_, rfl⟩; rw [hD] at CC; have HD := Z_ hD; clear hD; have hX2 : Ext wr ((wr.alloc (.cells #[.string xn, .bool xp, .slice pa nx pc, .int .i64 xw, .bool xg, .int .i64 xv] 179)).alloc (.cells #[.string yn, .bool yp, .slice qa ny qc, .int .i64 yw, .bool yg, .int .i64 yv] 179)) := ((Chg.refl _ _).alloc _).alloc _; have HX := Z_ hX2; clear hX2; cases D
    ·have HF := Z_ (HB.out.symm.trans (HNE.out fun h => of_decide_eq_false HD.out h))
     go_wp2_with fail
     refine (CC.out _ HX.out).mono ?_
     rintro e w' ⟨rfl, hE2⟩; go_wp2_with fail
     go_ret
     exact ⟨ret_bool HF.out.symm, HE.out.ext (HX.out.ext hE2)⟩
    ·have HT := Z_ (HS.out.trans HD.out)
     go_wp2_with fail
     refine (CC.out _ HX.out).mono ?_
     rintro e w' ⟨rfl, hE2⟩; go_wp2_with fail
     go_roundw
     case rel => exact ⟨k + 1, by omega, by go_num, HT.out, HE.out.ext (HX.out.ext hE2)⟩
     case measure => simp [intOf]; omega
   ·obtain rfl : k = n := by omega
    have HF := Z_ (HB.out.symm.trans (take_all HN.out HM.out hrel.out)); go_wp2_with fail
    go_ret
    exact ⟨ret_bool HF.out.symm, hE⟩
 ·rw [len_ne hlen]
  have hne : ((l.length : Int) == (m.length : Int)) = false := by rw [beq_eq_false_iff_ne]; omega
  obtain ⟨n, hn⟩ : ∃ n, l.length = n := ⟨_, rfl⟩; obtain ⟨n', hn'⟩ : ∃ n, m.length = n := ⟨_, rfl⟩; rw [hn, hn'] at hne hlen ⊢; clear hn hn' hl hm; go_enter Tryz.func105, Tryz.ntmps105
  go_wp2_with fail
  go_ret
  exact ⟨rfl, Chg.refl _ _⟩
set_option maxRecDepth 100000 in
set_option maxHeartbeats 2000000 in
theorem same_any (x y : FFace) (v u : Value) (w : World) (hx : FaceAt w x v) (hy : FaceAt w y u) :
  Calls Tryz.prog 33 #[v, u] w fun e w' => e = .returned (.bool (decide (x = y))) ∧ Ext w w' := by
 obtain ⟨a, am, c, cm, rfl, ha, hc, _, ha1, ha2, hc1, hc2⟩ := hx; obtain ⟨b, bm, d, dm, rfl, hb, hd, _, hb1, hb2, hd1, hd2⟩ := hy; have CV := Z_ (fun w hl hm => vars_any a b am bm x.vars y.vars w hl hm ha1 ha2 hb1); have CP := Z_ (fun w hl hm => equalfunc_any c d cm dm x.procs y.procs w hl hm hc1 hc2 hd1); obtain ⟨xn, xv, xp⟩ := x; obtain ⟨yn, yv, yp⟩ := y; simp only at ha hc hb hd CV CP; have HQ := Z_ (show FFace.mk xn xv xp = FFace.mk yn yv yp ↔ xn = yn ∧ xv = yv ∧ xp = yp by simp); generalize hB : decide (FFace.mk xn xv xp = FFace.mk yn yv yp) = B; have HB := Z_ hB; have hf : (¬ (FFace.mk xn xv xp = FFace.mk yn yv yp)) → B = false := fun h => by rw [← hB]; exact decide_eq_false h
 have HF := Z_ hf; have hE : Ext w ((w.alloc (.cells #[.string xn, .slice a xv.length am, .slice c xp.length cm] 52)).alloc (.cells #[.string yn, .slice b yv.length bm, .slice d yp.length dm] 52)) := ((Chg.refl _ _).alloc _).alloc _; have HE := Z_ hE; have HV := Z_ (fun w2 (hE : Ext w w2) => And.intro (ha.mono hE.size fun _ _ _ hb h => VarIn.ext hE hb h) (hb.mono hE.size fun _ _ _ hb h => VarIn.ext hE hb h)); have HP := Z_ (fun w2 (hE : Ext w w2) => And.intro (hc.mono hE.size fun _ _ _ hb h => ProcIn.ext hE hb h) (hd.mono hE.size fun _ _ _ hb h => ProcIn.ext hE hb h)); obtain ⟨n1, hn1⟩ : ∃ n, xv.length = n := ⟨_, rfl⟩; obtain ⟨n2, hn2⟩ : ∃ n, xp.length = n := ⟨_, rfl⟩; obtain ⟨n3, hn3⟩ : ∃ n, yv.length = n := ⟨_, rfl⟩; obtain ⟨n4, hn4⟩ : ∃ n, yp.length = n := ⟨_, rfl⟩; rw [hn1, hn3] at CV; rw [hn2, hn4] at CP; simp only [hn1, hn2, hn3, hn4] at HE ⊢
 clear hB hf ha hb hc hd hE hn1 hn2 hn3 hn4 ha1 ha2 hb1 hb2 hc1 hc2 hd1 hd2; by_cases e0 : xn = yn
 ·subst e0
  have e2 : (decide (xv = yv) = true) ∨ (decide (xv = yv) = false) := by cases decide (xv = yv) <;> simp
  have e3 : (decide (xp = yp) = true) ∨ (decide (xp = yp) = false) := by cases decide (xp = yp) <;> simp
  rcases e2 with e2 | e2
  ·have he2 := Z_ (of_decide_eq_true e2)
   rw [e2] at CV; clear e2
   have HT : Hid (B = decide (xp = yp)) := by
    rcases e3 with e3 | e3
    ·rw [e3, ← HB.out]; exact decide_eq_true (HQ.out.2 ⟨rfl, he2.out, of_decide_eq_true e3⟩)
    ·rw [e3]; exact HF.out fun h => of_decide_eq_false e3 (HQ.out.1 h).2.2
   clear e3; generalize decide (xp = yp) = D at *; go_enter Tryz.func33, Tryz.ntmps33
   go_wp2_with (first
    | (go_at_call 104; refine (CV.out _ (HV.out _ HE.out).1 (HV.out _ HE.out).2).mono ?_; rintro e w' ⟨rfl, nq, rfl⟩)
    | (go_at_call 105; refine (CP.out _ (HP.out _ (HE.out.drewN _)).1 (HP.out _ (HE.out.drewN _)).2).mono ?_; rintro e w2 ⟨rfl, hE2⟩))
   go_ret
   exact ⟨ret_bool HT.out.symm, (HE.out.drewN _).ext hE2⟩
  ·have HT := Z_ (HF.out fun h => of_decide_eq_false e2 (HQ.out.1 h).2.1)
   rw [e2] at CV; clear e2 e3; go_enter Tryz.func33, Tryz.ntmps33
   go_wp2_with (go_at_call 104; refine (CV.out _ (HV.out _ HE.out).1 (HV.out _ HE.out).2).mono ?_; rintro e w' ⟨rfl, nq, rfl⟩)
   go_ret
   exact ⟨ret_bool HT.out.symm, HE.out.drewN _⟩
 ·have HT := Z_ (HF.out fun h => e0 (HQ.out.1 h).1)
  obtain ⟨h0, h1⟩ := str_ne e0; clear e0; go_enter Tryz.func33, Tryz.ntmps33
  go_wp2_with fail
  go_ret
  exact ⟨ret_bool HT.out.symm, HE.out⟩
end face
end Go.Proofs.YtpcihajmcejliabGreatDoor
namespace Go.Proofs.YtpcihajmcejliabGreatDoor
open Go.RowKit
namespace rface
open face
set_option maxRecDepth 100000 in
set_option maxHeartbeats 2000000 in
theorem proc_any (x y : FProc) (v u : Value) (w : World) (hx : ProcAt w x v) (hy : ProcAt w y u) :
  Calls Tryz.prog 101 #[v, u] w fun e w' => e = .returned (.bool (decide (x = y))) ∧ Ext w w' := by
 obtain ⟨a, c, rfl, ha, hac, hcm⟩ := hx; obtain ⟨b, d, rfl, hb, hbd, hdm⟩ := hy; unfold maxLen at hcm hdm; obtain ⟨xn, xp, xl, xw, xg, xv⟩ := x; obtain ⟨yn, yp, yl, yw, yg, yv⟩ := y; simp only at ha hb hac hbd; have HQ := Z_ (show FProc.mk xn xp xl xw xg xv = FProc.mk yn yp yl yw yg yv ↔ xn = yn ∧ xp = yp ∧ xl = yl ∧ xw = yw ∧ xg = yg ∧ xv = yv by simp); generalize hB : decide (FProc.mk xn xp xl xw xg xv = FProc.mk yn yp yl yw yg yv) = B; have HB := Z_ hB; have hf : (¬ (FProc.mk xn xp xl xw xg xv = FProc.mk yn yp yl yw yg yv)) → B = false := fun h => by rw [← hB]; exact decide_eq_false h
 have HF := Z_ hf; have hB1 : Blk (w.alloc (.cells #[.string xn, .bool xp, .slice a xl.length c, .int .i64 xw, .bool xg, .int .i64 xv] 179)) w.heap.size #[.string xn, .bool xp, .slice a xl.length c, .int .i64 xw, .bool xg, .int .i64 xv] 179 := Blk.made _ _ _; have hB2 := Blk.made (w.alloc (.cells #[.string xn, .bool xp, .slice a xl.length c, .int .i64 xw, .bool xg, .int .i64 xv] 179)) #[.string yn, .bool yp, .slice b yl.length d, .int .i64 yw, .bool yg, .int .i64 yv] 179; have HB1 := Z_ (hB1.alloc (.cells #[.string yn, .bool yp, .slice b yl.length d, .int .i64 yw, .bool yg, .int .i64 yv] 179)); have HB2 := Z_ hB2; have hE : Ext w ((w.alloc (.cells #[.string xn, .bool xp, .slice a xl.length c, .int .i64 xw, .bool xg, .int .i64 xv] 179)).alloc (.cells #[.string yn, .bool yp, .slice b yl.length d, .int .i64 yw, .bool yg, .int .i64 yv] 179)) := ((Chg.refl _ _).alloc _).alloc _
 have HE := Z_ hE; have HA := Z_ (And.intro ha hb); obtain ⟨nx, hnx⟩ : ∃ n, xl.length = n := ⟨_, rfl⟩; obtain ⟨ny, hny⟩ : ∃ n, yl.length = n := ⟨_, rfl⟩; rw [hnx] at HB1 HB2 HE hac ⊢; rw [hny] at HB1 HB2 HE hbd ⊢; have HNX := Z_ hnx; have HNY := Z_ hny; clear hB hf ha hb hE hB1 hB2 hnx hny; by_cases e0 : xn = yn
 ·subst e0
  by_cases e1 : xp = yp
  ·subst e1
   by_cases e3 : xw = yw
   ·subst e3
    by_cases e4 : xg = yg
    ·subst e4
     by_cases e5 : xv = yv
     ·subst e5
      by_cases e2 : nx = ny
      ·subst e2
       have HL2 := Z_ (fun h : decide (xl = yl) = false => HF.out fun h' => of_decide_eq_false h (HQ.out.1 h').2.2.1); have HL3 := Z_ (fun h : decide (xl = yl) = true => show B = true by rw [← HB.out]; exact decide_eq_true (HQ.out.2 ⟨rfl, rfl, of_decide_eq_true h, rfl, rfl, rfl⟩)); clear HQ HF HB; have hB12 := HB1.out.drewN; have hz1 := HB1.out.lt; have hz2 := HB2.out.lt; go_enter Tryz.func101, Tryz.ntmps101
       go_wp2_with fail
       have HX := Z_ (And.intro HB1.out HB2.out); have hE := HE.out; generalize (w.alloc (.cells #[.string xn, .bool xp, .slice a nx c, .int .i64 xw, .bool xg, .int .i64 xv] 179)).alloc (.cells #[.string xn, .bool xp, .slice b nx d, .int .i64 xw, .bool xg, .int .i64 xv] 179) = w0 at *; clear HB1 HB2 HE hB12; go_loopw [5] (fun i wr => ∃ k : Nat, k ≤ nx ∧ i = .int .i64 k ∧ Hid (decide (xl.take k = yl.take k) = true) ∧ ∃ q, wr = w0.drewN q) (fun i _ => nx - (intOf i).toNat)
       case atStart => exact ⟨0, Nat.zero_le _, rfl, by simp [Hid], 0, rfl⟩
       case round =>
        obtain ⟨k, hk, rfl, hrel, q, rfl⟩ := hrel; have x2 := HX.out.1.cell 2; have y2 := HX.out.2.cell 2; simp at y2
        simp at x2
        by_cases hlt : k < nx
        ·have hki : (k : Int) < (nx : Int) := by omega
         have hlk : k < xl.length := by rw [HNX.out]; exact hlt
         have hmk : k < yl.length := by rw [HNY.out]; exact hlt
         obtain ⟨bl, ol, rfl, hbl, cl⟩ := HA.out.1 k hlk; obtain ⟨bm, om, rfl, hbm, cm⟩ := HA.out.2 k hmk; have cl := IntIn.ext hE hbl cl; have cm := IntIn.ext hE hbm cm; unfold IntIn at cl cm; rw [Nat.mul_one] at cl cm; have hs := take_snoc xl yl k hlk hmk; rw [hrel.out, Bool.true_and] at hs; have HNE := Z_ (fun h => take_ne hlk hmk h); generalize xl[k] = x at *; generalize yl[k] = y at *; by_cases he : x = y
         ·have hxy : (x == y) = true := by simpa using he
          have HS := Z_ (hs.trans (decide_eq_true he)); clear hs he; go_wp2_with fail
          go_quiet (fail)
          go_wp2_with fail
          go_roundw
          case rel => exact ⟨k + 1, by omega, by go_num, HS.out, _, rfl⟩
          case measure => simp [intOf]; omega
         ·have hxy : (x == y) = false := by simpa using he
          have HT := Z_ (HL2.out (HNE.out he)); clear hs he HNE; go_wp2_with fail
          go_quiet (fail)
          go_wp2_with fail
          go_ret
          exact ⟨ret_bool HT.out.symm, (hE.drewN _).drewN _⟩
        ·obtain rfl : k = nx := by omega
         have HT := Z_ (HL3.out (take_all HNX.out HNY.out hrel.out)); go_wp2_with fail
         go_ret
         exact ⟨ret_bool HT.out.symm, hE.drewN _⟩
      ·have HT := Z_ (HF.out fun h => e2 (by rw [← HNX.out, ← HNY.out, (HQ.out.1 h).2.2.1]))
       have h0 : ((nx : Int) == (ny : Int)) = false := by rw [beq_eq_false_iff_ne]; omega
       go_enter Tryz.func101, Tryz.ntmps101
       go_wp2_with fail
       go_ret
       exact ⟨ret_bool HT.out.symm, HE.out⟩
     ·have HT := Z_ (HF.out fun h => e5 (HQ.out.1 h).2.2.2.2.2)
      have h0 : (xv == yv) = false := by simpa using e5
      go_enter Tryz.func101, Tryz.ntmps101
      go_wp2_with fail
      go_ret
      exact ⟨ret_bool HT.out.symm, HE.out⟩
    ·have HT := Z_ (HF.out fun h => e4 (HQ.out.1 h).2.2.2.2.1)
     have h0 : (xg == yg) = false := by simpa using e4
     go_enter Tryz.func101, Tryz.ntmps101
     go_wp2_with fail
     go_ret
     exact ⟨ret_bool HT.out.symm, HE.out⟩
   ·have HT := Z_ (HF.out fun h => e3 (HQ.out.1 h).2.2.2.1)
    have h0 : (xw == yw) = false := by simpa using e3
    go_enter Tryz.func101, Tryz.ntmps101
    go_wp2_with fail
    go_ret
    exact ⟨ret_bool HT.out.symm, HE.out⟩
  ·have HT := Z_ (HF.out fun h => e1 (HQ.out.1 h).2.1)
   have h0 : (xp == yp) = false := by simpa using e1
   clear e1; go_enter Tryz.func101, Tryz.ntmps101
   go_wp2_with fail
   go_ret
   exact ⟨ret_bool HT.out.symm, HE.out⟩
 ·have HT := Z_ (HF.out fun h => e0 (HQ.out.1 h).1)
  obtain ⟨h0, h1⟩ := str_ne e0; clear e0; go_enter Tryz.func101, Tryz.ntmps101
  go_wp2_with fail
  go_ret
  exact ⟨ret_bool HT.out.symm, HE.out⟩
set_option maxRecDepth 100000 in
set_option maxHeartbeats 4000000 in
theorem same_any (x y : FFace) (v u : Value) (w : World) (hx : FaceAt w x v) (hy : FaceAt w y u) :
  Calls Tryz.prog 31 #[v, u] w fun e w' => e = .returned (.bool (decide (x = y))) ∧ Ext w w' := by
 obtain ⟨a, am, c, cm, rfl, ha, hc, _, ha1, ha2, hc1, hc2⟩ := hx; obtain ⟨b, bm, d, dm, rfl, hb, hd, _, hb1, hb2, hd1, hd2⟩ := hy; unfold maxLen at ha2 hb2 hc2 hd2; obtain ⟨xn, xv, xp⟩ := x; obtain ⟨yn, yv, yp⟩ := y; simp only at ha hc hb hd ha1 hb1 hc1 hd1; have HQ := Z_ (show FFace.mk xn xv xp = FFace.mk yn yv yp ↔ xn = yn ∧ xv = yv ∧ xp = yp by simp); generalize hB : decide (FFace.mk xn xv xp = FFace.mk yn yv yp) = B; have HB := Z_ hB; have hf : (¬ (FFace.mk xn xv xp = FFace.mk yn yv yp)) → B = false := fun h => by rw [← hB]; exact decide_eq_false h
 have HF := Z_ hf; have HA := Z_ (And.intro (And.intro ha hb) (And.intro hc hd)); obtain ⟨n1, hn1⟩ : ∃ n, xv.length = n := ⟨_, rfl⟩; obtain ⟨n2, hn2⟩ : ∃ n, xp.length = n := ⟨_, rfl⟩; obtain ⟨n3, hn3⟩ : ∃ n, yv.length = n := ⟨_, rfl⟩; obtain ⟨n4, hn4⟩ : ∃ n, yp.length = n := ⟨_, rfl⟩; simp only [hn1, hn2, hn3, hn4] at ha1 hb1 hc1 hd1 ⊢; have H1 := Z_ hn1; have H2 := Z_ hn2; have H3 := Z_ hn3; have H4 := Z_ hn4; have hB1 : Blk (w.alloc (.cells #[.string xn, .slice a n1 am, .slice c n2 cm] 52)) w.heap.size #[.string xn, .slice a n1 am, .slice c n2 cm] 52 := Blk.made _ _ _; have hB2 := Blk.made (w.alloc (.cells #[.string xn, .slice a n1 am, .slice c n2 cm] 52)) #[.string yn, .slice b n3 bm, .slice d n4 dm] 52; have hE : Ext w ((w.alloc (.cells #[.string xn, .slice a n1 am, .slice c n2 cm] 52)).alloc (.cells #[.string yn, .slice b n3 bm, .slice d n4 dm] 52)) := ((Chg.refl _ _).alloc _).alloc _
 have HB1 := Z_ (hB1.alloc (.cells #[.string yn, .slice b n3 bm, .slice d n4 dm] 52)); have HB2 := Z_ hB2; have HE := Z_ hE; clear hB hf ha hb hc hd hn1 hn2 hn3 hn4 hB1 hB2 hE; by_cases e0 : xn = yn
 ·subst e0
  by_cases e1 : n1 = n3
  ·subst e1
   by_cases e2 : n2 = n4
   ·subst e2
    have HL1 := Z_ (fun h : decide (xv = yv) = false => HF.out fun h' => of_decide_eq_false h (HQ.out.1 h').2.1); have HL2 := Z_ (fun h : decide (xp = yp) = false => HF.out fun h' => of_decide_eq_false h (HQ.out.1 h').2.2); have HL3 := Z_ (fun (h : decide (xv = yv) = true) (h2 : decide (xp = yp) = true) => show B = true by rw [← HB.out]; exact decide_eq_true (HQ.out.2 ⟨rfl, of_decide_eq_true h, of_decide_eq_true h2⟩)); clear HQ HF HB; have hz1 := HB1.out.lt; go_enter Tryz.func31, Tryz.ntmps31
    go_wp2_with fail
    have HX := Z_ (And.intro HB1.out HB2.out); have hE := HE.out; generalize (w.alloc (.cells #[.string xn, .slice a n1 am, .slice c n2 cm] 52)).alloc (.cells #[.string xn, .slice b n1 bm, .slice d n2 dm] 52) = w0 at *; clear HB1 HB2 HE; go_loopw [5] (fun i wr => ∃ k : Nat, k ≤ n1 ∧ i = .int .i64 k ∧ Hid (decide (xv.take k = yv.take k) = true) ∧ Ext w0 wr) (fun i _ => n1 - (intOf i).toNat)
    case atStart => exact ⟨0, Nat.zero_le _, rfl, by simp [Hid], Chg.refl _ _⟩
    case round =>
     obtain ⟨k, hk, rfl, hrel, hE0⟩ := hrel; have X1 := HX.out.1.ext hE0; have Y1 := HX.out.2.ext hE0; have hz1' := X1.lt; have hz2' : w.heap.size + 1 < wr.heap.size := by have := Y1.lt; simpa using this
     by_cases hlt : k < n1
     ·have x1 := X1.cell 1
      have y1 := Y1.cell 1; simp at y1
      simp at x1
      have HX1 := Z_ X1; have HY1 := Z_ Y1; have hki : (k : Int) < (n1 : Int) := by omega
      have hlk : k < xv.length := by rw [H1.out]; exact hlt
      have hmk : k < yv.length := by rw [H3.out]; exact hlt
      obtain ⟨bl, ol, rfl, hbl, cl⟩ := HA.out.1.1 k hlk; obtain ⟨bm', om, rfl, hbm, cm'⟩ := HA.out.1.2 k hmk; have hEr := hE.ext hE0; have hbl' := Nat.lt_of_lt_of_le hbl hEr.size; have hbm' := Nat.lt_of_lt_of_le hbm hEr.size; obtain ⟨l0, l1, l2, l3, _⟩ := VarIn.ext hEr hbl cl; obtain ⟨m0, m1, m2, m3, _⟩ := VarIn.ext hEr hbm cm'; have hs := take_snoc xv yv k hlk hmk; rw [hrel.out, Bool.true_and] at hs; have HNE := Z_ (fun h => HL1.out (take_ne hlk hmk h)); clear cl cm' X1 Y1; generalize xv[k] = x at *; generalize yv[k] = y at *; obtain ⟨xn', xp', xl', xs'⟩ := x; obtain ⟨yn', yp', yl', ys'⟩ := y; simp only at l0 l1 l2 l3 m0 m1 m2 m3; have HQ := Z_ (show FVar.mk xn' xp' xl' xs' = FVar.mk yn' yp' yl' ys' ↔ xn' = yn' ∧ xp' = yp' ∧ xl' = yl' ∧ xs' = ys' by simp); have HS := Z_ hs; have HEr := Z_ hEr; have HE0 := Z_ hE0; clear hs hEr hE0; by_cases f0 : xn' = yn'
      ·subst f0
       by_cases f1 : xp' = yp'
       ·subst f1
        by_cases f2 : xl' = yl'
        ·subst f2
         by_cases f3 : xs' = ys'
         ·subst f3
          have HT := Z_ (HS.out.trans (decide_eq_true rfl)); clear HS HQ HNE; go_wp2_with fail
          go_roundw
          case rel => exact ⟨k + 1, by omega, by go_num, HT.out, (HE0.out.alloc _).alloc _⟩
          case measure => simp [intOf]; omega
         ·have HT := Z_ (HNE.out fun h => f3 (HQ.out.1 h).2.2.2)
          clear HS HQ HNE; go_wp2_with fail
          go_ret
          exact ⟨ret_bool HT.out.symm, (HEr.out.alloc _).alloc _⟩
        ·have HT := Z_ (HNE.out fun h => f2 (HQ.out.1 h).2.2.1)
         clear HS HQ HNE; go_wp2_with fail
         go_ret
         exact ⟨ret_bool HT.out.symm, (HEr.out.alloc _).alloc _⟩
       ·have HT := Z_ (HNE.out fun h => f1 (HQ.out.1 h).2.1)
        have h0 : (xp' == yp') = false := by simpa using f1
        clear HS HQ HNE; go_wp2_with fail
        go_ret
        exact ⟨ret_bool HT.out.symm, (HEr.out.alloc _).alloc _⟩
      ·have HT := Z_ (HNE.out fun h => f0 (HQ.out.1 h).1)
       obtain ⟨h0, h1⟩ := str_ne f0; clear HS HQ HNE f0; go_wp2_with fail
       go_ret
       exact ⟨ret_bool HT.out.symm, (HEr.out.alloc _).alloc _⟩
     ·obtain rfl : k = n1 := by omega
      have HV := Z_ (HL3.out (take_all H1.out H3.out hrel.out)); have x1 := X1.cell 1; have y1 := Y1.cell 1; simp at y1
      simp at x1
      clear hrel X1 Y1; go_wp2_with fail
      go_loopw [8] (fun i wr => ∃ j : Nat, j ≤ n2 ∧ i = .int .i64 j ∧ Hid (decide (xp.take j = yp.take j) = true) ∧ Ext w0 wr) (fun i _ => n2 - (intOf i).toNat)
      case atStart => exact ⟨0, Nat.zero_le _, rfl, by simp [Hid], hE0⟩
      case round =>
       clear hE0 x1 y1 hz1' hz2'; obtain ⟨j, hj, rfl, hrel, hE0⟩ := hrel; have X1 := HX.out.1.ext hE0; have Y1 := HX.out.2.ext hE0; have hz1' := X1.lt; have hz2' : w.heap.size + 1 < wr.heap.size := by have := Y1.lt; simpa using this
       have x2 := X1.cell 2; have y2 := Y1.cell 2; simp at y2
       simp at x2
       clear X1 Y1; by_cases hlt2 : j < n2
       ·have hki : (j : Int) < (n2 : Int) := by omega
        have hlk : j < xp.length := by rw [H2.out]; exact hlt2
        have hmk : j < yp.length := by rw [H4.out]; exact hlt2
        obtain ⟨bl, ol, rfl, hbl, cl⟩ := HA.out.2.1 j hlk; obtain ⟨bm', om, rfl, hbm, cm'⟩ := HA.out.2.2 j hmk; have hEr := hE.ext hE0; have hbl' := Nat.lt_of_lt_of_le hbl hEr.size; have hbm' := Nat.lt_of_lt_of_le hbm hEr.size; have hs := take_snoc xp yp j hlk hmk; rw [hrel.out, Bool.true_and] at hs; have HNE := Z_ (fun h => HL2.out (take_ne hlk hmk h)); generalize xp[j] = x at *; generalize yp[j] = y at *; have HS := Z_ hs; obtain ⟨l0, l1, ⟨pa, pc, l2, p1, p2, p3⟩, l3, l4, l5, _⟩ := ProcIn.ext hEr hbl cl; obtain ⟨m0, m1, ⟨qa, qc, m2, q1, q2, q3⟩, m3, m4, m5, _⟩ := ProcIn.ext hEr hbm cm'; have CC := Z_ (fun (w2 : World) (hE2 : Ext wr w2) => proc_any x y _ _ w2 (ProcAt.ext hE2 ⟨pa, pc, rfl, p1, p2, p3⟩) (ProcAt.ext hE2 ⟨qa, qc, rfl, q1, q2, q3⟩)); have HEr := Z_ hEr; have HE0 := Z_ hE0; clear hs cl cm' p1 p2 p3 q1 q2 q3 hE0 hEr; obtain ⟨xn', xp', xl', xw', xg', xv'⟩ := x
        obtain ⟨yn', yp', yl', yw', yg', yv'⟩ := y; simp only at l0 l1 l2 l3 l4 l5 m0 m1 m2 m3 m4 m5 CC; obtain ⟨nx, hnx⟩ : ∃ n, xl'.length = n := ⟨_, rfl⟩; obtain ⟨ny, hny⟩ : ∃ n, yl'.length = n := ⟨_, rfl⟩; rw [hnx] at l2 CC; rw [hny] at m2 CC; clear hnx hny; obtain ⟨D, hD⟩ : ∃ D, decide (FProc.mk xn' xp' xl' xw' xg' xv' = FProc.mk yn' yp' yl' yw' yg' yv') = D := ⟨_, rfl⟩; rw [hD] at CC; have HD := Z_ hD; clear hD; cases D
        ·have HT := Z_ (HNE.out fun h => of_decide_eq_false HD.out h)
         go_wp2_with fail
         go_still_tail 10, (by kernel_rfl)
         go_wp2_with fail
         refine (CC.out _ (Chg.refl _ _).drew).mono ?_
         rintro e w' ⟨rfl, hE2⟩; go_wp2_with fail
         go_ret
         exact ⟨ret_bool HT.out.symm, HEr.out.drew.ext hE2⟩
        ·have HT := Z_ (HS.out.trans HD.out)
         go_wp2_with fail
         go_still_tail 10, (by kernel_rfl)
         go_wp2_with fail
         refine (CC.out _ (Chg.refl _ _).drew).mono ?_
         rintro e w' ⟨rfl, hE2⟩; go_wp2_with fail
         go_roundw
         case rel => exact ⟨j + 1, by omega, by go_num, HT.out, HE0.out.drew.ext hE2⟩
         case measure => simp [intOf]; omega
       ·obtain rfl : j = n2 := by omega
        have HT := Z_ (HV.out (take_all H2.out H4.out hrel.out)); go_wp2_with fail
        go_ret
        exact ⟨ret_bool HT.out.symm, hE.ext hE0⟩
   ·have HT := Z_ (HF.out fun h => e2 (by rw [← H2.out, ← H4.out, (HQ.out.1 h).2.2]))
    have h0 : ((n2 : Int) == (n4 : Int)) = false := by rw [beq_eq_false_iff_ne]; omega
    go_enter Tryz.func31, Tryz.ntmps31
    go_wp2_with fail
    go_ret
    exact ⟨ret_bool HT.out.symm, HE.out⟩
  ·have HT := Z_ (HF.out fun h => e1 (by rw [← H1.out, ← H3.out, (HQ.out.1 h).2.1]))
   have h0 : ((n1 : Int) == (n3 : Int)) = false := by rw [beq_eq_false_iff_ne]; omega
   go_enter Tryz.func31, Tryz.ntmps31
   go_wp2_with fail
   go_ret
   exact ⟨ret_bool HT.out.symm, HE.out⟩
 ·have HT := Z_ (HF.out fun h => e0 (HQ.out.1 h).1)
  obtain ⟨h0, h1⟩ := str_ne e0; clear e0; go_enter Tryz.func31, Tryz.ntmps31
  go_wp2_with fail
  go_ret
  exact ⟨ret_bool HT.out.symm, HE.out⟩
end rface
end Go.Proofs.YtpcihajmcejliabGreatDoor
