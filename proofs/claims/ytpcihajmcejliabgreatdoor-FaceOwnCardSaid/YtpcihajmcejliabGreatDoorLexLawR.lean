/- The walk of the reference's Scan. The reference's Scan, for every text. -/
import Derived.Deep.DeepCutAuto
import Derived.Deep.CutBlock
import Derived.Test.YtpcihajmcejliabGreatDoorLexRefN
import Derived.Test.YtpcihajmcejliabGreatDoorLexAgainMath
namespace Go.Proofs.YtpcihajmcejliabGreatDoor
open Go.RowKit
namespace rlex
set_option maxRecDepth 100000 in
set_option maxHeartbeats 1000000 in
theorem scan_long (s : ByteArray) (w : World) (h : 3000 < s.size) (hs : s.size ≤ 9223372036854775807) :
  Calls Tryz.prog 87 #[.string s] w fun e w' => e = .returned (.tuple #[.slice none 0 0, .agg #[.int .i64 1, .int .i64 0]]) ∧ Ext w w' := by
 go_enter Tryz.func87, Tryz.ntmps87
 go_wp2_with fail
 exact bodyPost_ret (results_2cell rfl _ _ rfl (Blk.made w _ _) Tryz.underlying68 rfl (by kernel_rfl)) rfl ⟨rfl, (Chg.refl _ w).alloc _⟩
def RoundAt (s : ByteArray) (R : Nat) (w : World) (T : List Tok × Int × Nat) (v : Value) (wr : World) (k f : Nat) (acc : List Tok) : Prop :=
 k ≤ s.size ∧ s.size < f + k ∧ Blk wr R #[.int .i64 0, .int .i64 0] 68 ∧ wr.ownsRow (R + 1) 163 3 v acc.length (tokCells s acc) ∧ acc.length ≤ k ∧ Ext w wr ∧ R + 1 ≤ wr.heap.size ∧ scanTok f s.data.toList (k + skipB false (s.data.toList.drop k)) acc = T
set_option maxRecDepth 100000 in
set_option maxHeartbeats 4000000 in
theorem scan_any (s : ByteArray) (w : World) (h : s.size ≤ 3000) (T : List Tok × Int × Nat) (hT : Hid (scanF s.data.toList = T)) :
  Calls Tryz.prog 87 #[.string s] w fun e w' => ∃ v, e = .returned (.tuple #[v, .agg #[.int .i64 T.2.1, .int .i64 T.2.2]]) ∧ w'.ownsRow (w.heap.size + 1) 163 3 v T.1.length (tokCells s T.1) ∧ Ext w w' := by
 have hlen : s.data.toList.length = s.size := by rw [Array.length_toList]; rfl
 go_enter Tryz.func87, Tryz.ntmps87
 go_wp2_with fail
 have hstart : RoundAt s w.heap.size w T (.slice none 0 0) (w.alloc (.cells #[.int .i64 0, .int .i64 0] 68)) 0 (s.data.toList.length + 1) [] := by
  refine ⟨Nat.zero_le _, by omega, Blk.made _ _ _, World.ownsRow_nil _ _ _ _, Nat.le_refl _, (Chg.refl _ w).alloc _, by simp, ?_⟩
  have := hT.out; rw [scanF, if_neg (by omega)] at this; rw [List.drop_zero, Nat.zero_add]; exact this
 clear hT; generalize w.alloc (.cells #[.int .i64 0, .int .i64 0] 68) = w1 at *; generalize hQ : w.heap.size = R at *; have HQ := Z_ hQ; clear hQ; go_loopw [4, 5] (fun v i wr => ∃ (k f : Nat) (acc : List Tok), i = .int .i64 k ∧ RoundAt s R w T v wr k f acc) (fun _ i _ => s.size - (intOf i).toNat)
 case atStart => exact ⟨0, _, [], rfl, hstart⟩
 case round =>
  obtain ⟨k, f, acc, rfl, hk, hf, hR, hown, hacc, hE, hg0, hrel⟩ := hrel; have Hrel := Z_ hrel; clear hrel hstart; obtain ⟨wo, rfl⟩ : ∃ wo : World, wo = wr := ⟨_, rfl⟩; by_cases hlt : k < s.size
  ·have hki : (k : Int) < (s.size : Int) := by omega
   have hdc := lex.drop_cons s k hlt; by_cases hbl : s[k] = 32 ∨ s[k] = 10
   ·have hrel := Hrel.out
    rw [hdc, skipB, if_pos hbl] at hrel; have Hrel2 := Z_ hrel; clear hrel hdc; by_cases h32 : s[k] = 32
    ·have hb : ((s[k].toNat : Int) == 32) = true := by rw [h32]; rfl
     clear hbl h32; go_wp2_with fail
     go_roundw
     case rel => exact ⟨k + 1, f, acc, by go_num, by omega, by omega, hR, hown, by omega, hE, hg0, by rw [← Hrel2.out]; congr 1; omega⟩
     case measure => simp [intOf]; omega
    ·have h10 := hbl.resolve_left h32
     have hb1 : ((s[k].toNat : Int) == 32) = false := by rw [beq_eq_false_iff_ne]; exact fun h => h32 ((u8_int _ 32).1 h)
     have hb : ((s[k].toNat : Int) == 10) = true := by rw [h10]; rfl
     clear hbl h32 h10; go_wp2_with fail
     go_roundw
     case rel => exact ⟨k + 1, f, acc, by go_num, by omega, by omega, hR, hown, by omega, hE, hg0, by rw [← Hrel2.out]; congr 1; omega⟩
     case measure => simp [intOf]; omega
   ·have hb1 : ((s[k].toNat : Int) == 32) = false := by rw [beq_eq_false_iff_ne]; exact fun h => hbl (.inl ((u8_int _ 32).1 h))
    have hb2 : ((s[k].toNat : Int) == 10) = false := by rw [beq_eq_false_iff_ne]; exact fun h => hbl (.inr ((u8_int _ 10).1 h))
    by_cases hha : s[k] = 35
    ·have hb3 : ((s[k].toNat : Int) == 35) = true := by rw [hha]; rfl
     have hrel := Hrel.out; rw [hdc, hha, skip_hash, ← hha, ← hdc, skip_remark, List.drop_drop] at hrel; have Hrel2 := Z_ hrel; have hroom := lex.runN_room otherB s k (by omega); have hpos : runN otherB (s.data.toList.drop k) = 1 + runN otherB (s.data.toList.drop (k + 1)) := runN_step otherB s k hlt (by rw [hha]; rfl); clear hrel hdc hha hbl; obtain ⟨E, hE0⟩ : ∃ E, k + runN otherB (s.data.toList.drop k) = E := ⟨_, rfl⟩; have hEk : k < E := by omega
     have HE0 := Z_ hE0; rw [hE0] at hroom; clear hpos hE0; go_wp2_with fail
     go_loop [5] (fun i => ∃ j : Nat, i = .int .i64 j ∧ k ≤ j ∧ j ≤ s.size ∧ Hid (j + runN otherB (s.data.toList.drop j) = E)) (fun i => s.size - (intOf i).toNat)
     case atStart => exact ⟨k, rfl, by omega, by omega, HE0.out⟩
     case round =>
      obtain ⟨j, rfl, hj0, hj, hjr⟩ := hrel; by_cases hjl : j < s.size
      ·have hji : (j : Int) < (s.size : Int) := by omega
       cases ho : otherB s[j].toNat
       ·have hb : ((s[j].toNat : Int) != 10) = false := by simpa [otherB] using ho
        have := runN_stop otherB s j hjl ho; have e : j = E := by have h2 := hjr.out; omega
        clear this ho; subst e; go_wp2_with fail
        go_roundw
        case rel =>
         refine ⟨j, f, acc, rfl, by omega, by omega, hR, hown, by omega, hE, hg0, ?_⟩
         have := Hrel2.out; rw [← Nat.add_assoc, HE0.out] at this; exact this
        case measure => simp [intOf]; omega
       ·have hb : ((s[j].toNat : Int) != 10) = true := by simpa [otherB] using ho
        have := runN_step otherB s j hjl ho; have e : j + 1 + runN otherB (s.data.toList.drop (j + 1)) = E := by have h2 := hjr.out; omega
        have HE := Z_ e; clear this ho e; go_wp2_with fail
        go_round
        case rel => exact ⟨j + 1, by go_num, by omega, by omega, HE.out⟩
        case measure => simp [intOf]; omega
      ·obtain rfl : j = s.size := by omega
       have := runN_end otherB s s.size (Nat.le_refl _); have e : s.size = E := by have h2 := hjr.out; omega
       have HEE := Z_ e; clear this e; go_wp2_with fail
       go_roundw
       case rel =>
        refine ⟨s.size, f, acc, rfl, by omega, by omega, hR, hown, by omega, hE, hg0, ?_⟩
        have := Hrel2.out; rw [← Nat.add_assoc, HE0.out, ← HEE.out] at this; exact this
       case measure => simp [intOf]; omega
    ·have hb3 : ((s[k].toNat : Int) == 35) = false := by rw [beq_eq_false_iff_ne]; exact fun h => hha ((u8_int _ 35).1 h)
     have hstop : skipB false (s.data.toList.drop k) = 0 := by rw [hdc]; exact skip_stop _ _ hbl hha
     have hrel := Hrel.out; obtain ⟨f, rfl⟩ : ∃ f', f = f' + 1 := ⟨f - 1, by omega⟩; rw [hstop, Nat.add_zero, scanTok, if_pos (by omega)] at hrel; have Hrel2 := Z_ hrel; have hroom := lex.runN_room partB s k (by omega); obtain ⟨N, hN0⟩ : ∃ N, runN partB (s.data.toList.drop k) = N := ⟨_, rfl⟩; have HN0 := Z_ hN0; rw [hN0] at hroom; have HDC := Z_ hdc; clear hrel hdc hha hbl hstop hN0 Hrel; go_upto_block 4 with (fail)
     clear hb1 hb2 hb3; go_cut [6] (fun i w' => i = .int .i64 N ∧ w' = wo)
     case first =>
      go_wp2_with fail
      go_loop [6] (fun i => ∃ j : Nat, i = .int .i64 j ∧ k + j ≤ s.size ∧ Hid (j + runN partB (s.data.toList.drop (k + j)) = N)) (fun i => s.size - (intOf i).toNat)
      case atStart => exact ⟨0, rfl, by omega, by have := HN0.out; unfold Hid; simpa using this⟩
      case round =>
       obtain ⟨j, rfl, hj, hjr⟩ := hrel; by_cases hjl : k + j < s.size
       ·have hji : (k : Int) + (j : Int) < (s.size : Int) := by omega
        cases ho : partB s[k + j].toNat
        ·have := runN_stop partB s (k + j) hjl ho
         have e : j = N := by have h2 := hjr.out; omega
         have CC := Z_ (inside_any s[k + j].toNat); rw [ho] at CC; clear this ho; subst e; go_wp2_with (go_at_call 153; refine (CC.out _).mono ?_; rintro e w' ⟨rfl, rfl⟩)
         go_meet
         exact ⟨rfl, rfl⟩
        ·have := runN_step partB s (k + j) hjl ho
         have e : j + 1 + runN partB (s.data.toList.drop (k + (j + 1))) = N := by have h2 := hjr.out; rw [Nat.add_assoc] at this; omega
         have HE := Z_ e; have CC := Z_ (inside_any s[k + j].toNat); rw [ho] at CC; clear this ho e; go_wp2_with (go_at_call 153; refine (CC.out _).mono ?_; rintro e w' ⟨rfl, rfl⟩)
         go_round
         case rel => exact ⟨j + 1, by go_num, by omega, HE.out⟩
         case measure => simp [intOf]; omega
       ·have := runN_end partB s (k + j) (by omega)
        have e : j = N := by have h2 := hjr.out; omega
        have hji : (s.size : Int) ≤ (k : Int) + (j : Int) := by omega
        clear this; subst e; go_wp2_with fail
        go_meet
        exact ⟨rfl, rfl⟩
     case rest =>
      obtain ⟨rfl, rfl⟩ := hcut; have HL := Z_ (letter_any s[k].toNat); have HD := Z_ (digit_any s[k].toNat); have hpos := tok_pos (s.data.toList.drop k); have hq1 : (k : Int) ≤ (k : Int) + (N : Int) := by omega
      have hq2 : (k : Int) + (N : Int) ≤ (s.size : Int) := by omega
      have hr0 := hR.cell 0; have hr1 := hR.cell 1; simp only [List.getElem?_toArray, List.getElem?_cons_zero, List.getElem?_cons_succ] at hr0 hr1; have hrf := hR.frozen; have hRlt := hR.lt; have hRne := Nat.ne_of_lt hR.lt; have hRne2 := Ne.symm hRne; cases hl : letterB s[k].toNat
      ·have CL := HL.out
       rw [hl] at CL; have CL := Z_ CL; cases hd : digitB s[k].toNat
       ·have CD := HD.out
        rw [hd] at CD; have CD := Z_ CD
        have hT : tokF (s.data.toList.drop k) = (3, signN (s.data.toList.drop k), if signN (s.data.toList.drop k) = 0 then 2 else 0) := by
         rw [HDC.out]; simp only [tokF, hl, hd, Bool.false_eq_true, if_false]
        have hrel := Hrel2.out; simp only [Nat.add_zero, hT] at hrel; have hMle := signN_le (s.data.toList.drop k); rw [List.length_drop] at hMle; obtain ⟨M, hM0⟩ : ∃ M, signN (s.data.toList.drop k) = M := ⟨_, rfl⟩; have CS := Z_ (fun w => sign_any s k w (by omega) (by omega) M hM0); have hlt' : ∀ k', u4.ownBlock = some k' → k' ≠ wc.heap.size := fun k' h => by have := (hown.lt k' h).2; omega
        have HLT := Z_ hlt'; rw [hM0] at hrel hMle; clear hT hl hd hM0 hpos hq1 hq2 hlt'; by_cases he : M = 0
        ·rw [if_pos he, if_neg (by decide)] at hrel
         subst he; have HR := Z_ hrel; clear hrel; go_wp2_with (first | (go_at_call 154; refine (CL.out _).mono ?_; rintro e w' ⟨rfl, rfl⟩) | (go_at_call 155; refine (CD.out _).mono ?_; rintro e w' ⟨rfl, rfl⟩) | (go_at_call 157; refine (CS.out _).mono ?_; rintro e w2 ⟨t, rfl, ht, hE2⟩; have hK2 := (Blk.made wc _ _).ext hE2; have hKc := hK2.cell; have hKf := hK2.frozen; have hR2 := (hR.alloc _).ext hE2; have hRc := hR2.cell; have hRf := hR2.frozen; have hown2 := ownsRow_ext (hown.alloc _) hE2; have hEE := (hE.alloc _).ext hE2; have hs2 := hK2.lt; clear hE2))
         refine bodyPost_ret (results_2cell rfl _ _ rfl ((hR2.set 0 _).set 1 _) Tryz.underlying68 rfl (by kernel_rfl)) rfl ?_
         rw [← HR.out]; exact ⟨_, rfl, World.ownsRow_nil _ _ _ _, (hEE.setNew (Nat.le_of_eq HQ.out) _).setNew (Nat.le_of_eq HQ.out) _⟩
        ·rw [if_neg he, if_pos rfl] at hrel
         have HR := Z_ hrel; have hb : ((M : Int) == 0) = false := by rw [beq_eq_false_iff_ne]; omega
         have hq1 : (k : Int) ≤ (k : Int) + (M : Int) := by omega
         have hq2 : (k : Int) + (M : Int) ≤ (s.size : Int) := by omega
         clear hrel; go_wp2_with (first | (go_at_call 154; refine (CL.out _).mono ?_; rintro e w' ⟨rfl, rfl⟩) | (go_at_call 155; refine (CD.out _).mono ?_; rintro e w' ⟨rfl, rfl⟩) | (go_at_call 157; refine (CS.out _).mono ?_; rintro e w2 ⟨t, rfl, ht, hE2⟩; have hK2 := (Blk.made wc _ _).ext hE2; have hKc := hK2.cell; have hKf := hK2.frozen; have hR2 := (hR.alloc _).ext hE2; have hRc := hR2.cell; have hRf := hR2.frozen; have hown2 := ownsRow_ext (hown.alloc _) hE2; have hEE := (hE.alloc _).ext hE2; have hs2 := hK2.lt; clear hE2) | (at_builtin; refine wpList_append_blk rfl (.tmp 101) (.tmp 103) 147 rfl (R + 1) 163 (.agg #[.int .i64 0, .string ⟨#[]⟩, .int .i64 0]) 3 32 Tryz.underlying147 (by kernel_rfl) rfl (by omega) _ acc.length (tokCells s acc) rfl ((ownsRow_set hown2 HLT.out _).alloc _) _ 1 1 163 [.int .i64 3, .string (s.extract k (k + M)), .int .i64 k] rfl (Blk.madeSet _ _ _ _ _) rfl ?c1 ?c2 ?c3 ?c4 ?_))
         case c1 => intro u hu; simp at hu; rcases hu with rfl | rfl | rfl <;> rfl
         case c2 => unfold maxLen; omega
         case c3 => omega
         case c4 => simp; omega
         intro v' w3 hown3 hC3 _; have hR3 : Blk w3 R #[.int .i64 0, .int .i64 0] 68 := ((hR2.setOther hRne _).alloc _).chg hC3 (by omega); have hE3 : Ext w w3 := ((hEE.setNew (by have := HQ.out; have := hR.lt; show _ ≤ wc.heap.size; omega) _).alloc _).trans hC3 (fun i hi h => by have := HQ.out; omega); have hg3 : R + 1 ≤ w3.heap.size := by have := hR3.lt; omega
         clear hC3; go_wp2_with fail
         go_roundw
         case rel =>
          refine ⟨k + M, f, acc ++ [(3, k, M)], by go_num, by omega, by omega, hR3, ?_, by simp; omega, hE3, hg3, HR.out⟩
          rw [tokCells_snoc, List.length_append]; exact hown3
         case measure => simp [intOf]; omega

       ·have CD := HD.out
        rw [hd] at CD; have CD := Z_ CD
        have hT : tokF (s.data.toList.drop k) = (2, N, numeralF ((s.data.toList.drop k).take N)) := by
         rw [HDC.out]; simp only [tokF, hl, hd, Bool.false_eq_true, if_false, if_true]; rw [← HDC.out, HN0.out]
        have hNpos : 0 < N := by
         rw [← HN0.out, runN_step partB s k hlt (by unfold partB; rw [hd]; simp)]; omega
        have hrel := Hrel2.out; simp only [Nat.add_zero, hT] at hrel; obtain ⟨e, he0⟩ : ∃ e, numeralF ((s.data.toList.drop k).take N) = e := ⟨_, rfl⟩; have CN := Z_ (fun w => numeral_any (s.extract k (k + N)) w (by simp; omega) (by simp; omega) e (by unfold Hid; rw [lex.extract_list]; exact he0)); rw [he0] at hrel; clear hT hl hd he0 hpos; by_cases he : e = 0
        ·subst he
         rw [if_pos rfl] at hrel; have HR := Z_ hrel; clear hrel; go_wp2_with (first | (go_at_call 154; refine (CL.out _).mono ?_; rintro e w' ⟨rfl, rfl⟩) | (go_at_call 155; refine (CD.out _).mono ?_; rintro e w' ⟨rfl, rfl⟩) | (go_at_call 156; refine (CN.out _).mono ?_; rintro e w' ⟨rfl, rfl⟩) | (at_builtin; refine wpList_append_blk rfl (.tmp 101) (.tmp 103) 147 rfl (R + 1) 163 (.agg #[.int .i64 0, .string ⟨#[]⟩, .int .i64 0]) 3 32 Tryz.underlying147 (by kernel_rfl) rfl (by omega) _ acc.length (tokCells s acc) rfl (hown.alloc _ |>.alloc _) _ 1 1 163 [.int .i64 2, .string (s.extract k (k + N)), .int .i64 k] rfl (Blk.made2 _ _ _ _) rfl ?c1 ?c2 ?c3 ?c4 ?_))
         case c1 => intro u hu; simp at hu; rcases hu with rfl | rfl | rfl <;> rfl
         case c2 => unfold maxLen; omega
         case c3 => omega
         case c4 => simp; omega
         intro v' w3 hown3 hC3 _; have hR3 : Blk w3 R #[.int .i64 0, .int .i64 0] 68 := ((hR.alloc _).alloc _).chg hC3 (by omega); have hE3 : Ext w w3 := ((hE.alloc _).alloc _).trans hC3 (fun i hi h => by have := HQ.out; omega); have hg3 : R + 1 ≤ w3.heap.size := by have := hR3.lt; omega
         clear hC3; go_wp2_with fail
         go_roundw
         case rel =>
          refine ⟨k + N, f, acc ++ [(2, k, N)], by go_num, by omega, by omega, hR3, ?_, by simp; omega, hE3, hg3, HR.out⟩
          rw [tokCells_snoc, List.length_append]; exact hown3
         case measure => simp [intOf]; omega
        ·rw [if_neg he] at hrel
         have HR := Z_ hrel; have hne : (e != 0) = true := by rw [bne_iff_ne]; exact he
         clear hrel he; go_wp2_with (first | (go_at_call 154; refine (CL.out _).mono ?_; rintro e w' ⟨rfl, rfl⟩) | (go_at_call 155; refine (CD.out _).mono ?_; rintro e w' ⟨rfl, rfl⟩) | (go_at_call 156; refine (CN.out _).mono ?_; rintro e w' ⟨rfl, rfl⟩))
         refine bodyPost_ret (results_2cell rfl _ _ rfl (((hR.set 0 _).set 1 _).alloc _) Tryz.underlying68 rfl (by kernel_rfl)) rfl ?_
         rw [← HR.out]; exact ⟨_, rfl, World.ownsRow_nil _ _ _ _, ((hE.setNew (Nat.le_of_eq HQ.out) _).setNew (Nat.le_of_eq HQ.out) _).alloc _⟩

      ·have CL := HL.out
       rw [hl] at CL; have CL := Z_ CL
       have hT : tokF (s.data.toList.drop k) = (1, N, if 16 < N then 1 else 0) := by
        rw [HDC.out]; simp only [tokF, hl, if_true]; rw [← HDC.out, HN0.out]
       have hrel := Hrel2.out; simp only [Nat.add_zero, hT] at hrel; rw [hT] at hpos; by_cases h16 : 16 < N
       ·simp only [if_pos h16] at hrel
        rw [if_neg (by decide)] at hrel; have HR := Z_ hrel; clear hrel hpos hT hl; go_wp2_with (go_at_call 154; refine (CL.out _).mono ?_; rintro e w' ⟨rfl, rfl⟩)

        refine bodyPost_ret (results_2cell rfl _ _ rfl (((hR.set 0 _).set 1 _).alloc _) Tryz.underlying68 rfl (by kernel_rfl)) rfl ?_
        rw [← HR.out]; exact ⟨_, rfl, World.ownsRow_nil _ _ _ _, ((hE.setNew (Nat.le_of_eq HQ.out) _).setNew (Nat.le_of_eq HQ.out) _).alloc _⟩
       ·simp only [if_neg h16, if_true] at hrel hpos
        have hN1 : 1 ≤ N := hpos trivial; have HR := Z_ hrel; clear hrel hpos hT hl; go_wp2_with (first | (go_at_call 154; refine (CL.out _).mono ?_; rintro e w' ⟨rfl, rfl⟩) | (at_builtin; refine wpList_append_blk rfl (.tmp 101) (.tmp 103) 147 rfl (R + 1) 163 (.agg #[.int .i64 0, .string ⟨#[]⟩, .int .i64 0]) 3 32 Tryz.underlying147 (by kernel_rfl) rfl (by omega) _ acc.length (tokCells s acc) rfl (hown.alloc _ |>.alloc _) _ 1 1 163 [.int .i64 1, .string (s.extract k (k + N)), .int .i64 k] rfl (Blk.made2 _ _ _ _) rfl ?c1 ?c2 ?c3 ?c4 ?_))
        case c1 => intro u hu; simp at hu; rcases hu with rfl | rfl | rfl <;> rfl
        case c2 => unfold maxLen; omega
        case c3 => omega
        case c4 => simp; omega
        intro v' w3 hown3 hC3 _; have hR3 : Blk w3 R #[.int .i64 0, .int .i64 0] 68 := ((hR.alloc _).alloc _).chg hC3 (by omega); have hE3 : Ext w w3 := ((hE.alloc _).alloc _).trans hC3 (fun i hi h => by have := HQ.out; omega); have hg3 : R + 1 ≤ w3.heap.size := by have := hR3.lt; omega
        clear hC3; go_wp2_with fail
        go_roundw
        case rel =>
         refine ⟨k + N, f, acc ++ [(1, k, N)], by go_num, by omega, by omega, hR3, ?_, by simp; omega, hE3, hg3, HR.out⟩
         rw [tokCells_snoc, List.length_append]; exact hown3
        case measure => simp [intOf]; omega
  ·obtain rfl : k = s.size := by omega
   have hrel := Hrel.out; have hd0 : s.data.toList.drop s.size = [] := List.drop_eq_nil_of_le (by omega); obtain ⟨f, rfl⟩ : ∃ f', f = f' + 1 := ⟨f - 1, by omega⟩; rw [hd0, skipB, scanTok, if_neg (by omega)] at hrel; have HR := Z_ hrel; clear hrel hd0; have hr0 : wo.cell? ⟨R, 0, none⟩ = some (.int .i64 0) := hR.cell 0; have hr1 : wo.cell? ⟨R, 1, none⟩ = some (.int .i64 0) := hR.cell 1; have hrf := hR.frozen; go_wp2_with fail
   refine bodyPost_ret (results_2cell rfl _ _ rfl ((hR.set 0 _).set 1 _) Tryz.underlying68 rfl (by kernel_rfl)) rfl ?_
   rw [← HR.out]; refine ⟨_, rfl, ?_, (hE.setNew (Nat.le_of_eq HQ.out) _).setNew (Nat.le_of_eq HQ.out) _⟩
   rw [HQ.out]; exact ownsRow_chg hown (((Chg.refl (fun i => i = R) _).setCell (fun _ => rfl) _).setCell (fun _ => rfl) _) (fun i hi e => by omega)
end rlex
end Go.Proofs.YtpcihajmcejliabGreatDoor
namespace Go.Proofs.YtpcihajmcejliabGreatDoor
open Go.RowKit
namespace lexTells
theorem rscan_all (s : ByteArray) (w : World) (hs : s.size ≤ 9223372036854775807) (T : List Tok × Int × Nat) (hT : Hid (scanF s.data.toList = T)) :
  Calls Tryz.prog 87 #[.string s] w fun e w' => ∃ v, e = .returned (.tuple #[v, .agg #[.int .i64 T.2.1, .int .i64 T.2.2]]) ∧ w'.ownsRow (w.heap.size + 1) 163 3 v T.1.length (tokCells s T.1) ∧ Ext w w' := by
 by_cases h : s.size ≤ 3000
 ·exact rlex.scan_any s w h T hT
 ·have hlen : s.data.toList.length = s.size := by rw [Array.length_toList]; rfl
  have := hT.out; rw [scanF, if_pos (by omega)] at this; subst this; refine (rlex.scan_long s w (by omega) hs).mono ?_
  rintro e w' ⟨rfl, hE⟩; exact ⟨_, rfl, World.ownsRow_nil _ _ _ _, hE⟩
end lexTells
end Go.Proofs.YtpcihajmcejliabGreatDoor
