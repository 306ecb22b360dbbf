/- The reference's reader: a number; and what a sign is. -/
import Derived.Test.YtpcihajmcejliabGreatDoorSynR2
import Derived.Deep.DeepCutAuto
import Derived.Deep.CutBlock
namespace Go.Proofs.YtpcihajmcejliabGreatDoor
open Go.RowKit
namespace synr
open synw
/-- the digits up to the k-th -/
def decTo (s : ByteArray) (k : Nat) : Nat := decFrom 0 (s.data.toList.take k)
theorem decTo_step (s : ByteArray) (k : Nat) (h : k < s.size) : decTo s (k + 1) = decTo s k * 10 + (s[k].toNat - 48) := by
  unfold decTo decFrom
  have h2 : k < s.data.toList.length := by simpa using h
  rw [List.take_succ_eq_append_getElem h2, List.foldl_append, List.foldl_cons, List.foldl_nil, dstep_eq]
  rfl
theorem decTo_le (s : ByteArray) (k : Nat) : decTo s k ≤ decFrom 0 s.data.toList := by
  have h := decFrom_ge (s.data.toList.drop k) (decTo s k)
  have e : decFrom (decTo s k) (s.data.toList.drop k) = decFrom 0 s.data.toList := by
    unfold decTo decFrom
    rw [← List.foldl_append, List.take_append_drop]
  rw [e] at h
  exact h
theorem decTo_all (s : ByteArray) : decTo s s.size = decFrom 0 s.data.toList := by
  unfold decTo
  rw [List.take_of_length_le (by simp)]
theorem digit_at (s : ByteArray) (k : Nat) (h : k < s.size) (hd : digs s.data.toList = true) : 48 ≤ s[k].toNat ∧ s[k].toNat ≤ 57 := by
  have h2 : s[k] ∈ s.data.toList := List.getElem_mem (l := s.data.toList) (n := k) (by simpa using h)
  have := List.all_eq_true.1 hd _ h2
  exact (digitB_iff _).1 this
theorem u8_small (x : Nat) (h : x < 256) : IntKind.u8.wrap (x : Int) = x := by unfold IntKind.wrap; simp only [IntKind.bits, IntKind.signed]; simp; omega
set_option maxRecDepth 100000 in
set_option maxHeartbeats 4000000 in
theorem number_any {W w : World} {S : Nat} {l : List Tk} (h : RdrAt W w S l false) :
    Calls Tryz.prog 161 #[.pointer (some ⟨S, 0, none⟩)] w (Rst (VN w.heap.size) W w S (pNumber l)) := by
  have HAT : Hid (RAt W w ((w.alloc (.cells #[.int .i64 0, .string ⟨#[]⟩, .int .i64 0, .slice none 0 0] 66)).alloc (.cells #[.int .i64 15, .string ⟨#[]⟩, .int .i64 0, .slice none 0 0] 66)) S w.heap.size l false) := Lib.hid ((RAt.start h).alloc _)
  have HN := Lib.hid (Blk.made2 w (.cells #[.int .i64 0, .string ⟨#[]⟩, .int .i64 0, .slice none 0 0] 66) #[.int .i64 15, .string ⟨#[]⟩, .int .i64 0, .slice none 0 0] 66)
  obtain ⟨A, hA⟩ : ∃ A, w.heap.size = A := ⟨_, rfl⟩
  rw [hA] at HAT HN
  have hSA : S < A := by have := h.lt; omega
  have hSN : S ≠ A + 1 := by omega
  have hAN : A ≠ A + 1 := by omega
  cases l with
  | nil =>
    clear h
    go_enter Tryz.func161, Tryz.ntmps161
    go_upto_region 2 with (fail)
    generalize (w.alloc (.cells #[.int .i64 0, .string ⟨#[]⟩, .int .i64 0, .slice none 0 0] 66)).alloc (.cells #[.int .i64 15, .string ⟨#[]⟩, .int .i64 0, .slice none 0 0] 66) = u0 at *
    obtain ⟨ra, rn, rc, rk, hbk, hk1, hk2, hk3⟩ := HAT.out.pr.ex
    have c0 := hbk.cell 0
    have c1 := hbk.cell 1
    have c2 := hbk.cell 2
    simp at c0 c1 c2
    simp only [List.length_nil, Nat.add_zero] at hk1
    subst hk1
    have hge : ((rk : Int) ≥ (rk : Int)) := Int.le_refl _
    have hge2 : decide (rk ≤ rk) = true := by simp
    clear hk3 hbk
    go_wp2_with fail
    go_quiet (fail)
    replace HAT := Lib.hid (HAT.out.extend ((Chg.refl _ _).drewN nq))
    replace HN := Lib.hid (show Blk (u0.drewN nq) (A + 1) _ _ from HN.out)
    clear c0 c1 c2
    generalize u0.drewN nq = u1 at *
    obtain ⟨a', n', c', k', hB, -, -⟩ := rdr_blk HAT.out.pr
    have hf := hB.frozen 2
    have hc := hB.cell 2
    have hSl := hB.lt
    simp at hc
    have HAT2 := Lib.hid (HAT.out.call (chg_set (S := S) (Chg.refl _ _) 2 (.bool true)) (rdr_fail HAT.out.pr))
    have HN2 := Lib.hid (HN.out.setOther (p := ⟨S, 2, none⟩) (fun e => hSN e.symm) (.bool true))
    clear hB HN HAT
    go_upto_region 4 with (fail)
    generalize u1.setCell ⟨S, 2, none⟩ (.bool true) = w5 at *
    have n0 := HN2.out.cell
    have r0 := HAT2.out.res.cell
    have rf := HAT2.out.res.frozen
    have rl := HAT2.out.res.lt
    unfold zeroNd at r0
    go_wp2_with fail
    refine ends_at rfl rfl rfl ((((HAT2.out.res.set 0 _).set 1 _).set 2 _).set 3 _) Tryz.underlying66 rfl (by kernel_rfl) ?_
    exact ret_value HAT2.out (below (A + 1)) (ndAt_leaf _ _ _ _ (by decide)) (below_yes (by omega)) (fun i hi => below_yes (by omega)) rfl
  | cons t r =>
    have ho := rdr_ok h
    clear h
    go_enter Tryz.func161, Tryz.ntmps161
    go_upto_region 2 with (fail)
    generalize (w.alloc (.cells #[.int .i64 0, .string ⟨#[]⟩, .int .i64 0, .slice none 0 0] 66)).alloc (.cells #[.int .i64 15, .string ⟨#[]⟩, .int .i64 0, .slice none 0 0] 66) = u0 at *
    obtain ⟨ra, rn, rc, rk, hbk, hk1, hk2, hk3⟩ := HAT.out.pr.ex
    have c0 := hbk.cell 0
    have c1 := hbk.cell 1
    have c2 := hbk.cell 2
    simp at c0 c1 c2
    obtain ⟨tq, tp, rfl, hbb, ht⟩ := hk3 0 (by simp)
    obtain ⟨t0, t1, t2, -⟩ := ht
    have e : ∀ i, u0.cell? ⟨tq, i, none⟩ = W.cell? ⟨tq, i, none⟩ := fun i => HAT.out.pr.ext.cell (by exact hbb) id
    have hbW := Nat.lt_of_lt_of_le hbb HAT.out.pr.ext.size
    rw [← e] at t0 t1 t2
    simp only [Nat.add_zero, List.getElem_cons_zero] at t0 t1 t2
    have hkn : (rk : Int) < (rn : Int) := by simp at hk1; omega
    have hkn2 : ¬ ((rn : Int) ≤ (rk : Int)) := by omega
    have hkn3 : decide (rn ≤ rk) = false := by simp; omega
    obtain ⟨tk, tt, ta⟩ := t
    simp only at t0 t1 t2
    clear hk3 hbk e hk1 hbb
    by_cases hk : tk = 2
    · subst hk
      obtain ⟨hd1, hd2, hd3⟩ := ho.num rfl
      have hsz := ho.size
      simp only at hd1 hd2 hd3 hsz
      have HD := Lib.hid hd1
      have HD3 := Lib.hid hd3
      clear hd1 hd2 hd3 ho t2
      go_wp2_with fail
      go_quiet (fail)
      have t1' : (u0.drewN nq).cell? ⟨tq, tp + rk * 3 + 1, none⟩ = _ := t1
      have c0' : (u0.drewN nq).cell? ⟨S, 0, none⟩ = _ := c0
      have c1' : (u0.drewN nq).cell? ⟨S, 1, none⟩ = _ := c1
      replace HAT := Lib.hid (HAT.out.extend ((Chg.refl _ _).drewN nq))
      replace HN := Lib.hid (show Blk (u0.drewN nq) (A + 1) _ _ from HN.out)
      have hbq : tq < (u0.drewN nq).heap.size := hbW
      clear c0 c1 c2 t0 t1
      generalize u0.drewN nq = u1 at *
      go_wp2_with fail
      go_quiet (fail)
      replace HAT := Lib.hid (HAT.out.extend ((Chg.refl _ _).drewN nq))
      replace HN := Lib.hid (show Blk (u1.drewN nq) (A + 1) _ _ from HN.out)
      clear c0' c1' t1'
      generalize u1.drewN nq = u2 at *
      go_wp2_with fail
      go_loopw [5] (fun i wr => ∃ k : Nat, k ≤ tt.size ∧ i = .int .i64 k ∧ Hid (Blk wr (A + 1) #[.int .i64 15, .string ⟨#[]⟩, .int .i64 (decTo tt k : Nat), .slice none 0 0] 66) ∧ Hid (RAt W w wr S A (⟨2, tt, ta⟩ :: r) false)) (fun i _ => tt.size - (intOf i).toNat)
      case atStart => exact ⟨0, Nat.zero_le _, rfl, HN, HAT⟩
      clear HN HAT
      case round =>
        obtain ⟨k, hk, rfl, HN, HAT⟩ := hrel
        by_cases hlt : k < tt.size
        · have hd : decide ((k : Int) < (tt.size : Int)) = true := by simp; omega
          have hdg := digit_at tt k hlt HD.out
          have hstep := decTo_step tt k hlt
          have hle := decTo_le tt (k + 1)
          have hd3 := HD3.out
          obtain ⟨d, hdd⟩ : ∃ d : Nat, tt[k].toNat = d := ⟨_, rfl⟩
          rw [hdd] at hdg hstep
          have w1 : IntKind.u8.wrap ((d : Int) - 48) = ((d - 48 : Nat) : Int) := by rw [show (d : Int) - 48 = ((d - 48 : Nat) : Int) by omega]; exact u8_small _ (by omega)
          have w2 : IntKind.i64.wrap ((d - 48 : Nat) : Int) = ((d - 48 : Nat) : Int) := wrap_small _ (by omega) (by omega)
          have w3 : IntKind.i64.wrap (10 * (decTo tt k : Nat)) = 10 * ((decTo tt k : Nat) : Int) := wrap_small _ (by omega) (by omega)
          have w4 : IntKind.i64.wrap (10 * ((decTo tt k : Nat) : Int) + ((d - 48 : Nat) : Int)) = ((decTo tt (k + 1) : Nat) : Int) := by rw [wrap_small _ (by omega) (by omega)]; omega
          have n2 := HN.out.cell 2
          have nf := HN.out.frozen 2
          have nl := HN.out.lt
          simp at n2
          have HN2 := Lib.hid (HN.out.drew.set 2 (.int .i64 (decTo tt (k + 1) : Nat)))
          have HAT2 := Lib.hid ((HAT.out.extend (Chg.refl _ _).drew).far (chg_set (S := A + 1) (Chg.refl _ _) 2 (.int .i64 (decTo tt (k + 1) : Nat))) (fun i e => by omega))
          clear HN HAT hstep hle hd3 hdg
          obtain ⟨V, hV⟩ : ∃ V, decTo tt (k + 1) = V := ⟨_, rfl⟩
          rw [hV] at w4 HN2 HAT2
          replace hV := Lib.hid hV
          generalize decTo tt k = v at *
          go_wp2_with fail
          go_still_tail 10, (by kernel_rfl)
          go_wp2_with fail
          go_roundw
          case rel => exact ⟨k + 1, by omega, by go_num, by rw [hV.out]; exact Lib.hid HN2.out, HAT2⟩
          case measure => simp [intOf]; omega
        · obtain rfl : k = tt.size := by omega
          have hd : decide ((tt.size : Int) < (tt.size : Int)) = false := by simp
          have hv : ((decTo tt tt.size : Nat) : Int) = valOf tt := by rw [decTo_all]; rfl
          rw [hv] at HN
          have HT := Lib.hid (show pNumber (⟨2, tt, ta⟩ :: r) = .got (.mk 15 noText (valOf tt) []) r from rfl)
          obtain ⟨V, hV⟩ : ∃ V, valOf tt = V := ⟨_, rfl⟩
          rw [hV] at HN HT
          generalize pNumber (⟨2, tt, ta⟩ :: r) = T at *
          obtain ⟨k, hk, hk2, hP2⟩ := rdr_step HAT.out.pr
          obtain ⟨a', n', c', k', hB, -, -⟩ := rdr_blk HAT.out.pr
          have hf := hB.frozen 1
          have hSl := hB.lt
          have hkw : IntKind.i64.wrap ((k : Int) + 1) = (k : Int) + 1 := wrap_small _ (by omega) (by omega)
          have HAT2 := Lib.hid (HAT.out.call (chg_set (S := S) (Chg.refl _ _) 1 (.int .i64 ((k : Int) + 1))) hP2)
          have HN2 := Lib.hid (HN.out.setOther (p := ⟨S, 1, none⟩) (fun e => hSN e.symm) (.int .i64 ((k : Int) + 1)))
          clear hP2 hB HN HAT hv hV HD HD3 hsz
          go_upto_region 11 with (fail)
          generalize wr.setCell ⟨S, 1, none⟩ (.int .i64 ((k : Int) + 1)) = w5 at *
          have n0 := HN2.out.cell
          have r0 := HAT2.out.res.cell
          have rf := HAT2.out.res.frozen
          have rl := HAT2.out.res.lt
          unfold zeroNd at r0
          go_wp2_with fail
          refine ends_at rfl rfl rfl ((((HAT2.out.res.set 0 _).set 1 _).set 2 _).set 3 _) Tryz.underlying66 rfl (by kernel_rfl) ?_
          exact ret_value HAT2.out (below (A + 1)) (ndAt_leaf _ _ _ _ (by decide)) (below_yes (by omega)) (fun i hi => below_yes (by omega)) HT.out.symm
    · have hk2 : (tk == 2) = false := by simpa using hk
      have HT := Lib.hid (show pNumber (⟨tk, tt, ta⟩ :: r) = .bad (⟨tk, tt, ta⟩ :: r) from if_neg hk)
      generalize pNumber (⟨tk, tt, ta⟩ :: r) = T at *
      clear t1 t2 ho
      go_wp2_with fail
      go_quiet (fail)
      replace HAT := Lib.hid (HAT.out.extend ((Chg.refl _ _).drewN nq))
      replace HN := Lib.hid (show Blk (u0.drewN nq) (A + 1) _ _ from HN.out)
      clear c0 c1 c2 t0
      generalize u0.drewN nq = u1 at *
      obtain ⟨a', n', c', k', hB, -, -⟩ := rdr_blk HAT.out.pr
      have hf := hB.frozen 2
      have hc := hB.cell 2
      have hSl := hB.lt
      simp at hc
      have HAT2 := Lib.hid (HAT.out.call (chg_set (S := S) (Chg.refl _ _) 2 (.bool true)) (rdr_fail HAT.out.pr))
      have HN2 := Lib.hid (HN.out.setOther (p := ⟨S, 2, none⟩) (fun e => hSN e.symm) (.bool true))
      clear hB HN HAT
      go_upto_region 4 with (fail)
      generalize u1.setCell ⟨S, 2, none⟩ (.bool true) = w5 at *
      have n0 := HN2.out.cell
      have r0 := HAT2.out.res.cell
      have rf := HAT2.out.res.frozen
      have rl := HAT2.out.res.lt
      unfold zeroNd at r0
      go_wp2_with fail
      refine ends_at rfl rfl rfl ((((HAT2.out.res.set 0 _).set 1 _).set 2 _).set 3 _) Tryz.underlying66 rfl (by kernel_rfl) ?_
      exact ret_value HAT2.out (below (A + 1)) (ndAt_leaf _ _ _ _ (by decide)) (below_yes (by omega)) (fun i hi => below_yes (by omega)) HT.out.symm
end synr
end Go.Proofs.YtpcihajmcejliabGreatDoor
