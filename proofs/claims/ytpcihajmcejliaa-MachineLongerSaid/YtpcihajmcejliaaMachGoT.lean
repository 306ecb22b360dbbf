/- The walk of the reference's run: it does what runF says. -/
import Derived.Test.YtpcihajmcejliaaMachGo
import Derived.Test.YtpcihajmcejliaaMachRun
import Derived.Test.YtpcihajmcejliaaMachStepM
import Derived.Test.YtpcihajmcejliaaMachRStepAny
import Derived.Deep.CutBlock
import Derived.Deep.DeepCutAuto
import Derived.Deep.RegionHeld3
namespace Go.Proofs.Ytpcihajmcejliaa
open Go.RowKit
open mst
namespace mst
theorem good_start (len lo hi : Nat) : Good len 0 (zeroM lo hi) := by
  refine ⟨⟨Int.le_refl _, by show (0 : Int) ≤ len; omega⟩, fun c hc => (nomatch hc), Nat.zero_le _, Nat.le_refl _, Nat.le_refl _, fun _ => okI0, fun x hx => ?_, fun x hx => ?_⟩
  · rw [List.eq_of_mem_replicate hx]; exact okI0
  · rw [List.eq_of_mem_replicate hx]; exact okI0
theorem RMem.drew {w : World} {B S : Nat} {i0 i1 : List Int} {E st : Int} {σ : Mst} (h : RMem w B S i0 i1 E st σ) : RMem w.drew B S i0 i1 E st σ := by
  obtain ⟨own, f, vl, vh, vi0, vi1, vc, g0, g1, gr, h⟩ := h
  exact h.drew.ex
set_option maxRecDepth 100000 in
set_option maxHeartbeats 8000000 in
theorem go_some (b off cap : Nat) (code : List Ins) (lo hi : Nat) (v0 v1 : Value) (i0 i1 : List Int) (fuel : Nat) (w : World) (hv : Orders w b off code) (hb : b < w.heap.size) (hmay : mayB code lo hi = true) (hok : ∀ i ∈ code, okI i.n) (hf : fuel ≤ 5000) (q0 : InB w w.heap.size v0 i0) (q1 : InB w w.heap.size v1 i1) (k0 : ∀ x ∈ i0, okI x) (k1 : ∀ x ∈ i1, okI x) (hl0 : i0.length ≤ 9223372036854775807) (hl1 : i1.length ≤ 9223372036854775807) :
    Calls Try.prog 16 #[.agg #[.slice (some ⟨b, off, none⟩) code.length cap, .int .i64 lo, .int .i64 hi], v0, v1, .int .i64 fuel] w fun e w' => ∃ S, e = .returned (.pointer (some ⟨S, 0, none⟩)) ∧
      RMem w' (w.heap.size + 1) S i0 i1 (runF code i0 i1 fuel (zeroM lo hi)).1 (runF code i0 i1 fuel (zeroM lo hi)).2.1 (runF code i0 i1 fuel (zeroM lo hi)).2.2 ∧ Below w.heap.size w w' := by
  have hM := hmay
  simp only [mayB, Bool.and_eq_true, decide_eq_true_eq] at hM
  obtain ⟨⟨⟨⟨⟨⟨hc1, hc2⟩, -⟩, hlo⟩, -⟩, hhi⟩, hall⟩ := hM
  have hlo : lo ≤ 20000 := by omega
  have hhi : hi ≤ 20000 := by omega
  rw [List.all_eq_true] at hall
  have HC := Lib.hid (show ∀ i ∈ code, orderB i code.length = true ∧ okI i.n from fun i h => ⟨hall i h, hok i h⟩)
  have HQ := Lib.hid (And.intro q0 q1)
  have HI := Lib.hid (And.intro k0 k1)
  have HL := Lib.hid (And.intro hl0 hl1)
  clear hall hok q0 q1 k0 k1 hl0 hl1 hmay
  generalize hR : runF code i0 i1 fuel (zeroM lo hi) = R
  have HR := Lib.hid hR
  clear hR
  obtain ⟨n, hn⟩ : ∃ n, code.length = n := ⟨_, rfl⟩
  rw [hn] at hc1 hc2 ⊢
  have HN := Lib.hid hn
  have HV := Lib.hid hv
  clear hn hv
  have HQ' : Hid (∃ A0 n0 c0 A1 n1 c1, v0 = .slice A0 n0 c0 ∧ v1 = .slice A1 n1 c1) := by
    obtain ⟨A0, c0, e0, -⟩ := HQ.out.1
    obtain ⟨A1, c1, e1, -⟩ := HQ.out.2
    exact ⟨A0, _, c0, A1, _, c1, e0, e1⟩
  obtain ⟨A0, n0, c0, A1, n1, c1, rfl, rfl⟩ := HQ'.out
  have hmk8 := run_make_row' (P := Try.prog) 31 2 (.int .i64 0) 8 Try.underlying31 info2 rfl .i64 .i64 8 (by decide) (by decide)
  have hmkl := run_make_row' (P := Try.prog) 31 2 (.int .i64 0) 8 Try.underlying31 info2 rfl .i64 .i64 lo (by omega) (by omega)
  have hmkh := run_make_row' (P := Try.prog) 31 2 (.int .i64 0) 8 Try.underlying31 info2 rfl .i64 .i64 hi (by omega) (by omega)
  rw [show ((8 : Nat) : Int) = 8 from rfl] at hmk8
  go_enter Try.func16, Try.ntmps16
  go_upto_region 1 with (fail)
  go_cut [9] (fun p w' => ∃ S, p = .pointer (some ⟨S, 0, none⟩) ∧ RMem w' (w.heap.size + 1) S i0 i1 0 0 (zeroM lo hi) ∧ Below (w.heap.size + 1) (w.alloc (.cells #[.slice (some ⟨b, off, none⟩) n cap, .int .i64 lo, .int .i64 hi] 30)) w')
  case first =>
    have Q0 := Lib.hid (HQ.out.1.mono ((Below.refl w.heap.size w).alloc (Nat.le_refl _) (.cells #[.slice (some ⟨b, off, none⟩) n cap, .int .i64 lo, .int .i64 hi] 30)) (Nat.le_succ _))
    have Q1 := Lib.hid (HQ.out.2.mono ((Below.refl w.heap.size w).alloc (Nat.le_refl _) (.cells #[.slice (some ⟨b, off, none⟩) n cap, .int .i64 lo, .int .i64 hi] 30)) (Nat.le_succ _))
    have hsz : w.heap.size + 1 ≤ (w.alloc (.cells #[.slice (some ⟨b, off, none⟩) n cap, .int .i64 lo, .int .i64 hi] 30)).heap.size := by simp
    clear HQ HC HI HL HV HR HN HQ'
    go_region_with (fail)
    all_goals (try go_wp2_with fail)
    all_goals go_meet
    all_goals refine ⟨_, rfl, ?_⟩
    all_goals first
      | with_reducible exact start_rlh hsz (by simp) (by simp) (by simp) (by simp) Q0.out Q1.out
      | with_reducible exact start_rhl hsz (by simp) (by simp) (by simp) (by simp) Q0.out Q1.out
      | with_reducible exact start_lrh hsz (by simp) (by simp) (by simp) (by simp) Q0.out Q1.out
      | with_reducible exact start_lhr hsz (by simp) (by simp) (by simp) (by simp) Q0.out Q1.out
      | with_reducible exact start_hrl hsz (by simp) (by simp) (by simp) (by simp) Q0.out Q1.out
      | with_reducible exact start_hlr hsz (by simp) (by simp) (by simp) (by simp) Q0.out Q1.out
  case rest =>
    obtain ⟨S, rfl, hM0, hBw⟩ := hcut
    have hbox : wc.cell? ⟨w.heap.size, 0, none⟩ = some (.slice (some ⟨b, off, none⟩) n cap) := (hBw.cell (by simp)).trans (cell_of_row _ _ 0 _ _ _ (heap_alloc_new w (.cells #[.slice (some ⟨b, off, none⟩) n cap, .int .i64 lo, .int .i64 hi] 30)))
    have hcode := Lib.hid ((HV.out.below ((Below.refl w.heap.size w).alloc (Nat.le_refl _) (.cells #[.slice (some ⟨b, off, none⟩) n cap, .int .i64 lo, .int .i64 hi] 30)) hb).below hBw (by omega))
    have hB1 : Hid (Below w.heap.size w wc) := ((Below.refl w.heap.size w).alloc (Nat.le_refl _) (.cells #[.slice (some ⟨b, off, none⟩) n cap, .int .i64 lo, .int .i64 hi] 30)).trans (hBw.mono (Nat.le_succ _))
    have hlt0 : w.heap.size < wc.heap.size := by have := hBw.size; simp at this; omega
    clear hmk8 hmkl hmkh HV hBw HQ HQ'
    go_wp2_with fail
    go_loopg [] fuel (fun k wr => ∃ (σ : Mst) (st : Nat), RMem wr (w.heap.size + 1) S i0 i1 0 st σ ∧ Good code.length st σ ∧ Below (w.heap.size + 1) wc wr ∧ st + k = fuel ∧ Hid (R = ((runF code i0 i1 k σ).1, st + (runF code i0 i1 k σ).2.1, (runF code i0 i1 k σ).2.2)))
    case atStart => exact ⟨_, 0, hM0, good_start _ _ _, Below.refl _ _, by omega, by rw [← HR.out]; unfold Hid; simp⟩
    case round =>
      obtain ⟨σ, st, hM, hG, hB, hk, hrun⟩ := hrel
      obtain ⟨own, f, vl, vh, vi0, vi1, vc, g0, g1, gr, h⟩ := hM
      have hslt := h.lt
      have hS := h.hS
      have c5 := h.blk.cell (i := 5) (by decide)
      rw [h.fs.st] at c5
      have c12 := h.cpc
      have c0 := h.blk.cell (i := 0) (by decide)
      rw [h.fs.en] at c0
      have f0 := h.blk.frozen 0
      have f5 := h.blk.frozen 5
      have hbx : wr.cell? ⟨w.heap.size, 0, none⟩ = some (.slice (some ⟨b, off, none⟩) n cap) := (hB.cell (by show w.heap.size < _; omega)).trans hbox
      have hbl : w.heap.size < wr.heap.size := by have := hB.size; omega
      have n1 : S ≠ w.heap.size := by omega
      have n2 : w.heap.size ≠ S := by omega
      have hG1 := hG.pc
      obtain ⟨p, hp⟩ : ∃ p : Nat, σ.pc = p := ⟨σ.pc.toNat, by omega⟩
      rw [hp] at c12 hG1
      have HP := Lib.hid hp
      clear hp
      by_cases hst : st < fuel
      · obtain ⟨k, rfl⟩ : ∃ k, gk = k + 1 := ⟨gk - 1, by omega⟩
        by_cases hpl : p < n
        · have hpl' : p < code.length := by rw [HN.out]; exact hpl
          have hcp := hcode.out.below hB (by omega) p hpl'
          have hxx := HC.out _ (List.getElem_mem hpl')
          have hgood := Lib.hid (fun τ (hs : stepF i0 i1 σ (code[p]'hpl') = .ok τ) => step_good (i0 := i0) (i1 := i1) (σ := σ) (τ := τ) (i := code[p]'hpl') hG (by rw [HP.out]; omega) hxx.1 hxx.2 HI.out.1 HI.out.2 hs)
          have hgo := Lib.hid (fun τ (hs : stepF i0 i1 σ (code[p]'hpl') = .ok τ) => run_go (i0 := i0) (i1 := i1) (σ := σ) (τ := τ) (k := k) HP.out hpl' hs)
          have herr := Lib.hid (fun x (hs : stepF i0 i1 σ (code[p]'hpl') = .error x) => run_err (i0 := i0) (i1 := i1) (σ := σ) (x := x) (k := k) HP.out hpl' hs)
          obtain ⟨hx, -⟩ := hxx
          obtain ⟨x, hxe⟩ : ∃ x, code[p]'hpl' = x := ⟨_, rfl⟩
          rw [hxe] at hcp hgood hgo herr hx
          have HX := Lib.hid hxe
          clear hxe
          go_upto_region 3 with (fail)
          go_quiet (fail)
          go_upto_region 6 with (fail)
          obtain ⟨w2, hw2⟩ : ∃ w2, (wr.drewN nq).setCell ⟨S, 5, none⟩ (.int .i64 ((st : Int) + 1)) = w2 := ⟨_, rfl⟩
          have h2 := (h.drewN nq).setSt ((st : Int) + 1)
          have hB2 : Below (w.heap.size + 1) wc w2 := by rw [← hw2]; exact (below_drewN hB nq).setCell hS _
          rw [hw2] at h2
          rw [hw2]
          clear hw2 hB h c0 c5 c12 f0 f5 hbx hbl hcp hslt
          have hM2 : RMem w2 (w.heap.size + 1) S i0 i1 0 ((st : Int) + 1) σ := h2.ex
          have c12 := h2.cpc
          rw [HP.out] at c12
          have hbx2 : w2.cell? ⟨w.heap.size, 0, none⟩ = some (.slice (some ⟨b, off, none⟩) n cap) := (hB2.cell (by show w.heap.size < _; omega)).trans hbox
          obtain ⟨e0, e1, e2, e3, e4⟩ := hcode.out.below hB2 (by omega) p hpl'
          rw [HX.out] at e0 e1 e2 e3 e4
          have hpi : (p : Int) < (n : Int) := by omega
          have hG2 := hG
          have hpc3 : 0 ≤ σ.pc ∧ σ.pc ≤ 30000 := by rw [HP.out]; omega
          have HCALL := Lib.hid (fun hcl hl0 hl1 ho0 ho1 hrg => rstep_any hM2.drew hpc3 hcl hl0 hl1 ho0 ho1 hrg x code.length hx)
          have HCALL := Lib.hid (HCALL.out hG.deep HL.out.1 HL.out.2 (by have := hG.o0; omega) (by have := hG.o1; omega) hG.r)
          have hbB : b < w.heap.size + 1 := by omega
          have n3 : S ≠ b := by omega
          clear hG2 hpc3 h2
          refine wp_region_held_drew (S := fun w' => w'.cell? ⟨w.heap.size, 0, none⟩ = some (.slice (some ⟨b, off, none⟩) n cap) ∧ w'.cell? ⟨b, off + p * 5, none⟩ = some (.int .i64 x.op) ∧ w'.cell? ⟨b, off + p * 5 + 1, none⟩ = some (.int .i64 x.a) ∧ w'.cell? ⟨b, off + p * 5 + 2, none⟩ = some (.int .i64 x.b) ∧ w'.cell? ⟨b, off + p * 5 + 3, none⟩ = some (.int .i64 x.c) ∧ w'.cell? ⟨b, off + p * 5 + 4, none⟩ = some (.int .i64 x.n)) mw.mixed ⟨hbx2, e0, e1, e2, e3, e4⟩ (fun hHeld => ?_)
          refine wpAnyH_take (i := 0) (v := ?vg0) rfl (by kernel_rfl) (by kernel_rfl) (by kernel_rfl) (fun _ _ _ h => h) (Or.inl ⟨by rfl, ?hg0⟩) (by assumption) ?rg0
          case hg0 => intro w hSw; (try dsimp only at hSw); go_simp; (try with_reducible rfl)
          simp only [Act.put, List.getElem_toArray, List.getElem_cons_zero, List.setIfInBounds_toArray, List.set_cons_zero, List.set_cons_succ]
          refine wpAnyH_take (i := 1) (v := ?vg1) rfl (by kernel_rfl) (by kernel_rfl) (by kernel_rfl) (fun _ _ _ h => h) (Or.inl ⟨by rfl, ?hg1⟩) (by assumption) ?rg1
          case hg1 => intro w hSw; (try dsimp only at hSw); go_simp; (try with_reducible rfl)
          simp only [Act.put, List.getElem_toArray, List.getElem_cons_zero, List.getElem_cons_succ, List.setIfInBounds_toArray, List.set_cons_zero, List.set_cons_succ]
          refine wpAnyH_take (i := 2) (v := ?vg2) rfl (by kernel_rfl) (by kernel_rfl) (by kernel_rfl) (fun _ _ _ h => h) (Or.inl ⟨by rfl, ?hg2⟩) (by assumption) ?rg2
          case hg2 => intro w hSw; (try dsimp only at hSw); go_simp; (try with_reducible rfl)
          simp only [Act.put, List.getElem_toArray, List.getElem_cons_zero, List.getElem_cons_succ, List.setIfInBounds_toArray, List.set_cons_zero, List.set_cons_succ]
          refine wpAnyH_take (i := 3) (v := ?vg3) rfl (by kernel_rfl) (by kernel_rfl) (by kernel_rfl) (fun _ _ _ h => h) (Or.inl ⟨by rfl, ?hg3⟩) (by assumption) ?rg3
          case hg3 => intro w hSw; (try dsimp only at hSw); go_simp; (try with_reducible rfl)
          simp only [Act.put, List.getElem_toArray, List.getElem_cons_zero, List.getElem_cons_succ, List.setIfInBounds_toArray, List.set_cons_zero, List.set_cons_succ]
          refine wpAnyH_take (i := 4) (v := ?vg4) rfl (by kernel_rfl) (by kernel_rfl) (by kernel_rfl) (fun _ _ _ h => h) (Or.inl ⟨by rfl, ?hg4⟩) (by assumption) ?rg4
          case hg4 => intro w hSw; (try dsimp only at hSw); go_simp; (try with_reducible rfl)
          simp only [Act.put, List.getElem_toArray, List.getElem_cons_zero, List.getElem_cons_succ, List.setIfInBounds_toArray, List.set_cons_zero, List.set_cons_succ]
          refine wpAnyH_take (i := 5) (v := ?vg5) rfl (by kernel_rfl) (by kernel_rfl) (by kernel_rfl) (fun _ _ _ h => h) (Or.inl ⟨by rfl, ?hg5⟩) (by assumption) ?rg5
          case hg5 => intro w hSw; (try dsimp only at hSw); go_simp; (try with_reducible rfl)
          simp only [Act.put, List.getElem_toArray, List.getElem_cons_zero, List.getElem_cons_succ, List.setIfInBounds_toArray, List.set_cons_zero, List.set_cons_succ]
          refine wpAnyH_take (i := 6) (v := ?vg6) rfl (by kernel_rfl) (by kernel_rfl) (by kernel_rfl) (fun _ _ _ h => h) (Or.inl ⟨by rfl, ?hg6⟩) (by assumption) ?rg6
          case hg6 => intro w hSw; (try dsimp only at hSw); go_simp; (try with_reducible rfl)
          simp only [Act.put, List.getElem_toArray, List.getElem_cons_zero, List.getElem_cons_succ, List.setIfInBounds_toArray, List.set_cons_zero, List.set_cons_succ]
          refine wpAnyH_ready (rs := [7]) (by kernel_rfl) (by simp) ?_
          refine AllReadyH.cons rfl (fun K2 hK2 => ?_) AllReadyH.nil
          go_simp
          refine hK2.out _ _ hHeld (fun _ => ?_)
          clear hK2 K2
          try simp only [Act.put, List.getElem_toArray, List.getElem_cons_zero, List.getElem_cons_succ, List.setIfInBounds_toArray, List.set_cons_zero, List.set_cons_succ]
          refine wpAnyH_take (i := 8) (v := ?vg8) rfl (by kernel_rfl) (by kernel_rfl) (by kernel_rfl) (fun _ _ _ h => h) (Or.inl ⟨by rfl, ?hg8⟩) (by assumption) ?rg8
          case hg8 => intro w hSw; (try dsimp only at hSw); go_simp; (try with_reducible rfl)
          simp only [Act.put, List.getElem_toArray, List.getElem_cons_zero, List.getElem_cons_succ, List.setIfInBounds_toArray, List.set_cons_zero, List.set_cons_succ]
          refine wpAnyH_take (i := 9) (v := ?vg9) rfl (by kernel_rfl) (by kernel_rfl) (by kernel_rfl) (fun _ _ _ h => h) (Or.inl ⟨by rfl, ?hg9⟩) (by assumption) ?rg9
          case hg9 => intro w hSw; (try dsimp only at hSw); go_simp; (try with_reducible rfl)
          simp only [Act.put, List.getElem_toArray, List.getElem_cons_zero, List.getElem_cons_succ, List.setIfInBounds_toArray, List.set_cons_zero, List.set_cons_succ]
          refine wpAnyH_ready (rs := [10]) (by kernel_rfl) (by simp) ?_
          refine AllReadyH.cons rfl (fun K2 hK2 => ?_) AllReadyH.nil
          go_simp
          refine HCALL.out.mono ?_
          intro e w' hpost
          cases hs : stepF i0 i1 σ x with
          | error y =>
            rw [hs] at hpost
            have HERR := Lib.hid (herr.out y hs)
            have hy := step_end hs
            obtain ⟨rfl, hM3, hB3⟩ := hpost
            clear hs
            have hbx3 : w'.cell? ⟨w.heap.size, 0, none⟩ = some (.slice (some ⟨b, off, none⟩) n cap) := (hB3.cell (by show w.heap.size < _; omega)).trans hbx2
            have e5 := (hB3.cell (p := ⟨b, off + p * 5, none⟩) hbB).trans e0
            have e6 := (hB3.cell (p := ⟨b, off + p * 5 + 1, none⟩) hbB).trans e1
            have e7 := (hB3.cell (p := ⟨b, off + p * 5 + 2, none⟩) hbB).trans e2
            have e8 := (hB3.cell (p := ⟨b, off + p * 5 + 3, none⟩) hbB).trans e3
            have e9 := (hB3.cell (p := ⟨b, off + p * 5 + 4, none⟩) hbB).trans e4
            obtain ⟨own3, f3, vl3, vh3, vi03, vi13, vc3, g03, g13, gr3, h3⟩ := hM3
            have c0 := h3.blk.cell (i := 0) (by decide)
            rw [h3.fs.en] at c0
            have f0 := h3.blk.frozen 0
            have hslt := h3.lt
            refine hK2.out _ _ ⟨hbx3, e5, e6, e7, e8, e9⟩ (fun hHeld3 => ?_)
            clear hK2 K2
            try simp only [Act.put, List.getElem_toArray, List.getElem_cons_zero, List.getElem_cons_succ, List.setIfInBounds_toArray, List.set_cons_zero, List.set_cons_succ]
            refine wpAnyH_take (i := 11) (v := ?vy11) rfl (by kernel_rfl) (by kernel_rfl) (by kernel_rfl) (fun _ _ _ h => h) (Or.inl ⟨by rfl, ?hy11⟩) (by assumption) ?ry11
            case hy11 => intro w hSw; (try dsimp only at hSw); go_simp; (try with_reducible rfl)
            simp only [Act.put, List.getElem_toArray, List.getElem_cons_zero, List.getElem_cons_succ, List.setIfInBounds_toArray, List.set_cons_zero, List.set_cons_succ]
            refine wpAnyH_take (i := 12) (v := ?vy12) rfl (by kernel_rfl) (by kernel_rfl) (by kernel_rfl) (fun _ _ _ h => h) (Or.inl ⟨by rfl, ?hy12⟩) (by assumption) ?ry12
            case hy12 => intro w hSw; (try dsimp only at hSw); go_simp; (try with_reducible rfl)
            simp only [Act.put, List.getElem_toArray, List.getElem_cons_zero, List.getElem_cons_succ, List.setIfInBounds_toArray, List.set_cons_zero, List.set_cons_succ]
            refine wpAnyH_take (i := 13) (v := ?vy13) rfl (by kernel_rfl) (by kernel_rfl) (by kernel_rfl) (fun _ _ _ h => h) (Or.inl ⟨by rfl, ?hy13⟩) (by assumption) ?ry13
            case hy13 => intro w hSw; (try dsimp only at hSw); go_simp; (try with_reducible rfl)
            simp only [Act.put, List.getElem_toArray, List.getElem_cons_zero, List.getElem_cons_succ, List.setIfInBounds_toArray, List.set_cons_zero, List.set_cons_succ]
            refine wpAnyH_ready (rs := [14]) (by kernel_rfl) (by simp) ?_
            refine AllReadyH.cons rfl (fun K2 hK2 => ?_) AllReadyH.nil
            go_simp
            refine hK2.out _ _ ⟨(World.cell?_setCell_far _ _ _ _ n1).trans hbx3, (World.cell?_setCell_far _ _ _ _ n3).trans e5, (World.cell?_setCell_far _ _ _ _ n3).trans e6, (World.cell?_setCell_far _ _ _ _ n3).trans e7, (World.cell?_setCell_far _ _ _ _ n3).trans e8, (World.cell?_setCell_far _ _ _ _ n3).trans e9⟩ (fun _ => ?_)
            clear hK2 K2
            try simp only [Act.put, List.getElem_toArray, List.getElem_cons_zero, List.getElem_cons_succ, List.setIfInBounds_toArray, List.set_cons_zero, List.set_cons_succ]
            refine wpAnyH_done (by kernel_rfl) ?_ _
            have hyb : (y != 0) = true := by simp; omega
            go_wp2_with fail
            go_ret
            rw [hrun.out, HERR.out]
            exact ⟨S, rfl, (h3.setEn y).ex, hB1.out.trans (((hB2.drew.trans hB3).setCell hS _).mono (Nat.le_succ _))⟩
          | ok τ =>
            rw [hs] at hpost
            have HGO := Lib.hid (hgo.out τ hs)
            have hG3 := hgood.out τ hs
            obtain ⟨rfl, hM3, hB3⟩ := hpost
            clear hs
            have hbx3 : w'.cell? ⟨w.heap.size, 0, none⟩ = some (.slice (some ⟨b, off, none⟩) n cap) := (hB3.cell (by show w.heap.size < _; omega)).trans hbx2
            have e5 := (hB3.cell (p := ⟨b, off + p * 5, none⟩) hbB).trans e0
            have e6 := (hB3.cell (p := ⟨b, off + p * 5 + 1, none⟩) hbB).trans e1
            have e7 := (hB3.cell (p := ⟨b, off + p * 5 + 2, none⟩) hbB).trans e2
            have e8 := (hB3.cell (p := ⟨b, off + p * 5 + 3, none⟩) hbB).trans e3
            have e9 := (hB3.cell (p := ⟨b, off + p * 5 + 4, none⟩) hbB).trans e4
            obtain ⟨own3, f3, vl3, vh3, vi03, vi13, vc3, g03, g13, gr3, h3⟩ := hM3
            have c0 := h3.blk.cell (i := 0) (by decide)
            rw [h3.fs.en] at c0
            have f0 := h3.blk.frozen 0
            have hslt := h3.lt
            refine hK2.out _ _ ⟨hbx3, e5, e6, e7, e8, e9⟩ (fun hHeld3 => ?_)
            clear hK2 K2
            try simp only [Act.put, List.getElem_toArray, List.getElem_cons_zero, List.getElem_cons_succ, List.setIfInBounds_toArray, List.set_cons_zero, List.set_cons_succ]
            refine wpAnyH_take (i := 11) (v := ?vz11) rfl (by kernel_rfl) (by kernel_rfl) (by kernel_rfl) (fun _ _ _ h => h) (Or.inl ⟨by rfl, ?hz11⟩) (by assumption) ?rz11
            case hz11 => intro w hSw; (try dsimp only at hSw); go_simp; (try with_reducible rfl)
            simp only [Act.put, List.getElem_toArray, List.getElem_cons_zero, List.getElem_cons_succ, List.setIfInBounds_toArray, List.set_cons_zero, List.set_cons_succ]
            refine wpAnyH_take (i := 12) (v := ?vz12) rfl (by kernel_rfl) (by kernel_rfl) (by kernel_rfl) (fun _ _ _ h => h) (Or.inl ⟨by rfl, ?hz12⟩) (by assumption) ?rz12
            case hz12 => intro w hSw; (try dsimp only at hSw); go_simp; (try with_reducible rfl)
            simp only [Act.put, List.getElem_toArray, List.getElem_cons_zero, List.getElem_cons_succ, List.setIfInBounds_toArray, List.set_cons_zero, List.set_cons_succ]
            refine wpAnyH_take (i := 13) (v := ?vz13) rfl (by kernel_rfl) (by kernel_rfl) (by kernel_rfl) (fun _ _ _ h => h) (Or.inl ⟨by rfl, ?hz13⟩) (by assumption) ?rz13
            case hz13 => intro w hSw; (try dsimp only at hSw); go_simp; (try with_reducible rfl)
            simp only [Act.put, List.getElem_toArray, List.getElem_cons_zero, List.getElem_cons_succ, List.setIfInBounds_toArray, List.set_cons_zero, List.set_cons_succ]
            refine wpAnyH_ready (rs := [14]) (by kernel_rfl) (by simp) ?_
            refine AllReadyH.cons rfl (fun K2 hK2 => ?_) AllReadyH.nil
            go_simp
            refine hK2.out _ _ ⟨(World.cell?_setCell_far _ _ _ _ n1).trans hbx3, (World.cell?_setCell_far _ _ _ _ n3).trans e5, (World.cell?_setCell_far _ _ _ _ n3).trans e6, (World.cell?_setCell_far _ _ _ _ n3).trans e7, (World.cell?_setCell_far _ _ _ _ n3).trans e8, (World.cell?_setCell_far _ _ _ _ n3).trans e9⟩ (fun _ => ?_)
            clear hK2 K2
            try simp only [Act.put, List.getElem_toArray, List.getElem_cons_zero, List.getElem_cons_succ, List.setIfInBounds_toArray, List.set_cons_zero, List.set_cons_succ]
            refine wpAnyH_done (by kernel_rfl) ?_ _
            go_wp2_with fail
            go_roundg k
            case measure => omega
            case rel =>
              have hM4 := (h3.setEn 0).ex
              rw [show (st : Int) + 1 = ((st + 1 : Nat) : Int) by omega] at hM4
              refine ⟨τ, st + 1, hM4, hG3, (hB2.drew.trans hB3).setCell hS _, by omega, ?_⟩
              unfold Hid
              rw [hrun.out, HGO.out]
              simp only [Prod.mk.injEq, true_and, and_true]
              omega
        · have hoff := run_off (i0 := i0) (i1 := i1) (k := k) HP.out (by rw [HN.out]; exact hpl)
          rw [hoff] at hrun
          clear hoff
          go_upto_region 3 with (fail)
          go_quiet (fail)
          go_wp2_with fail
          go_ret
          rw [hrun.out]
          exact ⟨S, rfl, ((h.drewN _).setEn 6).ex, hB1.out.trans (((below_drewN hB _).setCell hS _).mono (Nat.le_succ _))⟩
      · obtain rfl : gk = 0 := by omega
        go_wp2_with fail
        go_ret
        rw [hrun.out]
        exact ⟨S, rfl, h.ex, hB1.out.trans (hB.mono (Nat.le_succ _))⟩
end mst
end Go.Proofs.Ytpcihajmcejliaa
