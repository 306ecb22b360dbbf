/- The walk of the program's run: it does what runF says; a step's panic is caught. -/
import Derived.Test.YtpcihajmcejliaaMachGo
import Derived.Test.YtpcihajmcejliaaMachRun
import Derived.Test.YtpcihajmcejliaaMachStepM
import Derived.Defers
import Derived.Recover
import Derived.Deep.CutBlock
import Derived.Deep.DeepCutAuto
namespace Go.Proofs.Ytpcihajmcejliaa
open Go.RowKit

open mst
namespace mst
theorem stop_is (v : Value) (w : World) : (Instr.typeAssert (.iface 72 v) 20 72 true).run Try.prog w = .ok (.tuple #[v, .bool true]) w := by kernel_rfl
set_option maxRecDepth 100000 in
set_option maxHeartbeats 4000000 in
theorem catch_stop (C S : Nat) (x E : Int) (w : World) (hC : w.cell? ⟨C, 0, none⟩ = some (.pointer (some ⟨S, 0, none⟩))) (hE : w.cell? ⟨S, 0, none⟩ = some (.int .i64 E)) (hz : w.frozen? ⟨S, 0, none⟩ = false) :
    CallsD Try.prog 33 #[.pointer (some ⟨C, 0, none⟩)] (.panicking (mw.stopV x)) w fun e u' w' =>
      e = .returned (.tuple #[]) ∧ u' = .panicking [{ v := .iface 72 (.agg #[.int .i64 x]), recovered := true }] ∧ w' = (w.alloc (.cells #[.int .i64 x] 72)).setCell ⟨S, 0, none⟩ (.int .i64 x) := by
  have hta := stop_is
  have hSlt := World.block_lt_of_cell? w _ hE
  have hSne : S ≠ w.heap.size := Nat.ne_of_lt hSlt
  have hSne2 : w.heap.size ≠ S := Ne.symm hSne
  have hCne : C ≠ w.heap.size := Nat.ne_of_lt (World.block_lt_of_cell? w _ hC)
  have hC2 : (w.alloc (.cells #[.int .i64 x] 72)).cell? ⟨C, 0, none⟩ = some (.pointer (some ⟨S, 0, none⟩)) := cell_al hC
  have hE2 : (w.alloc (.cells #[.int .i64 x] 72)).cell? ⟨S, 0, none⟩ = some (.int .i64 E) := cell_al hE
  have hz2 : (w.alloc (.cells #[.int .i64 x] 72)).frozen? ⟨S, 0, none⟩ = false := (((Below.refl w.heap.size w).alloc (Nat.le_refl _) _).frozen (p := ⟨S, 0, none⟩) hSlt).trans hz
  have hx2 : (w.alloc (.cells #[.int .i64 x] 72)).cell? ⟨w.heap.size, 0, none⟩ = some (.int .i64 x) := (cell_of_row _ _ 0 _ _ _ (heap_alloc_new w _)).trans rfl
  refine callsD_of_wpS Try.func33 rfl fun c₀ cs hu => ?_
  unfold mw.stopV at hu
  apply wpS_seq
  apply wpS_region
  simp [wpOpsS, go_sem, recoverD, hu, Try.ntmps33, Exit.thenS]
  simp only [Array.replicate, List.replicate, List.append_toArray, List.setIfInBounds_toArray, List.set_cons_zero, List.set_cons_succ, List.cons_append, List.nil_append]
  refine wpS_of_wp (Code.wp_mono (Q := fun e a' w' => e = .normal ∧ a'.defers = [] ∧ w' = (w.alloc (Obj.cells #[Value.int IntKind.i64 x] 72)).setCell { block := S, off := 0 } (Value.int IntKind.i64 x)) ?_ ?_)
  · rintro e a w1 ⟨rfl, hd, rfl⟩
    exact ⟨hd, _, rfl, _, results_none rfl _ _ _, rfl, rfl, rfl⟩
  clear hu
  go_wp2_with (fail)
set_option maxRecDepth 100000 in
set_option maxHeartbeats 4000000 in
theorem catch_idle (C : Nat) (w : World) :
    CallsD Try.prog 33 #[.pointer (some ⟨C, 0, none⟩)] .returning w fun e u' w' => e = .returned (.tuple #[]) ∧ u' = .returning ∧ w' = w := by
  refine callsD_of_wpS Try.func33 rfl fun c₀ cs hu => ?_
  apply wpS_seq
  apply wpS_region
  simp [wpOpsS, go_sem, recoverD, hu, Try.ntmps33, Exit.thenS]
  simp only [Array.replicate, List.replicate, List.append_toArray, List.setIfInBounds_toArray, List.set_cons_zero, List.set_cons_succ, List.cons_append, List.nil_append]
  refine wpS_of_wp (Code.wp_mono (Q := fun e a' w' => e = .normal ∧ a'.defers = [] ∧ w' = w) ?_ ?_)
  · rintro e a w1 ⟨rfl, hd, rfl⟩
    exact ⟨hd, .returning, by cases c₀; simp_all, _, results_none rfl _ _ _, rfl, rfl, rfl⟩
  clear hu
  go_wp2_with (fail)
theorem PMem.drew {w : World} {B S : Nat} {cv : Value} {i0 i1 : List Int} {E st : Int} {σ : Mst} (h : PMem w B S cv i0 i1 E st σ) : PMem w.drew B S cv i0 i1 E st σ := by
  obtain ⟨own, f, vl, vh, vi0, vi1, vc, g0, g1, h⟩ := h
  exact h.drew.ex
set_option maxRecDepth 100000 in
set_option maxHeartbeats 8000000 in
theorem runs_any {b off cap : Nat} {code : List Ins} {B S : Nat} {i0 i1 : List Int} {σ0 : Mst} (fuel : Nat) (w : World) (hv : Orders w b off code) (hbB : b < B) (hc2 : code.length ≤ 20000) (HC : Hid (∀ i ∈ code, orderB i code.length = true ∧ okI i.n)) (hf : fuel ≤ 5000)
    (k0 : ∀ x ∈ i0, okI x) (k1 : ∀ x ∈ i1, okI x) (hl0 : i0.length ≤ 9223372036854775807) (hl1 : i1.length ≤ 9223372036854775807) (hSw : S + 1 = w.heap.size) (hBS : B ≤ S) (hG0 : Good code.length 0 σ0)
    (hM0 : PMem (w.alloc (.cells #[.pointer (some ⟨S, 0, none⟩)] 55)) B S (.slice (some ⟨b, off, none⟩) code.length cap) i0 i1 0 0 σ0) :
    Calls Try.prog 27 #[.pointer (some ⟨S, 0, none⟩), .int .i64 fuel] w fun e w' => e = .returned (.tuple #[]) ∧
      PMem w' B S (.slice (some ⟨b, off, none⟩) code.length cap) i0 i1 (runF code i0 i1 fuel σ0).1 (runF code i0 i1 fuel σ0).2.1 (runF code i0 i1 fuel σ0).2.2 ∧ Below B w w' := by
  have HI := Lib.hid (And.intro k0 k1)
  have HL := Lib.hid (And.intro hl0 hl1)
  clear k0 k1 hl0 hl1
  generalize hR : runF code i0 i1 fuel σ0 = R
  have HR := Lib.hid hR
  clear hR
  obtain ⟨n, hn⟩ : ∃ n, code.length = n := ⟨_, rfl⟩
  rw [hn] at hc2 hM0 ⊢
  have HN := Lib.hid hn
  have HV := Lib.hid hv
  clear hn hv
  have hmf : ∀ (fn : Fn) (first cap : Array Value) (w : World), (Instr.makeFunc fn first cap).run Try.prog w = .ok (.func fn first cap) w := fun _ _ _ _ => rfl
  go_enter_defers Try.func27, Try.ntmps27
  go_wp2_with fail
  go_loopg [] fuel (fun k wr => ∃ (σ : Mst) (st : Nat), PMem wr B S (.slice (some ⟨b, off, none⟩) n cap) i0 i1 0 st σ ∧ Good code.length st σ ∧ Below B w wr ∧ st + k = fuel ∧ Hid (R = ((runF code i0 i1 k σ).1, st + (runF code i0 i1 k σ).2.1, (runF code i0 i1 k σ).2.2)))
  case atStart => exact ⟨_, 0, hM0, hG0, (Below.refl _ _).alloc (by omega) _, by omega, by rw [← HR.out]; unfold Hid; simp⟩
  case round =>
    obtain ⟨σ, st, hM, hG, hB, hk, hrun⟩ := hrel
    obtain ⟨own, f, vl, vh, vi0, vi1, vc, g0, g1, h⟩ := hM
    have hslt := h.lt
    have cB := h.bx.1.cell (i := 0) (by decide)
    rw [hSw] at cB
    have c5 := h.blk.cell (i := 5) (by decide)
    rw [h.fs.st] at c5
    have c6 := h.blk.cell (i := 6) (by decide)
    rw [h.fs.cd] at c6
    have c0 := h.blk.cell (i := 0) (by decide)
    rw [h.fs.en] at c0
    have c12 := h.cpc
    have f0 := h.blk.frozen 0
    have f5 := h.blk.frozen 5
    have n1 : S ≠ w.heap.size := by omega
    have n2 : w.heap.size ≠ S := by omega
    have hG1 := hG.pc
    obtain ⟨p, hp⟩ : ∃ p : Nat, σ.pc = p := ⟨σ.pc.toNat, by omega⟩
    rw [hp] at c12 hG1
    have HP := Lib.hid hp
    clear hp
    by_cases hst : st < fuel
    · obtain ⟨k, rfl⟩ : ∃ k, gk = k + 1 := ⟨gk - 1, by omega⟩
      by_cases hpl : p < n
      · have hpl' : p < code.length := by rw [HN.out]; exact hpl
        have hcp := HV.out.below hB hbB p hpl'
        have hxx := HC.out _ (List.getElem_mem hpl')
        have hgood := Lib.hid (fun τ (hs : stepF i0 i1 σ (code[p]'hpl') = .ok τ) => step_good (i0 := i0) (i1 := i1) (σ := σ) (τ := τ) (i := code[p]'hpl') hG (by rw [HP.out]; omega) hxx.1 hxx.2 HI.out.1 HI.out.2 hs)
        have hgo := Lib.hid (fun τ (hs : stepF i0 i1 σ (code[p]'hpl') = .ok τ) => run_go (i0 := i0) (i1 := i1) (σ := σ) (τ := τ) (k := k) HP.out hpl' hs)
        have herr := Lib.hid (fun x (hs : stepF i0 i1 σ (code[p]'hpl') = .error x) => run_err (i0 := i0) (i1 := i1) (σ := σ) (x := x) (k := k) HP.out hpl' hs)
        obtain ⟨hx, -⟩ := hxx
        obtain ⟨x, hxe⟩ : ∃ x, code[p]'hpl' = x := ⟨_, rfl⟩
        rw [hxe] at hcp hgood hgo herr hx
        have HX := Lib.hid hxe
        clear hxe
        have hdec : decide (p < n) = true := decide_eq_true hpl
        go_upto_region 3 with (fail)
        refine region_tail 10 mw.mixed (by kernel_rfl) ?_
        simp only [List.take_succ_cons, List.take_zero, List.drop_succ_cons, List.drop_zero]
        repeat still_step
        refine wpStill_nil ?_
        go_wp2_with (go_at_call 34; refine (mw.must_true 6 _).mono ?_; rintro e w' ⟨rfl, rfl⟩)
        obtain ⟨w2, hw2⟩ : ∃ w2, (wr.setCell ⟨S, 5, none⟩ (.int .i64 ((st : Int) + 1))).drew = w2 := ⟨_, rfl⟩
        have h2 := (h.setSt ((st : Int) + 1)).drew
        have hB2 : Below B w w2 := by rw [← hw2]; exact (hB.setCell hBS _).drew
        rw [hw2] at h2
        rw [hw2]
        clear hw2 hB h c0 c5 c6 c12 cB f0 f5 hcp hslt hdec
        have hM2 : PMem w2 B S (.slice (some ⟨b, off, none⟩) n cap) i0 i1 0 ((st : Int) + 1) σ := h2.ex
        have c12 := h2.cpc
        rw [HP.out] at c12
        have cB := h2.bx.1.cell (i := 0) (by decide)
        rw [hSw] at cB
        have c6 := h2.blk.cell (i := 6) (by decide)
        rw [h2.fs.cd] at c6
        obtain ⟨e0, e1, e2, e3, e4⟩ := HV.out.below hB2 hbB p hpl'
        rw [HX.out] at e0 e1 e2 e3 e4
        have hpi : (p : Int) < (n : Int) := by omega
        have hpc3 : 0 ≤ σ.pc ∧ σ.pc ≤ 30000 := by rw [HP.out]; omega
        have HCALL := Lib.hid (fun w3 (hm : PMem w3 B S (.slice (some ⟨b, off, none⟩) n cap) i0 i1 0 ((st : Int) + 1) σ) => step_any hm hpc3 hG.deep HL.out.1 HL.out.2 (by have := hG.o0; omega) (by have := hG.o1; omega) x code.length hx)
        clear hpc3 h2
        refine region_tail 11 mw.mixed (by kernel_rfl) ?_
        simp only [List.take_succ_cons, List.take_zero, List.drop_succ_cons, List.drop_zero]
        repeat still_step
        refine wpStill_nil ?_
        go_wp2_with fail
        refine (HCALL.out _ hM2.drew).mono ?_
        intro e w' hpost
        cases hs : stepF i0 i1 σ x with
        | error y =>
          rw [hs] at hpost
          have HERR := Lib.hid (herr.out y hs)
          obtain ⟨rfl, hM3, hB3⟩ := hpost
          clear hs
          obtain ⟨own3, f3, vl3, vh3, vi03, vi13, vc3, g03, g13, h3⟩ := hM3
          have cB3 := h3.bx.1.cell (i := 0) (by decide)
          rw [hSw] at cB3
          have c03 := h3.blk.cell (i := 0) (by decide)
          rw [h3.fs.en] at c03
          have f03 := h3.blk.frozen 0
          have hs3 := h3.lt
          go_wp2_with fail
          refine leaves_cons (f := 33) (args := #[.pointer (some ⟨w.heap.size, 0, none⟩)]) (by simp) (by simp [go_sem]) ?_
          refine (catch_stop w.heap.size S y 0 _ cB3 c03 f03).mono ?_
          rintro e u' w'' ⟨rfl, rfl, rfl⟩
          rw [hrun.out, HERR.out]
          exact ⟨_, results_none rfl _ _ _, rfl, ((h3.alloc _).setEn y).ex, ((hB2.drew.trans hB3).alloc (by omega) _).setCell hBS _⟩
        | ok τ =>
          rw [hs] at hpost
          have HGO := Lib.hid (hgo.out τ hs)
          have hG3 := hgood.out τ hs
          obtain ⟨rfl, hM3, hB3⟩ := hpost
          clear hs
          go_wp2_with fail
          go_roundg k
          case measure => omega
          case rel =>
            rw [show (st : Int) + 1 = ((st + 1 : Nat) : Int) by omega] at hM3
            refine ⟨τ, st + 1, hM3, hG3, hB2.drew.trans hB3, by omega, ?_⟩
            unfold Hid
            rw [hrun.out, HGO.out]
            simp only [Prod.mk.injEq, true_and, and_true]
            omega
      · have hoff := run_off (i0 := i0) (i1 := i1) (k := k) HP.out (by rw [HN.out]; exact hpl)
        rw [hoff] at hrun
        clear hoff
        have hdec : decide (p < n) = false := decide_eq_false hpl
        go_upto_region 3 with (fail)
        refine region_tail 10 mw.mixed (by kernel_rfl) ?_
        simp only [List.take_succ_cons, List.take_zero, List.drop_succ_cons, List.drop_zero]
        repeat still_step
        refine wpStill_nil ?_
        go_wp2_with (go_at_call 34; refine (mw.must_false 6 _).mono ?_; rintro e w' ⟨rfl, rfl⟩)
        have cB3 := h.drew.bx.1.cell (i := 0) (by decide)
        rw [hSw] at cB3
        have c03 := h.drew.blk.cell (i := 0) (by decide)
        rw [h.drew.fs.en] at c03
        have f03 := h.drew.blk.frozen 0
        have hs3 := h.drew.lt
        refine leaves_cons (f := 33) (args := #[.pointer (some ⟨w.heap.size, 0, none⟩)]) (by simp) (by simp [go_sem]) ?_
        refine (catch_stop w.heap.size S 6 0 _ cB3 c03 f03).mono ?_
        rintro e u' w'' ⟨rfl, rfl, rfl⟩
        rw [hrun.out]
        exact ⟨_, results_none rfl _ _ _, rfl, ((h.drew.alloc _).setEn 6).ex, (hB.drew.alloc (by omega) _).setCell hBS _⟩
    · obtain rfl : gk = 0 := by omega
      go_wp2_with fail
      refine leaves_cons (f := 33) (args := #[.pointer (some ⟨w.heap.size, 0, none⟩)]) (by simp) (by simp [go_sem]) ?_
      refine (catch_idle w.heap.size _).mono ?_
      rintro e u' w'' ⟨rfl, rfl, rfl⟩
      rw [hrun.out]
      exact ⟨_, results_none rfl _ _ _, rfl, h.ex, hB⟩
end mst
end Go.Proofs.Ytpcihajmcejliaa
