/- The walk of the machine's step, some of its orders. The walk of the machine's step, some of its orders. The walk of the machine's step, some of its orders. The walk of the machine's step, some of its orders. The walk of the machine's step, some of its orders. -/
import Derived.Test.YtpcihajmcejliaaMachStep
namespace Go.Proofs.Ytpcihajmcejliaa
open Go.RowKit
open mst
namespace mst
set_option maxRecDepth 100000 in
set_option maxHeartbeats 4000000 in
theorem p15 {w : World} {B S : Nat} {own : Nat → Nat} {cv : Value} {i0 i1 : List Int} {E st : Int} {σ : Mst} {f : Nat → Value} {vl vh vi0 vi1 vc : Value} {g0 g1 : Nat} (h : pm.Mem w B S own cv i0 i1 E st σ f vl vh vi0 vi1 vc g0 g1) (hpc : 0 ≤ σ.pc ∧ σ.pc ≤ 30000) (a : Nat) (ha : a < 8) (hu : σ.u0 < i0.length) (hlen : i0.length ≤ 9223372036854775807) :
    Calls Try.prog 35 #[.pointer (some ⟨S, 0, none⟩), .agg #[.int .i64 15, .int .i64 a, .int .i64 0, .int .i64 0, .int .i64 0]] w (PStep B S cv i0 i1 E st σ w (goOn σ { upd σ a (i0.getD σ.u0 0) with u0 := σ.u0 + 1 })) := by
  have hlt := h.lt
  have c20 := h.cpc
  have f20 := h.blk.frozen 20
  obtain ⟨pc, hpce⟩ : ∃ pc, σ.pc = pc := ⟨_, rfl⟩
  rw [hpce] at hpc c20
  have HP := Lib.hid hpce
  clear hpce
  have hBw : B ≤ w.heap.size := Nat.le_trans h.hS (Nat.le_of_lt hlt)
  have n1 : S ≠ w.heap.size := by omega
  have n2 : w.heap.size ≠ S := by omega
  have a' : (a : Int) < 8 := by omega
  have cr0 := h.cr a ha
  have fa := h.blk.frozen (7 + a)
  have fu := h.blk.frozen 3
  have cu := h.cu0
  obtain ⟨A, cap, hvi, hrd⟩ := h.in0
  obtain ⟨g, hA, hog, hcx⟩ := hrd σ.u0 hu
  subst hvi
  subst hA
  have ci := h.ci0
  obtain ⟨x, hx⟩ : ∃ x, i0.getD σ.u0 0 = x := ⟨_, rfl⟩
  have hx' : i0[σ.u0] = x := by rw [← hx, List.getD_eq_getElem?_getD, List.getElem?_eq_getElem hu]; rfl
  rw [hx'] at hcx
  rw [hx]
  have hgS : g ≠ S := fun e => by rw [e, h.oS] at hog; cases hog
  have hgl : g < w.heap.size := World.block_lt_of_cell? w _ hcx
  have n3 : g ≠ w.heap.size := by omega
  have HX := Lib.hid hx
  clear hx hx' hrd
  obtain ⟨u, hue⟩ : ∃ u, σ.u0 = u := ⟨_, rfl⟩
  obtain ⟨len, hle⟩ : ∃ u, i0.length = u := ⟨_, rfl⟩
  have HU := Lib.hid hue
  have HL := Lib.hid hle
  rw [hue] at hu cu hcx ⊢
  rw [hle] at hu hlen ci
  clear hue hle
  go_enter Try.func35, Try.ntmps35
  go_wp2_with fail
  go_region_held3 (fun w' => w'.cell? ⟨w.heap.size, 0, none⟩ = some (.int .i64 15) ∧ w'.cell? ⟨w.heap.size, 1, none⟩ = some (.int .i64 a) ∧ w'.cell? ⟨w.heap.size, 2, none⟩ = some (.int .i64 0) ∧ w'.cell? ⟨w.heap.size, 3, none⟩ = some (.int .i64 0) ∧ w'.cell? ⟨w.heap.size, 4, none⟩ = some (.int .i64 0))
    (first | exact ⟨box_cell (by simp [World.setCell]) rfl, box_cell (by simp [World.setCell]) rfl, box_cell (by simp [World.setCell]) rfl, box_cell (by simp [World.setCell]) rfl, box_cell (by simp [World.setCell]) rfl⟩ | go_keep)
    ((go_at_call 39; refine (mw.take_ok S 3 cap 0 u x g len _ (by omega) (cell_ad cu) (frozen_ad hlt fu) (cell_ad ci) (by omega) hu hgS (cell_ad hcx) hlen).mono ?_; rintro e w' ⟨rfl, k, rfl⟩))
  rename_i hH
  clear hH
  go_wp2_with fail
  go_end0
  rw [← HP.out, ← HU.out]
  exact ⟨rfl, ((((h.incU0.alloc _).drewN _).setReg a ha x).setPc _).ex, ((below_drewN (((Below.refl _ _).setCell h.hS _).alloc (by simpa using hBw) _) _).setCell h.hS _).setCell h.hS _⟩
set_option maxRecDepth 100000 in
set_option maxHeartbeats 4000000 in
theorem p15x {w : World} {B S : Nat} {own : Nat → Nat} {cv : Value} {i0 i1 : List Int} {E st : Int} {σ : Mst} {f : Nat → Value} {vl vh vi0 vi1 vc : Value} {g0 g1 : Nat} (h : pm.Mem w B S own cv i0 i1 E st σ f vl vh vi0 vi1 vc g0 g1) (hpc : 0 ≤ σ.pc ∧ σ.pc ≤ 30000) (a : Nat) (ha : a < 8) (hu : i0.length ≤ σ.u0) :
    Calls Try.prog 35 #[.pointer (some ⟨S, 0, none⟩), .agg #[.int .i64 15, .int .i64 a, .int .i64 0, .int .i64 0, .int .i64 0]] w (PStep B S cv i0 i1 E st σ w (.error 4)) := by
  have hlt := h.lt
  have c20 := h.cpc
  have f20 := h.blk.frozen 20
  obtain ⟨pc, hpce⟩ : ∃ pc, σ.pc = pc := ⟨_, rfl⟩
  rw [hpce] at hpc c20
  have HP := Lib.hid hpce
  clear hpce
  have hBw : B ≤ w.heap.size := Nat.le_trans h.hS (Nat.le_of_lt hlt)
  have n1 : S ≠ w.heap.size := by omega
  have n2 : w.heap.size ≠ S := by omega
  have a' : (a : Int) < 8 := by omega
  have cr0 := h.cr a ha
  have cu := h.cu0
  obtain ⟨A, cap, hvi, hrd⟩ := h.in0
  subst hvi
  have ci := h.ci0
  clear hrd
  obtain ⟨u, hue⟩ : ∃ u, σ.u0 = u := ⟨_, rfl⟩
  obtain ⟨len, hle⟩ : ∃ u, i0.length = u := ⟨_, rfl⟩
  rw [hue] at hu cu
  rw [hle] at hu ci
  clear hue hle
  go_enter Try.func35, Try.ntmps35
  go_wp2_with fail
  go_region_dies
  all_goals
    refine (mw.take_bad S 3 cap 0 u A len _ (by omega) (cell_ad cu) (cell_ad ci) hu).mono ?_
    rintro e w' ⟨rfl, k, rfl⟩
    exact ⟨rfl, rfl, ((h.alloc _).drew.drewN _).ex, below_drewN (((Below.refl _ _).alloc hBw _).drew) _⟩
end mst
end Go.Proofs.Ytpcihajmcejliaa
namespace Go.Proofs.Ytpcihajmcejliaa
open Go.RowKit
open mst
namespace mst
set_option maxRecDepth 100000 in
set_option maxHeartbeats 4000000 in
theorem p16 {w : World} {B S : Nat} {own : Nat → Nat} {cv : Value} {i0 i1 : List Int} {E st : Int} {σ : Mst} {f : Nat → Value} {vl vh vi0 vi1 vc : Value} {g0 g1 : Nat} (h : pm.Mem w B S own cv i0 i1 E st σ f vl vh vi0 vi1 vc g0 g1) (hpc : 0 ≤ σ.pc ∧ σ.pc ≤ 30000) (a : Nat) (ha : a < 8) (hu : σ.u1 < i1.length) (hlen : i1.length ≤ 9223372036854775807) :
    Calls Try.prog 35 #[.pointer (some ⟨S, 0, none⟩), .agg #[.int .i64 16, .int .i64 a, .int .i64 0, .int .i64 0, .int .i64 0]] w (PStep B S cv i0 i1 E st σ w (goOn σ { upd σ a (i1.getD σ.u1 0) with u1 := σ.u1 + 1 })) := by
  have hlt := h.lt
  have c20 := h.cpc
  have f20 := h.blk.frozen 20
  obtain ⟨pc, hpce⟩ : ∃ pc, σ.pc = pc := ⟨_, rfl⟩
  rw [hpce] at hpc c20
  have HP := Lib.hid hpce
  clear hpce
  have hBw : B ≤ w.heap.size := Nat.le_trans h.hS (Nat.le_of_lt hlt)
  have n1 : S ≠ w.heap.size := by omega
  have n2 : w.heap.size ≠ S := by omega
  have a' : (a : Int) < 8 := by omega
  have cr0 := h.cr a ha
  have fa := h.blk.frozen (7 + a)
  have fu := h.blk.frozen 4
  have cu := h.cu1
  obtain ⟨A, cap, hvi, hrd⟩ := h.in1
  obtain ⟨g, hA, hog, hcx⟩ := hrd σ.u1 hu
  subst hvi
  subst hA
  have ci := h.ci1
  obtain ⟨x, hx⟩ : ∃ x, i1.getD σ.u1 0 = x := ⟨_, rfl⟩
  have hx' : i1[σ.u1] = x := by rw [← hx, List.getD_eq_getElem?_getD, List.getElem?_eq_getElem hu]; rfl
  rw [hx'] at hcx
  rw [hx]
  have hgS : g ≠ S := fun e => by rw [e, h.oS] at hog; cases hog
  have hgl : g < w.heap.size := World.block_lt_of_cell? w _ hcx
  have n3 : g ≠ w.heap.size := by omega
  have HX := Lib.hid hx
  clear hx hx' hrd
  obtain ⟨u, hue⟩ : ∃ u, σ.u1 = u := ⟨_, rfl⟩
  obtain ⟨len, hle⟩ : ∃ u, i1.length = u := ⟨_, rfl⟩
  have HU := Lib.hid hue
  have HL := Lib.hid hle
  rw [hue] at hu cu hcx ⊢
  rw [hle] at hu hlen ci
  clear hue hle
  go_enter Try.func35, Try.ntmps35
  go_wp2_with fail
  go_region_held3 (fun w' => w'.cell? ⟨w.heap.size, 0, none⟩ = some (.int .i64 16) ∧ w'.cell? ⟨w.heap.size, 1, none⟩ = some (.int .i64 a) ∧ w'.cell? ⟨w.heap.size, 2, none⟩ = some (.int .i64 0) ∧ w'.cell? ⟨w.heap.size, 3, none⟩ = some (.int .i64 0) ∧ w'.cell? ⟨w.heap.size, 4, none⟩ = some (.int .i64 0))
    (first | exact ⟨box_cell (by simp [World.setCell]) rfl, box_cell (by simp [World.setCell]) rfl, box_cell (by simp [World.setCell]) rfl, box_cell (by simp [World.setCell]) rfl, box_cell (by simp [World.setCell]) rfl⟩ | go_keep)
    ((go_at_call 39; refine (mw.take_ok S 4 cap 1 u x g len _ (by omega) (cell_ad cu) (frozen_ad hlt fu) (cell_ad ci) (by omega) hu hgS (cell_ad hcx) hlen).mono ?_; rintro e w' ⟨rfl, k, rfl⟩))
  rename_i hH
  clear hH
  go_wp2_with fail
  go_end0
  rw [← HP.out, ← HU.out]
  exact ⟨rfl, ((((h.incU1.alloc _).drewN _).setReg a ha x).setPc _).ex, ((below_drewN (((Below.refl _ _).setCell h.hS _).alloc (by simpa using hBw) _) _).setCell h.hS _).setCell h.hS _⟩
set_option maxRecDepth 100000 in
set_option maxHeartbeats 4000000 in
theorem p16x {w : World} {B S : Nat} {own : Nat → Nat} {cv : Value} {i0 i1 : List Int} {E st : Int} {σ : Mst} {f : Nat → Value} {vl vh vi0 vi1 vc : Value} {g0 g1 : Nat} (h : pm.Mem w B S own cv i0 i1 E st σ f vl vh vi0 vi1 vc g0 g1) (hpc : 0 ≤ σ.pc ∧ σ.pc ≤ 30000) (a : Nat) (ha : a < 8) (hu : i1.length ≤ σ.u1) :
    Calls Try.prog 35 #[.pointer (some ⟨S, 0, none⟩), .agg #[.int .i64 16, .int .i64 a, .int .i64 0, .int .i64 0, .int .i64 0]] w (PStep B S cv i0 i1 E st σ w (.error 4)) := by
  have hlt := h.lt
  have c20 := h.cpc
  have f20 := h.blk.frozen 20
  obtain ⟨pc, hpce⟩ : ∃ pc, σ.pc = pc := ⟨_, rfl⟩
  rw [hpce] at hpc c20
  have HP := Lib.hid hpce
  clear hpce
  have hBw : B ≤ w.heap.size := Nat.le_trans h.hS (Nat.le_of_lt hlt)
  have n1 : S ≠ w.heap.size := by omega
  have n2 : w.heap.size ≠ S := by omega
  have a' : (a : Int) < 8 := by omega
  have cr0 := h.cr a ha
  have cu := h.cu1
  obtain ⟨A, cap, hvi, hrd⟩ := h.in1
  subst hvi
  have ci := h.ci1
  clear hrd
  obtain ⟨u, hue⟩ : ∃ u, σ.u1 = u := ⟨_, rfl⟩
  obtain ⟨len, hle⟩ : ∃ u, i1.length = u := ⟨_, rfl⟩
  rw [hue] at hu cu
  rw [hle] at hu ci
  clear hue hle
  go_enter Try.func35, Try.ntmps35
  go_wp2_with fail
  go_region_dies
  all_goals
    refine (mw.take_bad S 4 cap 1 u A len _ (by omega) (cell_ad cu) (cell_ad ci) hu).mono ?_
    rintro e w' ⟨rfl, k, rfl⟩
    exact ⟨rfl, rfl, ((h.alloc _).drew.drewN _).ex, below_drewN (((Below.refl _ _).alloc hBw _).drew) _⟩
end mst
end Go.Proofs.Ytpcihajmcejliaa
namespace Go.Proofs.Ytpcihajmcejliaa
open Go.RowKit
open mst
namespace mst
/-- guarded operations whose guard says no, all at once -/
theorem wpStill_skips {P : Program} {ops : Array Oper} {w : World} {Q : Act → Prop} (j d : Nat) (b : Bool) (hd : (ops[j]?).bind (·.dst) = some d) : ∀ (n : Nat) (l : List Oper) (a : Act), ((l.take n).all fun o => o.guard == some (j, b) && (o.dst != some d)) = true → a.tmps[d]? = some (.bool (!b)) →
    wpStill P ops w Q (l.drop n) ((l.take n).foldl (fun a o => a.put o.dst undef) a) → wpStill P ops w Q l a := by
  intro n
  induction n with
  | zero => intro l a _ _ h; simpa using h
  | succ n ih =>
    intro l a hg hy h
    cases l with
    | nil => simpa using h
    | cons o r =>
      simp only [List.take_succ_cons, List.all_cons, Bool.and_eq_true, beq_iff_eq, bne_iff_ne] at hg
      obtain ⟨⟨g1, g2⟩, g3⟩ := hg
      have hw : Region.wanted o (yielded ops a.tmps) = false := by
        unfold Region.wanted yielded
        rw [g1]
        simp [hd, hy]
      refine wpStill_skip hw (ih r _ g3 ?_ h)
      rw [← hy]
      cases ho : o.dst with
      | none => rfl
      | some d' =>
        have hne : d' ≠ d := fun e => g2 (by rw [ho, e])
        simp only [Act.put]
        rw [Array.getElem?_setIfInBounds_ne hne]
set_option maxRecDepth 100000 in
set_option maxHeartbeats 4000000 in
theorem p10 {w : World} {B S : Nat} {own : Nat → Nat} {cv : Value} {i0 i1 : List Int} {E st : Int} {σ : Mst} {f : Nat → Value} {vl vh vi0 vi1 vc : Value} {g0 g1 : Nat} (h : pm.Mem w B S own cv i0 i1 E st σ f vl vh vi0 vi1 vc g0 g1) (hpc : 0 ≤ σ.pc ∧ σ.pc ≤ 30000) (a : Nat) (n : Int) (ha : a < 8) (h0 : 0 ≤ σ.r a) (h1 : σ.r a < n) :
    Calls Try.prog 35 #[.pointer (some ⟨S, 0, none⟩), .agg #[.int .i64 10, .int .i64 a, .int .i64 0, .int .i64 0, .int .i64 n]] w (PStep B S cv i0 i1 E st σ w (goOn σ σ)) := by
  have hlt := h.lt
  have c20 := h.cpc
  have f20 := h.blk.frozen 20
  obtain ⟨pc, hpce⟩ : ∃ pc, σ.pc = pc := ⟨_, rfl⟩
  rw [hpce] at hpc c20
  have HP := Lib.hid hpce
  clear hpce
  have hBw : B ≤ w.heap.size := Nat.le_trans h.hS (Nat.le_of_lt hlt)
  have a' : (a : Int) < 8 := by omega
  have cr0 := h.cr a ha
  obtain ⟨ra, hra⟩ : ∃ x, σ.r a = x := ⟨_, rfl⟩
  rw [hra] at h0 h1 cr0
  have HA := Lib.hid hra
  clear hra
  have hd0 : decide (0 ≤ ra) = true := by simp; omega
  have hd1 : decide (ra < n) = true := by simp; omega
  go_enter Try.func35, Try.ntmps35
  go_wp2_with fail
  go_quiet ((go_at_call 34; exact Calls.quiet_of_same ((mw.must_true _ _).mono fun _ _ h => ⟨h.1, h.2.symm⟩)))
  go_wp2_with fail
  go_end0
  rw [← HP.out]
  exact ⟨rfl, (((h.alloc _).drewN _).setPc _).ex, (below_drewN ((Below.refl _ _).alloc hBw _) _).setCell h.hS _⟩
set_option maxRecDepth 100000 in
set_option maxHeartbeats 4000000 in
theorem p10x {w : World} {B S : Nat} {own : Nat → Nat} {cv : Value} {i0 i1 : List Int} {E st : Int} {σ : Mst} {f : Nat → Value} {vl vh vi0 vi1 vc : Value} {g0 g1 : Nat} (h : pm.Mem w B S own cv i0 i1 E st σ f vl vh vi0 vi1 vc g0 g1) (hpc : 0 ≤ σ.pc ∧ σ.pc ≤ 30000) (a : Nat) (n : Int) (ha : a < 8) (h0 : σ.r a < 0) :
    Calls Try.prog 35 #[.pointer (some ⟨S, 0, none⟩), .agg #[.int .i64 10, .int .i64 a, .int .i64 0, .int .i64 0, .int .i64 n]] w (PStep B S cv i0 i1 E st σ w (.error 3)) := by
  have hlt := h.lt
  have c20 := h.cpc
  have f20 := h.blk.frozen 20
  obtain ⟨pc, hpce⟩ : ∃ pc, σ.pc = pc := ⟨_, rfl⟩
  rw [hpce] at hpc c20
  have HP := Lib.hid hpce
  clear hpce
  have hBw : B ≤ w.heap.size := Nat.le_trans h.hS (Nat.le_of_lt hlt)
  have a' : (a : Int) < 8 := by omega
  have cr0 := h.cr a ha
  obtain ⟨ra, hra⟩ : ∃ x, σ.r a = x := ⟨_, rfl⟩
  rw [hra] at h0 cr0
  have HA := Lib.hid hra
  clear hra
  have hd0 : decide (0 ≤ ra) = false := by simp; omega
  go_enter Try.func35, Try.ntmps35
  go_wp2_with fail
  refine region_tail 18 mw.mixed (by kernel_rfl) ?_
  simp only [List.take_succ_cons, List.take_zero, List.drop_succ_cons, List.drop_zero]
  iterate 7 still_step
  refine wpStill_step (fun K hK => ?_)
  go_simp
  generalize hO : List.toArray _ = OPS at hK
  have h7 : (OPS[7]?).bind (·.dst) = some 140 := by rw [← hO]; rfl
  refine hK _ (wpStill_skips 7 140 true h7 9 _ _ (by kernel_rfl) rfl ?_)
  clear hK
  simp only [List.drop_succ_cons, List.drop_zero, List.take_succ_cons, List.take_zero, List.foldl_cons, List.foldl_nil, Act.put, List.setIfInBounds_toArray, List.set_cons_zero, List.set_cons_succ]
  still_step
  refine wpStill_nil ?_
  subst hO
  go_wp2_with fail
  refine (mw.must_false _ _).mono ?_
  rintro e w' ⟨rfl, rfl⟩
  go_wp2_with fail
  exact ⟨rfl, rfl, (h.alloc _).drew.ex, ((Below.refl _ _).alloc hBw _).drew⟩
set_option maxRecDepth 100000 in
set_option maxHeartbeats 4000000 in
theorem p10y {w : World} {B S : Nat} {own : Nat → Nat} {cv : Value} {i0 i1 : List Int} {E st : Int} {σ : Mst} {f : Nat → Value} {vl vh vi0 vi1 vc : Value} {g0 g1 : Nat} (h : pm.Mem w B S own cv i0 i1 E st σ f vl vh vi0 vi1 vc g0 g1) (hpc : 0 ≤ σ.pc ∧ σ.pc ≤ 30000) (a : Nat) (n : Int) (ha : a < 8) (h0 : 0 ≤ σ.r a) (h1 : n ≤ σ.r a) :
    Calls Try.prog 35 #[.pointer (some ⟨S, 0, none⟩), .agg #[.int .i64 10, .int .i64 a, .int .i64 0, .int .i64 0, .int .i64 n]] w (PStep B S cv i0 i1 E st σ w (.error 3)) := by
  have hlt := h.lt
  have c20 := h.cpc
  have f20 := h.blk.frozen 20
  obtain ⟨pc, hpce⟩ : ∃ pc, σ.pc = pc := ⟨_, rfl⟩
  rw [hpce] at hpc c20
  have HP := Lib.hid hpce
  clear hpce
  have hBw : B ≤ w.heap.size := Nat.le_trans h.hS (Nat.le_of_lt hlt)
  have a' : (a : Int) < 8 := by omega
  have cr0 := h.cr a ha
  obtain ⟨ra, hra⟩ : ∃ x, σ.r a = x := ⟨_, rfl⟩
  rw [hra] at h0 h1 cr0
  have HA := Lib.hid hra
  clear hra
  have hd : decide (ra < n) = false := by simp; omega
  have hd1 : ¬ ra < n := by omega
  go_enter Try.func35, Try.ntmps35
  go_wp2_with fail
  refine region_tail 18 mw.mixed (by kernel_rfl) ?_
  simp only [List.take_succ_cons, List.take_zero, List.drop_succ_cons, List.drop_zero]
  repeat still_step
  refine wpStill_nil ?_
  go_wp2_with fail
  refine (mw.must_false _ _).mono ?_
  rintro e w' ⟨rfl, rfl⟩
  go_wp2_with fail
  exact ⟨rfl, rfl, (h.alloc _).drew.ex, ((Below.refl _ _).alloc hBw _).drew⟩
end mst
end Go.Proofs.Ytpcihajmcejliaa
namespace Go.Proofs.Ytpcihajmcejliaa
open Go.RowKit
open mst
namespace mst
set_option maxRecDepth 100000 in
set_option maxHeartbeats 4000000 in
theorem p12 {w : World} {B S : Nat} {own : Nat → Nat} {cv : Value} {i0 i1 : List Int} {E st : Int} {σ : Mst} {f : Nat → Value} {vl vh vi0 vi1 vc : Value} {g0 g1 : Nat} (h : pm.Mem w B S own cv i0 i1 E st σ f vl vh vi0 vi1 vc g0 g1) (hpc : 0 ≤ σ.pc ∧ σ.pc ≤ 30000) (hn : σ.calls.length ≠ 0) (hc : σ.calls.length ≤ 30) :
    Calls Try.prog 35 #[.pointer (some ⟨S, 0, none⟩), .agg #[.int .i64 12, .int .i64 0, .int .i64 0, .int .i64 0, .int .i64 0]] w (PStep B S cv i0 i1 E st σ w (.ok { σ with calls := σ.calls.take (σ.calls.length - 1), pc := σ.calls.getD (σ.calls.length - 1) 0 })) := by
  have hlt := h.lt
  have c20 := h.cpc
  have f20 := h.blk.frozen 20
  obtain ⟨pc, hpce⟩ : ∃ pc, σ.pc = pc := ⟨_, rfl⟩
  rw [hpce] at hpc c20
  have HP := Lib.hid hpce
  clear hpce
  have hBw : B ≤ w.heap.size := Nat.le_trans h.hS (Nat.le_of_lt hlt)
  have n1 : S ≠ w.heap.size := by omega
  have n2 : w.heap.size ≠ S := by omega
  obtain ⟨g, cap, hvc, hgB, hglt⟩ := h.cl.1.form (by omega)
  subst hvc
  have c19 := h.ccl
  have f19 := h.blk.frozen 19
  obtain ⟨m, hm⟩ : ∃ m, σ.calls.length = m + 1 := ⟨σ.calls.length - 1, by omega⟩
  have cx := h.cl.1.cellAt m (by omega)
  obtain ⟨x, hx⟩ : ∃ x, σ.calls.getD m 0 = x := ⟨_, rfl⟩
  have hx' : (ints σ.calls)[m]? = some (.int .i64 x) := by
    rw [← hx]; simp [ints, List.getD_eq_getElem?_getD, hm]
  rw [hx'] at cx
  rw [show σ.calls.length - 1 = m from by omega, hx]
  have hcap : m + 1 ≤ cap := by
    rcases h.cl.1.2 with ⟨hh, _⟩ | ⟨g', cap', cur, hv, _, _, hnc, _⟩
    · simp at hh
    · simp only [Value.slice.injEq] at hv; omega
  rw [hm] at c19 hc hn
  have hm30 : m ≤ 30 := by omega
  have hgS : g ≠ S := by
    intro e
    have := h.cl.2 g rfl
    rw [e, h.oS] at this
    cases this
  have hcapi : (m : Int) ≤ (cap : Int) := by omega
  have HM := Lib.hid hm
  clear hm hx hx' hn hc
  go_enter Try.func35, Try.ntmps35
  go_wp2_with fail
  refine (mw.must_true _ _).mono ?_
  rintro e w' ⟨rfl, rfl⟩
  go_wp2_with fail
  go_end0
  exact ⟨rfl, (((h.back (m := m) (by rw [HM.out])).setPc x).alloc _).ex, (((Below.refl _ _).setCell h.hS _).setCell h.hS _).alloc (by simpa using hBw) _⟩
set_option maxRecDepth 100000 in
set_option maxHeartbeats 4000000 in
theorem p12x {w : World} {B S : Nat} {own : Nat → Nat} {cv : Value} {i0 i1 : List Int} {E st : Int} {σ : Mst} {f : Nat → Value} {vl vh vi0 vi1 vc : Value} {g0 g1 : Nat} (h : pm.Mem w B S own cv i0 i1 E st σ f vl vh vi0 vi1 vc g0 g1) (hpc : 0 ≤ σ.pc ∧ σ.pc ≤ 30000) (hn : σ.calls.length = 0) :
    Calls Try.prog 35 #[.pointer (some ⟨S, 0, none⟩), .agg #[.int .i64 12, .int .i64 0, .int .i64 0, .int .i64 0, .int .i64 0]] w (PStep B S cv i0 i1 E st σ w (.error 6)) := by
  have hlt := h.lt
  have c20 := h.cpc
  have f20 := h.blk.frozen 20
  obtain ⟨pc, hpce⟩ : ∃ pc, σ.pc = pc := ⟨_, rfl⟩
  rw [hpce] at hpc c20
  have HP := Lib.hid hpce
  clear hpce
  have hBw : B ≤ w.heap.size := Nat.le_trans h.hS (Nat.le_of_lt hlt)
  have n1 : S ≠ w.heap.size := by omega
  have n2 : w.heap.size ≠ S := by omega
  obtain ⟨A, c, hvc⟩ : ∃ A c, vc = .slice A 0 c := by
    rcases h.cl.1.2 with ⟨hh, _⟩ | ⟨g', cap', cur, hv, _⟩
    · exact ⟨_, _, hh⟩
    · exact ⟨_, _, by rw [hv, hn]⟩
  subst hvc
  have c19 := h.ccl
  clear hn
  go_enter Try.func35, Try.ntmps35
  go_wp2_with fail
  refine (mw.must_false _ _).mono ?_
  rintro e w' ⟨rfl, rfl⟩
  go_wp2_with fail
  exact ⟨rfl, rfl, (h.alloc _).ex, ((Below.refl _ _).alloc hBw _)⟩
end mst
end Go.Proofs.Ytpcihajmcejliaa
namespace Go.Proofs.Ytpcihajmcejliaa
open Go.RowKit
open mst
namespace mst
set_option maxRecDepth 100000 in
set_option maxHeartbeats 4000000 in
theorem p17 {w : World} {B S : Nat} {own : Nat → Nat} {cv : Value} {i0 i1 : List Int} {E st : Int} {σ : Mst} {f : Nat → Value} {vl vh vi0 vi1 vc : Value} {g0 g1 : Nat} (h : pm.Mem w B S own cv i0 i1 E st σ f vl vh vi0 vi1 vc g0 g1) (hpc : 0 ≤ σ.pc ∧ σ.pc ≤ 30000) :
    Calls Try.prog 35 #[.pointer (some ⟨S, 0, none⟩), .agg #[.int .i64 17, .int .i64 0, .int .i64 0, .int .i64 0, .int .i64 0]] w (PStep B S cv i0 i1 E st σ w (.error 1)) := by
  have hlt := h.lt
  have c20 := h.cpc
  have f20 := h.blk.frozen 20
  obtain ⟨pc, hpce⟩ : ∃ pc, σ.pc = pc := ⟨_, rfl⟩
  rw [hpce] at hpc c20
  have HP := Lib.hid hpce
  clear hpce
  have hBw : B ≤ w.heap.size := Nat.le_trans h.hS (Nat.le_of_lt hlt)
  go_enter Try.func35, Try.ntmps35
  go_wp2_with fail
  exact ⟨rfl, rfl, (h.alloc _).ex, ((Below.refl _ _).alloc hBw _)⟩
end mst
end Go.Proofs.Ytpcihajmcejliaa
