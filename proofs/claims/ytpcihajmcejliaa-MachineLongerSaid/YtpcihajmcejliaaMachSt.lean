/- What a machine is in memory: the program's state, and the reference's; and what stays when something is written. No walk here. -/
import Derived.Test.YtpcihajmcejliaaMachMayB
import Derived.Deep.OwnRows
import Derived.Deep.AppendLies
namespace Go.Proofs.Ytpcihajmcejliaa
open Go.RowKit
/-- a machine, but for how it ends and how many steps it has done -/
structure Mst where
  r : Nat → Int
  lo : List Int
  hi : List Int
  calls : List Int
  pc : Int
  o0 : List Int
  o1 : List Int
  u0 : Nat
  u1 : Nat
def upd (σ : Mst) (a : Nat) (v : Int) : Mst := { σ with r := fun j => if j = a then v else σ.r j }
def goOn (σ τ : Mst) : Except Int Mst := .ok { τ with pc := σ.pc + 1 }
/-- an order: the machine behind it, or how the run ends there -/
def stepF (i0 i1 : List Int) (σ : Mst) (i : Ins) : Except Int Mst :=
  let a := i.a.toNat
  let b := i.b.toNat
  let at_ := wrap64 (σ.r b + i.n)
  if i.op = 1 then goOn σ (upd σ a i.n)
  else if i.op = 2 then goOn σ (upd σ a (σ.r b))
  else if i.op = 3 then goOn σ (upd σ a at_)
  else if i.op = 4 then (if 0 ≤ at_ ∧ at_ < σ.lo.length then goOn σ (upd σ a (σ.lo.getD at_.toNat 0)) else .error 6)
  else if i.op = 5 then (if 0 ≤ at_ ∧ at_ < σ.hi.length then goOn σ (upd σ a (σ.hi.getD at_.toNat 0)) else .error 6)
  else if i.op = 6 then (if 0 ≤ at_ ∧ at_ < σ.lo.length then goOn σ { σ with lo := σ.lo.set at_.toNat (σ.r a) } else .error 6)
  else if i.op = 7 then (if 0 ≤ at_ ∧ at_ < σ.hi.length then goOn σ { σ with hi := σ.hi.set at_.toNat (σ.r a) } else .error 6)
  else if i.op = 8 then .ok { σ with pc := i.n }
  else if i.op = 9 then .ok { σ with pc := if σ.r a = 0 then i.n else σ.pc + 1 }
  else if i.op = 10 then (if 0 ≤ σ.r a ∧ σ.r a < i.n then goOn σ σ else .error 3)
  else if i.op = 11 then (if σ.calls.length < 30 then .ok { σ with calls := σ.calls ++ [σ.pc + 1], pc := i.n } else .error 5)
  else if i.op = 12 then (if σ.calls.length = 0 then .error 6 else .ok { σ with calls := σ.calls.take (σ.calls.length - 1), pc := σ.calls.getD (σ.calls.length - 1) 0 })
  else if i.op = 13 then goOn σ { σ with o0 := σ.o0 ++ [σ.r a] }
  else if i.op = 14 then goOn σ { σ with o1 := σ.o1 ++ [σ.r a] }
  else if i.op = 15 then (if σ.u0 < i0.length then goOn σ { upd σ a (i0.getD σ.u0 0) with u0 := σ.u0 + 1 } else .error 4)
  else if i.op = 16 then (if σ.u1 < i1.length then goOn σ { upd σ a (i1.getD σ.u1 0) with u1 := σ.u1 + 1 } else .error 4)
  else if i.op = 17 then .error 1
  else if (opF (i.op - 20) (σ.r b) (σ.r i.c.toNat)).2 then goOn σ (upd σ a (opF (i.op - 20) (σ.r b) (σ.r i.c.toNat)).1) else .error 2
def ints (l : List Int) : List Value := l.map (.int .i64)
namespace mst
/-- w' is w but for blocks with the tag t, and new ones -/
structure Agree (own : Nat → Nat) (t : Nat) (w w' : World) : Prop where
  size : w.heap.size ≤ w'.heap.size
  block : ∀ k, k < w.heap.size → own k ≠ t → w'.heap[k]? = w.heap[k]?
theorem Agree.refl (own : Nat → Nat) (t : Nat) (w : World) : Agree own t w w := ⟨Nat.le_refl _, fun _ _ _ => rfl⟩
theorem Agree.alloc (own : Nat → Nat) (t : Nat) (w : World) (o : Obj) : Agree own t w (w.alloc o) := ⟨by simp, fun k hk _ => Below.heap_alloc w o k hk⟩
theorem Agree.drew (own : Nat → Nat) (t : Nat) (w : World) : Agree own t w w.drew := ⟨Nat.le_refl _, fun _ _ _ => rfl⟩
theorem Agree.drewN (own : Nat → Nat) (t : Nat) (w : World) (n : Nat) : Agree own t w (w.drewN n) := ⟨Nat.le_refl _, fun _ _ _ => rfl⟩
theorem Agree.setCell {own : Nat → Nat} {t : Nat} {w : World} {p : Addr} (h : own p.block = t) (v : Value) : Agree own t w (w.setCell p v) :=
  ⟨by simp [World.setCell], fun k _ hk => Below.heap_setCell w p v k (fun e => hk (by rw [e]; exact h))⟩
theorem Agree.grown {own : Nat → Nat} {t : Nat} {w w' : World} {row : Option Nat} (h : w.grownBy w' row) (hr : ∀ g, row = some g → own g = t) : Agree own t w w' :=
  ⟨h.size, fun k hk hne => h.block k hk (fun e => hne (hr k e.symm))⟩
def Tag (own : Nat → Nat) (t : Nat) (v : Value) : Prop := ∀ g, v.ownBlock = some g → own g = t
/-- a slice of numbers that is only read -/
def In (w : World) (own : Nat → Nat) (t : Nat) (v : Value) (l : List Int) : Prop :=
  ∃ A c, v = .slice A l.length c ∧ ∀ k (hk : k < l.length), ∃ g, A = some ⟨g, 0, none⟩ ∧ own g = t ∧ w.cell? ⟨g, k, none⟩ = some (.int .i64 l[k])
theorem In.keep {w w' : World} {own : Nat → Nat} {t t' : Nat} {v : Value} {l : List Int} (h : In w own t v l) (ha : Agree own t' w w') (hne : t ≠ t') : In w' own t v l := by
  obtain ⟨A, c, hv, hr⟩ := h
  refine ⟨A, c, hv, fun k hk => ?_⟩
  obtain ⟨g, hA, ho, hc⟩ := hr k hk
  refine ⟨g, hA, ho, ?_⟩
  have hlt := World.block_lt_of_cell? w _ hc
  rw [World.cell?_of_block (w := w) (ha.block g hlt (by rw [ho]; exact hne))]
  exact hc
/-- a slice of numbers that is only read, wherever it begins -/
def InO (w : World) (own : Nat → Nat) (t : Nat) (v : Value) (l : List Int) : Prop :=
  ∃ A c, v = .slice A l.length c ∧ ∀ k (hk : k < l.length), ∃ g o, A = some ⟨g, o, none⟩ ∧ own g = t ∧ w.cell? ⟨g, o + k, none⟩ = some (.int .i64 l[k])
theorem InO.keep {w w' : World} {own : Nat → Nat} {t t' : Nat} {v : Value} {l : List Int} (h : InO w own t v l) (ha : Agree own t' w w') (hne : t ≠ t') : InO w' own t v l := by
  obtain ⟨A, c, hv, hr⟩ := h
  refine ⟨A, c, hv, fun k hk => ?_⟩
  obtain ⟨g, o, hA, ho, hc⟩ := hr k hk
  refine ⟨g, o, hA, ho, ?_⟩
  have hlt := World.block_lt_of_cell? w _ hc
  rw [World.cell?_of_block (w := w) (ha.block g hlt (by rw [ho]; exact hne))]
  exact hc
theorem rowIs_keep {w w' : World} {own : Nat → Nat} {t' : Nat} {b T n : Nat} {f : Nat → Value} (h : w.rowIs b T n f) (ha : Agree own t' w w') (hne : own b ≠ t') : w'.rowIs b T n f :=
  h.of_block (ha.block b h.lt hne)
theorem own_keep {w w' : World} {own : Nat → Nat} {t t' : Nat} {B T n : Nat} {v : Value} {xs : List Value} (h : w.ownsRow B T 1 v n xs) (ht : Tag own t v) (ha : Agree own t' w w') (hne : t ≠ t') : w'.ownsRow B T 1 v n xs := by
  refine ⟨h.1, ?_⟩
  rcases h.2 with hn | ⟨g, cap, cur, rfl, hb, hg, rest⟩
  · exact .inl hn
  · refine .inr ⟨g, cap, cur, rfl, hb, ?_, rest⟩
    have ho := ht g rfl
    rw [ha.block g (Array.getElem?_eq_some_iff.1 hg).1 (by rw [ho]; exact hne)]
    exact hg
def withOwn (own : Nat → Nat) (g t : Nat) : Nat → Nat := fun k => if k = g then t else own k
theorem In.own {w : World} {own : Nat → Nat} {t g t' : Nat} {v : Value} {l : List Int} (h : In w own t v l) (hg : w.heap.size ≤ g ∨ own g = t') (hne : t ≠ t' ) : In w (withOwn own g t') t v l := by
  obtain ⟨A, c, hv, hr⟩ := h
  refine ⟨A, c, hv, fun k hk => ?_⟩
  obtain ⟨g', hA, ho, hc⟩ := hr k hk
  refine ⟨g', hA, ?_, hc⟩
  have hlt : g' < w.heap.size := World.block_lt_of_cell? w _ hc
  unfold withOwn
  rw [if_neg]
  · exact ho
  · rintro rfl
    rcases hg with hg | hg
    · omega
    · exact hne (ho.symm.trans hg)
theorem InO.own {w : World} {own : Nat → Nat} {t g t' : Nat} {v : Value} {l : List Int} (h : InO w own t v l) (hg : w.heap.size ≤ g ∨ own g = t') (hne : t ≠ t' ) : InO w (withOwn own g t') t v l := by
  obtain ⟨A, c, hv, hr⟩ := h
  refine ⟨A, c, hv, fun k hk => ?_⟩
  obtain ⟨g', o', hA, ho, hc⟩ := hr k hk
  refine ⟨g', o', hA, ?_, hc⟩
  have hlt : g' < w.heap.size := World.block_lt_of_cell? w _ hc
  unfold withOwn
  rw [if_neg]
  · exact ho
  · rintro rfl
    rcases hg with hg | hg
    · omega
    · exact hne (ho.symm.trans hg)
theorem tag_own {w : World} {own : Nat → Nat} {t g t' : Nat} {B T n : Nat} {v : Value} {xs : List Value} (h : w.ownsRow B T 1 v n xs) (ht : Tag own t v) (hg : w.heap.size ≤ g ∨ own g = t') (hne : t ≠ t') : Tag (withOwn own g t') t v := by
  intro k hk
  have hlt := (h.lt k hk).2
  have ho := ht k hk
  unfold withOwn
  rw [if_neg]
  · exact ho
  · rintro rfl
    rcases hg with hg | hg
    · omega
    · exact hne (ho.symm.trans hg)
theorem row_own {w : World} {own : Nat → Nat} {t g t' : Nat} {b T n : Nat} {f : Nat → Value} (h : w.rowIs b T n f) (ho : own b = t) (hg : w.heap.size ≤ g ∨ own g = t') (hne : t ≠ t') : withOwn own g t' b = t := by
  have hlt := h.lt
  unfold withOwn
  rw [if_neg]
  · exact ho
  · rintro rfl
    rcases hg with hg | hg
    · omega
    · exact hne (ho.symm.trans hg)
theorem ints_set (l : List Int) (k : Nat) (v : Int) : (ints l).set k (.int .i64 v) = ints (l.set k v) := by simp [ints, List.map_set]
theorem ints_len (l : List Int) : (ints l).length = l.length := by simp [ints]
/-- a memory of words -/
def Words (w : World) (own : Nat → Nat) (t B g : Nat) (l : List Int) : Prop := w.rowIs g 2 l.length (fun j => .int .i64 (l.getD j 0)) ∧ own g = t ∧ B ≤ g
theorem Words.keep {w w' : World} {own : Nat → Nat} {t t' B g : Nat} {l : List Int} (h : Words w own t B g l) (ha : Agree own t' w w') (hne : t ≠ t') : Words w' own t B g l :=
  ⟨rowIs_keep h.1 ha (by rw [h.2.1]; exact hne), h.2⟩
theorem Words.own {w : World} {own : Nat → Nat} {t t' B g g' : Nat} {l : List Int} (h : Words w own t B g l) (hg : w.heap.size ≤ g' ∨ own g' = t') (hne : t ≠ t') : Words w (withOwn own g' t') t B g l :=
  ⟨h.1, row_own h.1 h.2.1 hg hne, h.2.2⟩
theorem Words.store {w : World} {own : Nat → Nat} {t B g : Nat} {l : List Int} (h : Words w own t B g l) (k : Nat) (v : Int) : Words (w.setCell ⟨g, k, none⟩ (.int .i64 v)) own t B g (l.set k v) := by
  refine ⟨?_, h.2⟩
  rw [List.length_set]
  refine (h.1.set k (.int .i64 v)).congr fun j hj => ?_
  by_cases e : j = k
  · subst e
    simp [List.getD_eq_getElem?_getD, hj]
  · have e' : ¬ k = j := fun x => e x.symm
    simp [List.getD_eq_getElem?_getD, e, e']
theorem Words.cell {w : World} {own : Nat → Nat} {t B g : Nat} {l : List Int} (h : Words w own t B g l) {k : Nat} (hk : k < l.length) : w.cell? ⟨g, k, none⟩ = some (.int .i64 (l.getD k 0)) := h.1.cell hk
/-- an output, or the calls: a slice that grows -/
def Out (w : World) (own : Nat → Nat) (t B T : Nat) (v : Value) (l : List Int) : Prop := w.ownsRow B T 1 v l.length (ints l) ∧ Tag own t v
theorem Out.keep {w w' : World} {own : Nat → Nat} {t t' B T : Nat} {v : Value} {l : List Int} (h : Out w own t B T v l) (ha : Agree own t' w w') (hne : t ≠ t') : Out w' own t B T v l :=
  ⟨own_keep h.1 h.2 ha hne, h.2⟩
theorem Out.own {w : World} {own : Nat → Nat} {t t' B T g : Nat} {v : Value} {l : List Int} (h : Out w own t B T v l) (hg : w.heap.size ≤ g ∨ own g = t') (hne : t ≠ t') : Out w (withOwn own g t') t B T v l :=
  ⟨h.1, tag_own h.1 h.2 hg hne⟩
theorem tagRow {own : Nat → Nat} {t : Nat} {v : Value} (h : Tag own t v) (g : Nat) : ∀ k, v.ownBlock = some k → withOwn own g t k = t := by
  intro k hk
  unfold withOwn
  split
  · rfl
  · exact h k hk
theorem out_back {w : World} {own : Nat → Nat} {t B T : Nat} {vc : Value} {l : List Int} {A : Option Addr} {m c : Nat} (h : Out w own t B T vc l) (hv : vc = .slice A (m + 1) c) : Out w own t B T (.slice A m c) (l.take m) := by
  subst hv
  rcases h.1.2 with ⟨hn, _⟩ | ⟨g, cap, cur, hv, hb, hg, hnc, hcm, hcs, htake⟩
  · simp at hn
  · simp only [Value.slice.injEq] at hv
    obtain ⟨rfl, hm, rfl⟩ := hv
    have hlen : (l.take m).length = m := by simp; omega
    refine ⟨⟨by rw [hlen, ints_len, hlen, Nat.mul_one], .inr ⟨g, c, cur, by rw [hlen], hb, hg, by omega, hcm, hcs, ?_⟩⟩, fun k hk => h.2 k (by simpa [Value.ownBlock] using hk)⟩
    rw [hlen, Nat.mul_one]
    have h1 : ints (l.take m) = (ints l).take m := by simp [ints, List.map_take]
    rw [h1, ← htake, List.take_take]
    congr 1
    omega
namespace pm
/-- the variable behind the state, that points to it -/
def Bx (w : World) (own : Nat → Nat) (S : Nat) : Prop := w.rowIs (S + 1) 55 1 (fun _ => .pointer (some ⟨S, 0, none⟩)) ∧ own (S + 1) = 9
theorem Bx.keep {w w' : World} {own : Nat → Nat} {t' S : Nat} (h : Bx w own S) (ha : Agree own t' w w') (hne : 9 ≠ t') : Bx w' own S :=
  ⟨rowIs_keep h.1 ha (by rw [h.2]; exact hne), h.2⟩
theorem Bx.own {w : World} {own : Nat → Nat} {t' S g' : Nat} (h : Bx w own S) (hg : w.heap.size ≤ g' ∨ own g' = t') (hne : 9 ≠ t') : Bx w (withOwn own g' t') S :=
  ⟨h.1, row_own h.1 h.2 hg hne⟩
/-- the state's block, field by field -/
structure Cells (f : Nat → Value) (σ : Mst) (E st : Int) (vl vh vi0 vi1 vc : Value) (g0 g1 : Nat) (cv : Value) : Prop where
  en : f 0 = .int .i64 E
  lw : f 1 = vl
  hg : f 2 = vh
  u0 : f 3 = .int .i64 σ.u0
  u1 : f 4 = .int .i64 σ.u1
  st : f 5 = .int .i64 st
  w0 : f 15 = .slice (some ⟨g0, 0, none⟩) σ.lo.length σ.lo.length
  w1 : f 16 = .slice (some ⟨g1, 0, none⟩) σ.hi.length σ.hi.length
  i0 : f 17 = vi0
  i1 : f 18 = vi1
  cl : f 19 = vc
  pc : f 20 = .int .i64 σ.pc
  cd : f 6 = cv
  rg : ∀ j, j < 8 → f (7 + j) = .int .i64 (σ.r j)
/-- the machine in memory -/
structure Mem (w : World) (B S : Nat) (own : Nat → Nat) (cv : Value) (i0 i1 : List Int) (E st : Int) (σ : Mst) (f : Nat → Value) (vl vh vi0 vi1 vc : Value) (g0 g1 : Nat) : Prop where
  blk : w.rowIs S 60 21 f
  oS : own S = 0
  hS : B ≤ S
  fs : Cells f σ E st vl vh vi0 vi1 vc g0 g1 cv
  lo : Words w own 1 B g0 σ.lo
  hi : Words w own 2 B g1 σ.hi
  ol : Out w own 3 B 2 vl σ.o0
  oh : Out w own 4 B 2 vh σ.o1
  in0 : In w own 5 vi0 i0
  in1 : In w own 6 vi1 i1
  cl : Out w own 7 B 3 vc σ.calls
  bx : Bx w own S
section
variable {w : World} {B S : Nat} {own : Nat → Nat} {cv : Value} {i0 i1 : List Int} {E st : Int} {σ : Mst} {f : Nat → Value} {vl vh vi0 vi1 vc : Value} {g0 g1 : Nat}
theorem Mem.alloc (h : Mem w B S own cv i0 i1 E st σ f vl vh vi0 vi1 vc g0 g1) (o : Obj) : Mem (w.alloc o) B S own cv i0 i1 E st σ f vl vh vi0 vi1 vc g0 g1 := by
  have ha := Agree.alloc own 99 w o
  exact ⟨rowIs_keep h.blk ha (by rw [h.oS]; decide), h.oS, h.hS, h.fs, h.lo.keep ha (by decide), h.hi.keep ha (by decide), h.ol.keep ha (by decide), h.oh.keep ha (by decide), h.in0.keep ha (by decide), h.in1.keep ha (by decide), h.cl.keep ha (by decide), h.bx.keep ha (by decide)⟩
theorem Mem.drew (h : Mem w B S own cv i0 i1 E st σ f vl vh vi0 vi1 vc g0 g1)  : Mem w.drew B S own cv i0 i1 E st σ f vl vh vi0 vi1 vc g0 g1 := by
  have ha := Agree.drew own 99 w
  exact ⟨rowIs_keep h.blk ha (by rw [h.oS]; decide), h.oS, h.hS, h.fs, h.lo.keep ha (by decide), h.hi.keep ha (by decide), h.ol.keep ha (by decide), h.oh.keep ha (by decide), h.in0.keep ha (by decide), h.in1.keep ha (by decide), h.cl.keep ha (by decide), h.bx.keep ha (by decide)⟩
theorem Mem.drewN (h : Mem w B S own cv i0 i1 E st σ f vl vh vi0 vi1 vc g0 g1) (n : Nat) : Mem (w.drewN n) B S own cv i0 i1 E st σ f vl vh vi0 vi1 vc g0 g1 := by
  have ha := Agree.drewN own 99 w n
  exact ⟨rowIs_keep h.blk ha (by rw [h.oS]; decide), h.oS, h.hS, h.fs, h.lo.keep ha (by decide), h.hi.keep ha (by decide), h.ol.keep ha (by decide), h.oh.keep ha (by decide), h.in0.keep ha (by decide), h.in1.keep ha (by decide), h.cl.keep ha (by decide), h.bx.keep ha (by decide)⟩
theorem Mem.setPc (h : Mem w B S own cv i0 i1 E st σ f vl vh vi0 vi1 vc g0 g1) (v : Int) : Mem (w.setCell ⟨S, 20, none⟩ (.int .i64 v)) B S own cv i0 i1 E st { σ with pc := v } (fun j => if j = 20 then .int .i64 v else f j) vl vh vi0 vi1 vc g0 g1 := by
  have ha := Agree.setCell (own := own) (t := 0) (w := w) (p := ⟨S, 20, none⟩) h.oS (.int .i64 v)
  exact ⟨h.blk.set 20 _, h.oS, h.hS, ⟨by simpa using h.fs.en, by simpa using h.fs.lw, by simpa using h.fs.hg, by simpa using h.fs.u0, by simpa using h.fs.u1, by simpa using h.fs.st, by simpa using h.fs.w0, by simpa using h.fs.w1, by simpa using h.fs.i0, by simpa using h.fs.i1, by simpa using h.fs.cl, by simp, by simpa using h.fs.cd, fun j hj => by have := h.fs.rg j hj; (try simp only []); rw [if_neg (by omega)]; exact this⟩, h.lo.keep ha (by decide), h.hi.keep ha (by decide), h.ol.keep ha (by decide), h.oh.keep ha (by decide), h.in0.keep ha (by decide), h.in1.keep ha (by decide), h.cl.keep ha (by decide), h.bx.keep ha (by decide)⟩
theorem Mem.setSt (h : Mem w B S own cv i0 i1 E st σ f vl vh vi0 vi1 vc g0 g1) (v : Int) : Mem (w.setCell ⟨S, 5, none⟩ (.int .i64 v)) B S own cv i0 i1 E v σ (fun j => if j = 5 then .int .i64 v else f j) vl vh vi0 vi1 vc g0 g1 := by
  have ha := Agree.setCell (own := own) (t := 0) (w := w) (p := ⟨S, 5, none⟩) h.oS (.int .i64 v)
  exact ⟨h.blk.set 5 _, h.oS, h.hS, ⟨by simpa using h.fs.en, by simpa using h.fs.lw, by simpa using h.fs.hg, by simpa using h.fs.u0, by simpa using h.fs.u1, by simp, by simpa using h.fs.w0, by simpa using h.fs.w1, by simpa using h.fs.i0, by simpa using h.fs.i1, by simpa using h.fs.cl, by simpa using h.fs.pc, by simpa using h.fs.cd, fun j hj => by have := h.fs.rg j hj; (try simp only []); rw [if_neg (by omega)]; exact this⟩, h.lo.keep ha (by decide), h.hi.keep ha (by decide), h.ol.keep ha (by decide), h.oh.keep ha (by decide), h.in0.keep ha (by decide), h.in1.keep ha (by decide), h.cl.keep ha (by decide), h.bx.keep ha (by decide)⟩
theorem Mem.setEn (h : Mem w B S own cv i0 i1 E st σ f vl vh vi0 vi1 vc g0 g1) (v : Int) : Mem (w.setCell ⟨S, 0, none⟩ (.int .i64 v)) B S own cv i0 i1 v st σ (fun j => if j = 0 then .int .i64 v else f j) vl vh vi0 vi1 vc g0 g1 := by
  have ha := Agree.setCell (own := own) (t := 0) (w := w) (p := ⟨S, 0, none⟩) h.oS (.int .i64 v)
  exact ⟨h.blk.set 0 _, h.oS, h.hS, ⟨by simp, by simpa using h.fs.lw, by simpa using h.fs.hg, by simpa using h.fs.u0, by simpa using h.fs.u1, by simpa using h.fs.st, by simpa using h.fs.w0, by simpa using h.fs.w1, by simpa using h.fs.i0, by simpa using h.fs.i1, by simpa using h.fs.cl, by simpa using h.fs.pc, by simpa using h.fs.cd, fun j hj => by have := h.fs.rg j hj; (try simp only []); rw [if_neg (by omega)]; exact this⟩, h.lo.keep ha (by decide), h.hi.keep ha (by decide), h.ol.keep ha (by decide), h.oh.keep ha (by decide), h.in0.keep ha (by decide), h.in1.keep ha (by decide), h.cl.keep ha (by decide), h.bx.keep ha (by decide)⟩
theorem Mem.incU0 (h : Mem w B S own cv i0 i1 E st σ f vl vh vi0 vi1 vc g0 g1) : Mem (w.setCell ⟨S, 3, none⟩ (.int .i64 (σ.u0 + 1))) B S own cv i0 i1 E st { σ with u0 := σ.u0 + 1 } (fun j => if j = 3 then .int .i64 (σ.u0 + 1) else f j) vl vh vi0 vi1 vc g0 g1 := by
  have ha := Agree.setCell (own := own) (t := 0) (w := w) (p := ⟨S, 3, none⟩) h.oS (.int .i64 (σ.u0 + 1))
  exact ⟨h.blk.set 3 _, h.oS, h.hS, ⟨by simpa using h.fs.en, by simpa using h.fs.lw, by simpa using h.fs.hg, by simp, by simpa using h.fs.u1, by simpa using h.fs.st, by simpa using h.fs.w0, by simpa using h.fs.w1, by simpa using h.fs.i0, by simpa using h.fs.i1, by simpa using h.fs.cl, by simpa using h.fs.pc, by simpa using h.fs.cd, fun j hj => by have := h.fs.rg j hj; (try simp only []); rw [if_neg (by omega)]; exact this⟩, h.lo.keep ha (by decide), h.hi.keep ha (by decide), h.ol.keep ha (by decide), h.oh.keep ha (by decide), h.in0.keep ha (by decide), h.in1.keep ha (by decide), h.cl.keep ha (by decide), h.bx.keep ha (by decide)⟩
theorem Mem.incU1 (h : Mem w B S own cv i0 i1 E st σ f vl vh vi0 vi1 vc g0 g1) : Mem (w.setCell ⟨S, 4, none⟩ (.int .i64 (σ.u1 + 1))) B S own cv i0 i1 E st { σ with u1 := σ.u1 + 1 } (fun j => if j = 4 then .int .i64 (σ.u1 + 1) else f j) vl vh vi0 vi1 vc g0 g1 := by
  have ha := Agree.setCell (own := own) (t := 0) (w := w) (p := ⟨S, 4, none⟩) h.oS (.int .i64 (σ.u1 + 1))
  exact ⟨h.blk.set 4 _, h.oS, h.hS, ⟨by simpa using h.fs.en, by simpa using h.fs.lw, by simpa using h.fs.hg, by simpa using h.fs.u0, by simp, by simpa using h.fs.st, by simpa using h.fs.w0, by simpa using h.fs.w1, by simpa using h.fs.i0, by simpa using h.fs.i1, by simpa using h.fs.cl, by simpa using h.fs.pc, by simpa using h.fs.cd, fun j hj => by have := h.fs.rg j hj; (try simp only []); rw [if_neg (by omega)]; exact this⟩, h.lo.keep ha (by decide), h.hi.keep ha (by decide), h.ol.keep ha (by decide), h.oh.keep ha (by decide), h.in0.keep ha (by decide), h.in1.keep ha (by decide), h.cl.keep ha (by decide), h.bx.keep ha (by decide)⟩
theorem Mem.setReg (h : Mem w B S own cv i0 i1 E st σ f vl vh vi0 vi1 vc g0 g1) (a : Nat) (ha8 : a < 8) (v : Int) : Mem (w.setCell ⟨S, 7 + a, none⟩ (.int .i64 v)) B S own cv i0 i1 E st { σ with r := fun j => if j = a then v else σ.r j } (fun j => if j = 7 + a then .int .i64 v else f j) vl vh vi0 vi1 vc g0 g1 := by
  have ha := Agree.setCell (own := own) (t := 0) (w := w) (p := ⟨S, 7 + a, none⟩) h.oS (.int .i64 v)
  refine ⟨h.blk.set (7 + a) _, h.oS, h.hS, ?_, h.lo.keep ha (by decide), h.hi.keep ha (by decide), h.ol.keep ha (by decide), h.oh.keep ha (by decide), h.in0.keep ha (by decide), h.in1.keep ha (by decide), h.cl.keep ha (by decide), h.bx.keep ha (by decide)⟩
  exact ⟨by (try simp only []); rw [if_neg (by omega)]; exact h.fs.en, by (try simp only []); rw [if_neg (by omega)]; exact h.fs.lw, by (try simp only []); rw [if_neg (by omega)]; exact h.fs.hg, by (try simp only []); rw [if_neg (by omega)]; exact h.fs.u0, by (try simp only []); rw [if_neg (by omega)]; exact h.fs.u1, by (try simp only []); rw [if_neg (by omega)]; exact h.fs.st, by (try simp only []); rw [if_neg (by omega)]; exact h.fs.w0, by (try simp only []); rw [if_neg (by omega)]; exact h.fs.w1, by (try simp only []); rw [if_neg (by omega)]; exact h.fs.i0, by (try simp only []); rw [if_neg (by omega)]; exact h.fs.i1, by (try simp only []); rw [if_neg (by omega)]; exact h.fs.cl, by (try simp only []); rw [if_neg (by omega)]; exact h.fs.pc, by (try simp only []); rw [if_neg (by omega)]; exact h.fs.cd, fun j hj => by
      try simp only []
      by_cases e : j = a
      · subst e; simp
      · rw [if_neg (by omega), if_neg e]; exact h.fs.rg j hj⟩
theorem Mem.setLo (h : Mem w B S own cv i0 i1 E st σ f vl vh vi0 vi1 vc g0 g1) (k : Nat) (v : Int) : Mem (w.setCell ⟨g0, k, none⟩ (.int .i64 v)) B S own cv i0 i1 E st { σ with lo := σ.lo.set k v } f vl vh vi0 vi1 vc g0 g1 := by
  have ha := Agree.setCell (own := own) (t := 1) (w := w) (p := ⟨g0, k, none⟩) h.lo.2.1 (.int .i64 v)
  exact ⟨rowIs_keep h.blk ha (by rw [h.oS]; decide), h.oS, h.hS, ⟨h.fs.en, h.fs.lw, h.fs.hg, h.fs.u0, h.fs.u1, h.fs.st, by rw [List.length_set]; exact h.fs.w0, h.fs.w1, h.fs.i0, h.fs.i1, h.fs.cl, h.fs.pc, h.fs.cd, h.fs.rg⟩, h.lo.store k v, h.hi.keep ha (by decide), h.ol.keep ha (by decide), h.oh.keep ha (by decide), h.in0.keep ha (by decide), h.in1.keep ha (by decide), h.cl.keep ha (by decide), h.bx.keep ha (by decide)⟩
theorem Mem.setHi (h : Mem w B S own cv i0 i1 E st σ f vl vh vi0 vi1 vc g0 g1) (k : Nat) (v : Int) : Mem (w.setCell ⟨g1, k, none⟩ (.int .i64 v)) B S own cv i0 i1 E st { σ with hi := σ.hi.set k v } f vl vh vi0 vi1 vc g0 g1 := by
  have ha := Agree.setCell (own := own) (t := 2) (w := w) (p := ⟨g1, k, none⟩) h.hi.2.1 (.int .i64 v)
  exact ⟨rowIs_keep h.blk ha (by rw [h.oS]; decide), h.oS, h.hS, ⟨h.fs.en, h.fs.lw, h.fs.hg, h.fs.u0, h.fs.u1, h.fs.st, h.fs.w0, by rw [List.length_set]; exact h.fs.w1, h.fs.i0, h.fs.i1, h.fs.cl, h.fs.pc, h.fs.cd, h.fs.rg⟩, h.lo.keep ha (by decide), h.hi.store k v, h.ol.keep ha (by decide), h.oh.keep ha (by decide), h.in0.keep ha (by decide), h.in1.keep ha (by decide), h.cl.keep ha (by decide), h.bx.keep ha (by decide)⟩
theorem Mem.out0 (h : Mem w B S own cv i0 i1 E st σ f vl vh vi0 vi1 vc g0 g1) {w1 : World} {g cap : Nat} {x : Int} {H : Nat} (hH : w.heap.size ≤ H) (hn : w1.ownsRow B 2 1 (.slice (some ⟨g, 0, none⟩) (σ.o0.length + 1) cap) (σ.o0.length + 1) (ints σ.o0 ++ [.int .i64 x])) (hgr : w.grownBy w1 vl.ownBlock) (hat : vl.ownBlock = some g ∨ g = H)
    : ∃ own', Mem (w1.setCell ⟨S, 1, none⟩ (.slice (some ⟨g, 0, none⟩) (σ.o0.length + 1) cap)) B S own' cv i0 i1 E st { σ with o0 := σ.o0 ++ [x] } (fun j => if j = 1 then .slice (some ⟨g, 0, none⟩) (σ.o0.length + 1) cap else f j) (.slice (some ⟨g, 0, none⟩) (σ.o0.length + 1) cap) vh vi0 vi1 vc g0 g1 := by
  have ha := Agree.grown (own := own) (t := 3) hgr h.ol.2
  have hg : w1.heap.size ≤ g ∨ own g = 3 ∨ w.heap.size ≤ g := by
    rcases hat with e | e
    · exact .inr (.inl (h.ol.2 g e))
    · exact .inr (.inr (by omega))
  refine ⟨withOwn own g 3, ?_⟩
  have hgw : w.heap.size ≤ g ∨ own g = 3 := by
    rcases hat with e | e
    · exact .inr (h.ol.2 g e)
    · exact .inl (by omega)
  clear hg
  have hS' : withOwn own g 3 S = 0 := row_own h.blk h.oS hgw (by decide)
  have hx : ints (σ.o0 ++ [x]) = ints σ.o0 ++ [.int .i64 x] := by simp [ints]
  have hl : (σ.o0 ++ [x]).length = σ.o0.length + 1 := by simp
  have h1 : Mem w1 B S (withOwn own g 3) cv i0 i1 E st { σ with o0 := σ.o0 ++ [x] } f (.slice (some ⟨g, 0, none⟩) (σ.o0.length + 1) cap) vh vi0 vi1 vc g0 g1 ∨ True := .inr trivial
  clear h1
  have hblk := rowIs_keep h.blk ha (by rw [h.oS]; decide)
  have ha2 := Agree.setCell (own := withOwn own g 3) (t := 0) (w := w1) (p := ⟨S, 1, none⟩) hS' (.slice (some ⟨g, 0, none⟩) (σ.o0.length + 1) cap)
  have hown : Out w1 (withOwn own g 3) 3 B 2 (.slice (some ⟨g, 0, none⟩) (σ.o0.length + 1) cap) (σ.o0 ++ [x]) := ⟨by rw [hl, hx]; exact hn, fun k hk => by
    have : g = k := by simpa [Value.ownBlock] using hk
    subst this; simp [withOwn]⟩
  exact ⟨hblk.set 1 _, hS', h.hS, ⟨by simpa using h.fs.en, by simp, by simpa using h.fs.hg, by simpa using h.fs.u0, by simpa using h.fs.u1, by simpa using h.fs.st, by simpa using h.fs.w0, by simpa using h.fs.w1, by simpa using h.fs.i0, by simpa using h.fs.i1, by simpa using h.fs.cl, by simpa using h.fs.pc, by simpa using h.fs.cd, fun j hj => by have := h.fs.rg j hj; (try simp only []); rw [if_neg (by omega)]; exact this⟩,
    ((h.lo.own hgw (by decide)).keep (t := 1) (Agree.grown (own := withOwn own g 3) (t := 3) hgr (tagRow h.ol.2 g)) (by decide)).keep ha2 (by decide), ((h.hi.own hgw (by decide)).keep (t := 2) (Agree.grown (own := withOwn own g 3) (t := 3) hgr (tagRow h.ol.2 g)) (by decide)).keep ha2 (by decide), hown.keep ha2 (by decide), ((h.oh.own hgw (by decide)).keep (t := 4) (Agree.grown (own := withOwn own g 3) (t := 3) hgr (tagRow h.ol.2 g)) (by decide)).keep ha2 (by decide), ((h.in0.own hgw (by decide)).keep (t := 5) (Agree.grown (own := withOwn own g 3) (t := 3) hgr (tagRow h.ol.2 g)) (by decide)).keep ha2 (by decide), ((h.in1.own hgw (by decide)).keep (t := 6) (Agree.grown (own := withOwn own g 3) (t := 3) hgr (tagRow h.ol.2 g)) (by decide)).keep ha2 (by decide), ((h.cl.own hgw (by decide)).keep (t := 7) (Agree.grown (own := withOwn own g 3) (t := 3) hgr (tagRow h.ol.2 g)) (by decide)).keep ha2 (by decide), ((h.bx.own hgw (by decide)).keep (Agree.grown (own := withOwn own g 3) (t := 3) hgr (tagRow h.ol.2 g)) (by decide)).keep ha2 (by decide)⟩
theorem Mem.out1 (h : Mem w B S own cv i0 i1 E st σ f vl vh vi0 vi1 vc g0 g1) {w1 : World} {g cap : Nat} {x : Int} {H : Nat} (hH : w.heap.size ≤ H) (hn : w1.ownsRow B 2 1 (.slice (some ⟨g, 0, none⟩) (σ.o1.length + 1) cap) (σ.o1.length + 1) (ints σ.o1 ++ [.int .i64 x])) (hgr : w.grownBy w1 vh.ownBlock) (hat : vh.ownBlock = some g ∨ g = H)
    : ∃ own', Mem (w1.setCell ⟨S, 2, none⟩ (.slice (some ⟨g, 0, none⟩) (σ.o1.length + 1) cap)) B S own' cv i0 i1 E st { σ with o1 := σ.o1 ++ [x] } (fun j => if j = 2 then .slice (some ⟨g, 0, none⟩) (σ.o1.length + 1) cap else f j) vl (.slice (some ⟨g, 0, none⟩) (σ.o1.length + 1) cap) vi0 vi1 vc g0 g1 := by
  have ha := Agree.grown (own := own) (t := 4) hgr h.oh.2
  have hg : w1.heap.size ≤ g ∨ own g = 4 ∨ w.heap.size ≤ g := by
    rcases hat with e | e
    · exact .inr (.inl (h.oh.2 g e))
    · exact .inr (.inr (by omega))
  refine ⟨withOwn own g 4, ?_⟩
  have hgw : w.heap.size ≤ g ∨ own g = 4 := by
    rcases hat with e | e
    · exact .inr (h.oh.2 g e)
    · exact .inl (by omega)
  clear hg
  have hS' : withOwn own g 4 S = 0 := row_own h.blk h.oS hgw (by decide)
  have hx : ints (σ.o1 ++ [x]) = ints σ.o1 ++ [.int .i64 x] := by simp [ints]
  have hl : (σ.o1 ++ [x]).length = σ.o1.length + 1 := by simp
  have h1 : Mem w1 B S (withOwn own g 4) cv i0 i1 E st { σ with o1 := σ.o1 ++ [x] } f vl (.slice (some ⟨g, 0, none⟩) (σ.o1.length + 1) cap) vi0 vi1 vc g0 g1 ∨ True := .inr trivial
  clear h1
  have hblk := rowIs_keep h.blk ha (by rw [h.oS]; decide)
  have ha2 := Agree.setCell (own := withOwn own g 4) (t := 0) (w := w1) (p := ⟨S, 2, none⟩) hS' (.slice (some ⟨g, 0, none⟩) (σ.o1.length + 1) cap)
  have hown : Out w1 (withOwn own g 4) 4 B 2 (.slice (some ⟨g, 0, none⟩) (σ.o1.length + 1) cap) (σ.o1 ++ [x]) := ⟨by rw [hl, hx]; exact hn, fun k hk => by
    have : g = k := by simpa [Value.ownBlock] using hk
    subst this; simp [withOwn]⟩
  exact ⟨hblk.set 2 _, hS', h.hS, ⟨by simpa using h.fs.en, by simpa using h.fs.lw, by simp, by simpa using h.fs.u0, by simpa using h.fs.u1, by simpa using h.fs.st, by simpa using h.fs.w0, by simpa using h.fs.w1, by simpa using h.fs.i0, by simpa using h.fs.i1, by simpa using h.fs.cl, by simpa using h.fs.pc, by simpa using h.fs.cd, fun j hj => by have := h.fs.rg j hj; (try simp only []); rw [if_neg (by omega)]; exact this⟩,
    ((h.lo.own hgw (by decide)).keep (t := 1) (Agree.grown (own := withOwn own g 4) (t := 4) hgr (tagRow h.oh.2 g)) (by decide)).keep ha2 (by decide), ((h.hi.own hgw (by decide)).keep (t := 2) (Agree.grown (own := withOwn own g 4) (t := 4) hgr (tagRow h.oh.2 g)) (by decide)).keep ha2 (by decide), ((h.ol.own hgw (by decide)).keep (t := 3) (Agree.grown (own := withOwn own g 4) (t := 4) hgr (tagRow h.oh.2 g)) (by decide)).keep ha2 (by decide), hown.keep ha2 (by decide), ((h.in0.own hgw (by decide)).keep (t := 5) (Agree.grown (own := withOwn own g 4) (t := 4) hgr (tagRow h.oh.2 g)) (by decide)).keep ha2 (by decide), ((h.in1.own hgw (by decide)).keep (t := 6) (Agree.grown (own := withOwn own g 4) (t := 4) hgr (tagRow h.oh.2 g)) (by decide)).keep ha2 (by decide), ((h.cl.own hgw (by decide)).keep (t := 7) (Agree.grown (own := withOwn own g 4) (t := 4) hgr (tagRow h.oh.2 g)) (by decide)).keep ha2 (by decide), ((h.bx.own hgw (by decide)).keep (Agree.grown (own := withOwn own g 4) (t := 4) hgr (tagRow h.oh.2 g)) (by decide)).keep ha2 (by decide)⟩
theorem Mem.call (h : Mem w B S own cv i0 i1 E st σ f vl vh vi0 vi1 vc g0 g1) {w1 : World} {g cap : Nat} {x : Int} {H : Nat} (hH : w.heap.size ≤ H) (hn : w1.ownsRow B 3 1 (.slice (some ⟨g, 0, none⟩) (σ.calls.length + 1) cap) (σ.calls.length + 1) (ints σ.calls ++ [.int .i64 x])) (hgr : w.grownBy w1 vc.ownBlock) (hat : vc.ownBlock = some g ∨ g = H)
    : ∃ own', Mem (w1.setCell ⟨S, 19, none⟩ (.slice (some ⟨g, 0, none⟩) (σ.calls.length + 1) cap)) B S own' cv i0 i1 E st { σ with calls := σ.calls ++ [x] } (fun j => if j = 19 then .slice (some ⟨g, 0, none⟩) (σ.calls.length + 1) cap else f j) vl vh vi0 vi1 (.slice (some ⟨g, 0, none⟩) (σ.calls.length + 1) cap) g0 g1 := by
  have ha := Agree.grown (own := own) (t := 7) hgr h.cl.2
  have hg : w1.heap.size ≤ g ∨ own g = 7 ∨ w.heap.size ≤ g := by
    rcases hat with e | e
    · exact .inr (.inl (h.cl.2 g e))
    · exact .inr (.inr (by omega))
  refine ⟨withOwn own g 7, ?_⟩
  have hgw : w.heap.size ≤ g ∨ own g = 7 := by
    rcases hat with e | e
    · exact .inr (h.cl.2 g e)
    · exact .inl (by omega)
  clear hg
  have hS' : withOwn own g 7 S = 0 := row_own h.blk h.oS hgw (by decide)
  have hx : ints (σ.calls ++ [x]) = ints σ.calls ++ [.int .i64 x] := by simp [ints]
  have hl : (σ.calls ++ [x]).length = σ.calls.length + 1 := by simp
  have h1 : Mem w1 B S (withOwn own g 7) cv i0 i1 E st { σ with calls := σ.calls ++ [x] } f vl vh vi0 vi1 (.slice (some ⟨g, 0, none⟩) (σ.calls.length + 1) cap) g0 g1 ∨ True := .inr trivial
  clear h1
  have hblk := rowIs_keep h.blk ha (by rw [h.oS]; decide)
  have ha2 := Agree.setCell (own := withOwn own g 7) (t := 0) (w := w1) (p := ⟨S, 19, none⟩) hS' (.slice (some ⟨g, 0, none⟩) (σ.calls.length + 1) cap)
  have hown : Out w1 (withOwn own g 7) 7 B 3 (.slice (some ⟨g, 0, none⟩) (σ.calls.length + 1) cap) (σ.calls ++ [x]) := ⟨by rw [hl, hx]; exact hn, fun k hk => by
    have : g = k := by simpa [Value.ownBlock] using hk
    subst this; simp [withOwn]⟩
  exact ⟨hblk.set 19 _, hS', h.hS, ⟨by simpa using h.fs.en, by simpa using h.fs.lw, by simpa using h.fs.hg, by simpa using h.fs.u0, by simpa using h.fs.u1, by simpa using h.fs.st, by simpa using h.fs.w0, by simpa using h.fs.w1, by simpa using h.fs.i0, by simpa using h.fs.i1, by simp, by simpa using h.fs.pc, by simpa using h.fs.cd, fun j hj => by have := h.fs.rg j hj; (try simp only []); rw [if_neg (by omega)]; exact this⟩,
    ((h.lo.own hgw (by decide)).keep (t := 1) (Agree.grown (own := withOwn own g 7) (t := 7) hgr (tagRow h.cl.2 g)) (by decide)).keep ha2 (by decide), ((h.hi.own hgw (by decide)).keep (t := 2) (Agree.grown (own := withOwn own g 7) (t := 7) hgr (tagRow h.cl.2 g)) (by decide)).keep ha2 (by decide), ((h.ol.own hgw (by decide)).keep (t := 3) (Agree.grown (own := withOwn own g 7) (t := 7) hgr (tagRow h.cl.2 g)) (by decide)).keep ha2 (by decide), ((h.oh.own hgw (by decide)).keep (t := 4) (Agree.grown (own := withOwn own g 7) (t := 7) hgr (tagRow h.cl.2 g)) (by decide)).keep ha2 (by decide), ((h.in0.own hgw (by decide)).keep (t := 5) (Agree.grown (own := withOwn own g 7) (t := 7) hgr (tagRow h.cl.2 g)) (by decide)).keep ha2 (by decide), ((h.in1.own hgw (by decide)).keep (t := 6) (Agree.grown (own := withOwn own g 7) (t := 7) hgr (tagRow h.cl.2 g)) (by decide)).keep ha2 (by decide), hown.keep ha2 (by decide), ((h.bx.own hgw (by decide)).keep (Agree.grown (own := withOwn own g 7) (t := 7) hgr (tagRow h.cl.2 g)) (by decide)).keep ha2 (by decide)⟩
theorem Mem.back (h : Mem w B S own cv i0 i1 E st σ f vl vh vi0 vi1 vc g0 g1) {A : Option Addr} {m c : Nat} (hv : vc = .slice A (m + 1) c) : Mem (w.setCell ⟨S, 19, none⟩ (.slice A m c)) B S own cv i0 i1 E st { σ with calls := σ.calls.take m } (fun j => if j = 19 then .slice A m c else f j) vl vh vi0 vi1 (.slice A m c) g0 g1 := by
  have ha := Agree.setCell (own := own) (t := 0) (w := w) (p := ⟨S, 19, none⟩) h.oS (.slice A m c)
  refine ⟨h.blk.set 19 _, h.oS, h.hS, ⟨by simpa using h.fs.en, by simpa using h.fs.lw, by simpa using h.fs.hg, by simpa using h.fs.u0, by simpa using h.fs.u1, by simpa using h.fs.st, by simpa using h.fs.w0, by simpa using h.fs.w1, by simpa using h.fs.i0, by simpa using h.fs.i1, by simp, by simpa using h.fs.pc, by simpa using h.fs.cd, fun j hj => by have := h.fs.rg j hj; (try simp only []); rw [if_neg (by omega)]; exact this⟩, h.lo.keep ha (by decide), h.hi.keep ha (by decide), h.ol.keep ha (by decide), h.oh.keep ha (by decide), h.in0.keep ha (by decide), h.in1.keep ha (by decide), ?_, h.bx.keep ha (by decide)⟩
  exact (out_back h.cl hv).keep ha (by decide)
end
end pm
namespace rm
/-- the state's block, field by field -/
structure Cells (f : Nat → Value) (σ : Mst) (E st : Int) (vl vh vi0 vi1 vc : Value) (g0 g1 : Nat) (gr : Nat) : Prop where
  en : f 0 = .int .i64 E
  lw : f 1 = vl
  hg : f 2 = vh
  u0 : f 3 = .int .i64 σ.u0
  u1 : f 4 = .int .i64 σ.u1
  st : f 5 = .int .i64 st
  w0 : f 7 = .slice (some ⟨g0, 0, none⟩) σ.lo.length σ.lo.length
  w1 : f 8 = .slice (some ⟨g1, 0, none⟩) σ.hi.length σ.hi.length
  i0 : f 9 = vi0
  i1 : f 10 = vi1
  cl : f 11 = vc
  pc : f 12 = .int .i64 σ.pc
  rs : f 6 = .slice (some ⟨gr, 0, none⟩) 8 8
/-- the machine in memory -/
structure Mem (w : World) (B S : Nat) (own : Nat → Nat) (i0 i1 : List Int) (E st : Int) (σ : Mst) (f : Nat → Value) (vl vh vi0 vi1 vc : Value) (g0 g1 gr : Nat) : Prop where
  blk : w.rowIs S 44 13 f
  oS : own S = 0
  hS : B ≤ S
  fs : Cells f σ E st vl vh vi0 vi1 vc g0 g1 gr
  lo : Words w own 1 B g0 σ.lo
  hi : Words w own 2 B g1 σ.hi
  ol : Out w own 3 B 2 vl σ.o0
  oh : Out w own 4 B 2 vh σ.o1
  in0 : InO w own 5 vi0 i0
  in1 : InO w own 5 vi1 i1
  cl : Out w own 7 B 3 vc σ.calls
  rg : w.rowIs gr 2 8 (fun j => .int .i64 (σ.r j))
  og : own gr = 8
  hg : B ≤ gr
section
variable {w : World} {B S : Nat} {own : Nat → Nat} {i0 i1 : List Int} {E st : Int} {σ : Mst} {f : Nat → Value} {vl vh vi0 vi1 vc : Value} {g0 g1 gr : Nat}
theorem Mem.alloc (h : Mem w B S own i0 i1 E st σ f vl vh vi0 vi1 vc g0 g1 gr) (o : Obj) : Mem (w.alloc o) B S own i0 i1 E st σ f vl vh vi0 vi1 vc g0 g1 gr := by
  have ha := Agree.alloc own 99 w o
  exact ⟨rowIs_keep h.blk ha (by rw [h.oS]; decide), h.oS, h.hS, h.fs, h.lo.keep ha (by decide), h.hi.keep ha (by decide), h.ol.keep ha (by decide), h.oh.keep ha (by decide), h.in0.keep ha (by decide), h.in1.keep ha (by decide), h.cl.keep ha (by decide), rowIs_keep h.rg ha (by rw [h.og]; decide), h.og, h.hg⟩
theorem Mem.drew (h : Mem w B S own i0 i1 E st σ f vl vh vi0 vi1 vc g0 g1 gr)  : Mem w.drew B S own i0 i1 E st σ f vl vh vi0 vi1 vc g0 g1 gr := by
  have ha := Agree.drew own 99 w
  exact ⟨rowIs_keep h.blk ha (by rw [h.oS]; decide), h.oS, h.hS, h.fs, h.lo.keep ha (by decide), h.hi.keep ha (by decide), h.ol.keep ha (by decide), h.oh.keep ha (by decide), h.in0.keep ha (by decide), h.in1.keep ha (by decide), h.cl.keep ha (by decide), rowIs_keep h.rg ha (by rw [h.og]; decide), h.og, h.hg⟩
theorem Mem.drewN (h : Mem w B S own i0 i1 E st σ f vl vh vi0 vi1 vc g0 g1 gr) (n : Nat) : Mem (w.drewN n) B S own i0 i1 E st σ f vl vh vi0 vi1 vc g0 g1 gr := by
  have ha := Agree.drewN own 99 w n
  exact ⟨rowIs_keep h.blk ha (by rw [h.oS]; decide), h.oS, h.hS, h.fs, h.lo.keep ha (by decide), h.hi.keep ha (by decide), h.ol.keep ha (by decide), h.oh.keep ha (by decide), h.in0.keep ha (by decide), h.in1.keep ha (by decide), h.cl.keep ha (by decide), rowIs_keep h.rg ha (by rw [h.og]; decide), h.og, h.hg⟩
theorem Mem.setPc (h : Mem w B S own i0 i1 E st σ f vl vh vi0 vi1 vc g0 g1 gr) (v : Int) : Mem (w.setCell ⟨S, 12, none⟩ (.int .i64 v)) B S own i0 i1 E st { σ with pc := v } (fun j => if j = 12 then .int .i64 v else f j) vl vh vi0 vi1 vc g0 g1 gr := by
  have ha := Agree.setCell (own := own) (t := 0) (w := w) (p := ⟨S, 12, none⟩) h.oS (.int .i64 v)
  exact ⟨h.blk.set 12 _, h.oS, h.hS, ⟨by simpa using h.fs.en, by simpa using h.fs.lw, by simpa using h.fs.hg, by simpa using h.fs.u0, by simpa using h.fs.u1, by simpa using h.fs.st, by simpa using h.fs.w0, by simpa using h.fs.w1, by simpa using h.fs.i0, by simpa using h.fs.i1, by simpa using h.fs.cl, by simp, by simpa using h.fs.rs⟩, h.lo.keep ha (by decide), h.hi.keep ha (by decide), h.ol.keep ha (by decide), h.oh.keep ha (by decide), h.in0.keep ha (by decide), h.in1.keep ha (by decide), h.cl.keep ha (by decide), rowIs_keep h.rg ha (by rw [h.og]; decide), h.og, h.hg⟩
theorem Mem.setSt (h : Mem w B S own i0 i1 E st σ f vl vh vi0 vi1 vc g0 g1 gr) (v : Int) : Mem (w.setCell ⟨S, 5, none⟩ (.int .i64 v)) B S own i0 i1 E v σ (fun j => if j = 5 then .int .i64 v else f j) vl vh vi0 vi1 vc g0 g1 gr := by
  have ha := Agree.setCell (own := own) (t := 0) (w := w) (p := ⟨S, 5, none⟩) h.oS (.int .i64 v)
  exact ⟨h.blk.set 5 _, h.oS, h.hS, ⟨by simpa using h.fs.en, by simpa using h.fs.lw, by simpa using h.fs.hg, by simpa using h.fs.u0, by simpa using h.fs.u1, by simp, by simpa using h.fs.w0, by simpa using h.fs.w1, by simpa using h.fs.i0, by simpa using h.fs.i1, by simpa using h.fs.cl, by simpa using h.fs.pc, by simpa using h.fs.rs⟩, h.lo.keep ha (by decide), h.hi.keep ha (by decide), h.ol.keep ha (by decide), h.oh.keep ha (by decide), h.in0.keep ha (by decide), h.in1.keep ha (by decide), h.cl.keep ha (by decide), rowIs_keep h.rg ha (by rw [h.og]; decide), h.og, h.hg⟩
theorem Mem.setEn (h : Mem w B S own i0 i1 E st σ f vl vh vi0 vi1 vc g0 g1 gr) (v : Int) : Mem (w.setCell ⟨S, 0, none⟩ (.int .i64 v)) B S own i0 i1 v st σ (fun j => if j = 0 then .int .i64 v else f j) vl vh vi0 vi1 vc g0 g1 gr := by
  have ha := Agree.setCell (own := own) (t := 0) (w := w) (p := ⟨S, 0, none⟩) h.oS (.int .i64 v)
  exact ⟨h.blk.set 0 _, h.oS, h.hS, ⟨by simp, by simpa using h.fs.lw, by simpa using h.fs.hg, by simpa using h.fs.u0, by simpa using h.fs.u1, by simpa using h.fs.st, by simpa using h.fs.w0, by simpa using h.fs.w1, by simpa using h.fs.i0, by simpa using h.fs.i1, by simpa using h.fs.cl, by simpa using h.fs.pc, by simpa using h.fs.rs⟩, h.lo.keep ha (by decide), h.hi.keep ha (by decide), h.ol.keep ha (by decide), h.oh.keep ha (by decide), h.in0.keep ha (by decide), h.in1.keep ha (by decide), h.cl.keep ha (by decide), rowIs_keep h.rg ha (by rw [h.og]; decide), h.og, h.hg⟩
theorem Mem.incU0 (h : Mem w B S own i0 i1 E st σ f vl vh vi0 vi1 vc g0 g1 gr) : Mem (w.setCell ⟨S, 3, none⟩ (.int .i64 (σ.u0 + 1))) B S own i0 i1 E st { σ with u0 := σ.u0 + 1 } (fun j => if j = 3 then .int .i64 (σ.u0 + 1) else f j) vl vh vi0 vi1 vc g0 g1 gr := by
  have ha := Agree.setCell (own := own) (t := 0) (w := w) (p := ⟨S, 3, none⟩) h.oS (.int .i64 (σ.u0 + 1))
  exact ⟨h.blk.set 3 _, h.oS, h.hS, ⟨by simpa using h.fs.en, by simpa using h.fs.lw, by simpa using h.fs.hg, by simp, by simpa using h.fs.u1, by simpa using h.fs.st, by simpa using h.fs.w0, by simpa using h.fs.w1, by simpa using h.fs.i0, by simpa using h.fs.i1, by simpa using h.fs.cl, by simpa using h.fs.pc, by simpa using h.fs.rs⟩, h.lo.keep ha (by decide), h.hi.keep ha (by decide), h.ol.keep ha (by decide), h.oh.keep ha (by decide), h.in0.keep ha (by decide), h.in1.keep ha (by decide), h.cl.keep ha (by decide), rowIs_keep h.rg ha (by rw [h.og]; decide), h.og, h.hg⟩
theorem Mem.incU1 (h : Mem w B S own i0 i1 E st σ f vl vh vi0 vi1 vc g0 g1 gr) : Mem (w.setCell ⟨S, 4, none⟩ (.int .i64 (σ.u1 + 1))) B S own i0 i1 E st { σ with u1 := σ.u1 + 1 } (fun j => if j = 4 then .int .i64 (σ.u1 + 1) else f j) vl vh vi0 vi1 vc g0 g1 gr := by
  have ha := Agree.setCell (own := own) (t := 0) (w := w) (p := ⟨S, 4, none⟩) h.oS (.int .i64 (σ.u1 + 1))
  exact ⟨h.blk.set 4 _, h.oS, h.hS, ⟨by simpa using h.fs.en, by simpa using h.fs.lw, by simpa using h.fs.hg, by simpa using h.fs.u0, by simp, by simpa using h.fs.st, by simpa using h.fs.w0, by simpa using h.fs.w1, by simpa using h.fs.i0, by simpa using h.fs.i1, by simpa using h.fs.cl, by simpa using h.fs.pc, by simpa using h.fs.rs⟩, h.lo.keep ha (by decide), h.hi.keep ha (by decide), h.ol.keep ha (by decide), h.oh.keep ha (by decide), h.in0.keep ha (by decide), h.in1.keep ha (by decide), h.cl.keep ha (by decide), rowIs_keep h.rg ha (by rw [h.og]; decide), h.og, h.hg⟩
theorem Mem.setReg (h : Mem w B S own i0 i1 E st σ f vl vh vi0 vi1 vc g0 g1 gr) (a : Nat) (v : Int) : Mem (w.setCell ⟨gr, a, none⟩ (.int .i64 v)) B S own i0 i1 E st { σ with r := fun j => if j = a then v else σ.r j } f vl vh vi0 vi1 vc g0 g1 gr := by
  have ha := Agree.setCell (own := own) (t := 8) (w := w) (p := ⟨gr, a, none⟩) h.og (.int .i64 v)
  exact ⟨rowIs_keep h.blk ha (by rw [h.oS]; decide), h.oS, h.hS, ⟨h.fs.en, h.fs.lw, h.fs.hg, h.fs.u0, h.fs.u1, h.fs.st, h.fs.w0, h.fs.w1, h.fs.i0, h.fs.i1, h.fs.cl, h.fs.pc, h.fs.rs⟩, h.lo.keep ha (by decide), h.hi.keep ha (by decide), h.ol.keep ha (by decide), h.oh.keep ha (by decide), h.in0.keep ha (by decide), h.in1.keep ha (by decide), h.cl.keep ha (by decide),
    (h.rg.set a _).congr fun j hj => by (try simp only []); split <;> rfl, h.og, h.hg⟩
theorem Mem.setLo (h : Mem w B S own i0 i1 E st σ f vl vh vi0 vi1 vc g0 g1 gr) (k : Nat) (v : Int) : Mem (w.setCell ⟨g0, k, none⟩ (.int .i64 v)) B S own i0 i1 E st { σ with lo := σ.lo.set k v } f vl vh vi0 vi1 vc g0 g1 gr := by
  have ha := Agree.setCell (own := own) (t := 1) (w := w) (p := ⟨g0, k, none⟩) h.lo.2.1 (.int .i64 v)
  exact ⟨rowIs_keep h.blk ha (by rw [h.oS]; decide), h.oS, h.hS, ⟨h.fs.en, h.fs.lw, h.fs.hg, h.fs.u0, h.fs.u1, h.fs.st, by rw [List.length_set]; exact h.fs.w0, h.fs.w1, h.fs.i0, h.fs.i1, h.fs.cl, h.fs.pc, h.fs.rs⟩, h.lo.store k v, h.hi.keep ha (by decide), h.ol.keep ha (by decide), h.oh.keep ha (by decide), h.in0.keep ha (by decide), h.in1.keep ha (by decide), h.cl.keep ha (by decide), rowIs_keep h.rg ha (by rw [h.og]; decide), h.og, h.hg⟩
theorem Mem.setHi (h : Mem w B S own i0 i1 E st σ f vl vh vi0 vi1 vc g0 g1 gr) (k : Nat) (v : Int) : Mem (w.setCell ⟨g1, k, none⟩ (.int .i64 v)) B S own i0 i1 E st { σ with hi := σ.hi.set k v } f vl vh vi0 vi1 vc g0 g1 gr := by
  have ha := Agree.setCell (own := own) (t := 2) (w := w) (p := ⟨g1, k, none⟩) h.hi.2.1 (.int .i64 v)
  exact ⟨rowIs_keep h.blk ha (by rw [h.oS]; decide), h.oS, h.hS, ⟨h.fs.en, h.fs.lw, h.fs.hg, h.fs.u0, h.fs.u1, h.fs.st, h.fs.w0, by rw [List.length_set]; exact h.fs.w1, h.fs.i0, h.fs.i1, h.fs.cl, h.fs.pc, h.fs.rs⟩, h.lo.keep ha (by decide), h.hi.store k v, h.ol.keep ha (by decide), h.oh.keep ha (by decide), h.in0.keep ha (by decide), h.in1.keep ha (by decide), h.cl.keep ha (by decide), rowIs_keep h.rg ha (by rw [h.og]; decide), h.og, h.hg⟩
theorem Mem.out0 (h : Mem w B S own i0 i1 E st σ f vl vh vi0 vi1 vc g0 g1 gr) {w1 : World} {g cap : Nat} {x : Int} {H : Nat} (hH : w.heap.size ≤ H) (hn : w1.ownsRow B 2 1 (.slice (some ⟨g, 0, none⟩) (σ.o0.length + 1) cap) (σ.o0.length + 1) (ints σ.o0 ++ [.int .i64 x])) (hgr : w.grownBy w1 vl.ownBlock) (hat : vl.ownBlock = some g ∨ g = H)
    : ∃ own', Mem (w1.setCell ⟨S, 1, none⟩ (.slice (some ⟨g, 0, none⟩) (σ.o0.length + 1) cap)) B S own' i0 i1 E st { σ with o0 := σ.o0 ++ [x] } (fun j => if j = 1 then .slice (some ⟨g, 0, none⟩) (σ.o0.length + 1) cap else f j) (.slice (some ⟨g, 0, none⟩) (σ.o0.length + 1) cap) vh vi0 vi1 vc g0 g1 gr := by
  have ha := Agree.grown (own := own) (t := 3) hgr h.ol.2
  have hg : w1.heap.size ≤ g ∨ own g = 3 ∨ w.heap.size ≤ g := by
    rcases hat with e | e
    · exact .inr (.inl (h.ol.2 g e))
    · exact .inr (.inr (by omega))
  refine ⟨withOwn own g 3, ?_⟩
  have hgw : w.heap.size ≤ g ∨ own g = 3 := by
    rcases hat with e | e
    · exact .inr (h.ol.2 g e)
    · exact .inl (by omega)
  clear hg
  have hS' : withOwn own g 3 S = 0 := row_own h.blk h.oS hgw (by decide)
  have hx : ints (σ.o0 ++ [x]) = ints σ.o0 ++ [.int .i64 x] := by simp [ints]
  have hl : (σ.o0 ++ [x]).length = σ.o0.length + 1 := by simp
  have h1 : Mem w1 B S (withOwn own g 3) i0 i1 E st { σ with o0 := σ.o0 ++ [x] } f (.slice (some ⟨g, 0, none⟩) (σ.o0.length + 1) cap) vh vi0 vi1 vc g0 g1 gr ∨ True := .inr trivial
  clear h1
  have hblk := rowIs_keep h.blk ha (by rw [h.oS]; decide)
  have ha2 := Agree.setCell (own := withOwn own g 3) (t := 0) (w := w1) (p := ⟨S, 1, none⟩) hS' (.slice (some ⟨g, 0, none⟩) (σ.o0.length + 1) cap)
  have hown : Out w1 (withOwn own g 3) 3 B 2 (.slice (some ⟨g, 0, none⟩) (σ.o0.length + 1) cap) (σ.o0 ++ [x]) := ⟨by rw [hl, hx]; exact hn, fun k hk => by
    have : g = k := by simpa [Value.ownBlock] using hk
    subst this; simp [withOwn]⟩
  exact ⟨hblk.set 1 _, hS', h.hS, ⟨by simpa using h.fs.en, by simp, by simpa using h.fs.hg, by simpa using h.fs.u0, by simpa using h.fs.u1, by simpa using h.fs.st, by simpa using h.fs.w0, by simpa using h.fs.w1, by simpa using h.fs.i0, by simpa using h.fs.i1, by simpa using h.fs.cl, by simpa using h.fs.pc, by simpa using h.fs.rs⟩,
    ((h.lo.own hgw (by decide)).keep (t := 1) (Agree.grown (own := withOwn own g 3) (t := 3) hgr (tagRow h.ol.2 g)) (by decide)).keep ha2 (by decide), ((h.hi.own hgw (by decide)).keep (t := 2) (Agree.grown (own := withOwn own g 3) (t := 3) hgr (tagRow h.ol.2 g)) (by decide)).keep ha2 (by decide), hown.keep ha2 (by decide), ((h.oh.own hgw (by decide)).keep (t := 4) (Agree.grown (own := withOwn own g 3) (t := 3) hgr (tagRow h.ol.2 g)) (by decide)).keep ha2 (by decide), ((h.in0.own hgw (by decide)).keep (t := 5) (Agree.grown (own := withOwn own g 3) (t := 3) hgr (tagRow h.ol.2 g)) (by decide)).keep ha2 (by decide), ((h.in1.own hgw (by decide)).keep (t := 5) (Agree.grown (own := withOwn own g 3) (t := 3) hgr (tagRow h.ol.2 g)) (by decide)).keep ha2 (by decide), ((h.cl.own hgw (by decide)).keep (t := 7) (Agree.grown (own := withOwn own g 3) (t := 3) hgr (tagRow h.ol.2 g)) (by decide)).keep ha2 (by decide), rowIs_keep (rowIs_keep h.rg ha (by rw [h.og]; decide)) ha2 (by rw [row_own h.rg h.og hgw (by decide)]; decide), row_own h.rg h.og hgw (by decide), h.hg⟩
theorem Mem.out1 (h : Mem w B S own i0 i1 E st σ f vl vh vi0 vi1 vc g0 g1 gr) {w1 : World} {g cap : Nat} {x : Int} {H : Nat} (hH : w.heap.size ≤ H) (hn : w1.ownsRow B 2 1 (.slice (some ⟨g, 0, none⟩) (σ.o1.length + 1) cap) (σ.o1.length + 1) (ints σ.o1 ++ [.int .i64 x])) (hgr : w.grownBy w1 vh.ownBlock) (hat : vh.ownBlock = some g ∨ g = H)
    : ∃ own', Mem (w1.setCell ⟨S, 2, none⟩ (.slice (some ⟨g, 0, none⟩) (σ.o1.length + 1) cap)) B S own' i0 i1 E st { σ with o1 := σ.o1 ++ [x] } (fun j => if j = 2 then .slice (some ⟨g, 0, none⟩) (σ.o1.length + 1) cap else f j) vl (.slice (some ⟨g, 0, none⟩) (σ.o1.length + 1) cap) vi0 vi1 vc g0 g1 gr := by
  have ha := Agree.grown (own := own) (t := 4) hgr h.oh.2
  have hg : w1.heap.size ≤ g ∨ own g = 4 ∨ w.heap.size ≤ g := by
    rcases hat with e | e
    · exact .inr (.inl (h.oh.2 g e))
    · exact .inr (.inr (by omega))
  refine ⟨withOwn own g 4, ?_⟩
  have hgw : w.heap.size ≤ g ∨ own g = 4 := by
    rcases hat with e | e
    · exact .inr (h.oh.2 g e)
    · exact .inl (by omega)
  clear hg
  have hS' : withOwn own g 4 S = 0 := row_own h.blk h.oS hgw (by decide)
  have hx : ints (σ.o1 ++ [x]) = ints σ.o1 ++ [.int .i64 x] := by simp [ints]
  have hl : (σ.o1 ++ [x]).length = σ.o1.length + 1 := by simp
  have h1 : Mem w1 B S (withOwn own g 4) i0 i1 E st { σ with o1 := σ.o1 ++ [x] } f vl (.slice (some ⟨g, 0, none⟩) (σ.o1.length + 1) cap) vi0 vi1 vc g0 g1 gr ∨ True := .inr trivial
  clear h1
  have hblk := rowIs_keep h.blk ha (by rw [h.oS]; decide)
  have ha2 := Agree.setCell (own := withOwn own g 4) (t := 0) (w := w1) (p := ⟨S, 2, none⟩) hS' (.slice (some ⟨g, 0, none⟩) (σ.o1.length + 1) cap)
  have hown : Out w1 (withOwn own g 4) 4 B 2 (.slice (some ⟨g, 0, none⟩) (σ.o1.length + 1) cap) (σ.o1 ++ [x]) := ⟨by rw [hl, hx]; exact hn, fun k hk => by
    have : g = k := by simpa [Value.ownBlock] using hk
    subst this; simp [withOwn]⟩
  exact ⟨hblk.set 2 _, hS', h.hS, ⟨by simpa using h.fs.en, by simpa using h.fs.lw, by simp, by simpa using h.fs.u0, by simpa using h.fs.u1, by simpa using h.fs.st, by simpa using h.fs.w0, by simpa using h.fs.w1, by simpa using h.fs.i0, by simpa using h.fs.i1, by simpa using h.fs.cl, by simpa using h.fs.pc, by simpa using h.fs.rs⟩,
    ((h.lo.own hgw (by decide)).keep (t := 1) (Agree.grown (own := withOwn own g 4) (t := 4) hgr (tagRow h.oh.2 g)) (by decide)).keep ha2 (by decide), ((h.hi.own hgw (by decide)).keep (t := 2) (Agree.grown (own := withOwn own g 4) (t := 4) hgr (tagRow h.oh.2 g)) (by decide)).keep ha2 (by decide), ((h.ol.own hgw (by decide)).keep (t := 3) (Agree.grown (own := withOwn own g 4) (t := 4) hgr (tagRow h.oh.2 g)) (by decide)).keep ha2 (by decide), hown.keep ha2 (by decide), ((h.in0.own hgw (by decide)).keep (t := 5) (Agree.grown (own := withOwn own g 4) (t := 4) hgr (tagRow h.oh.2 g)) (by decide)).keep ha2 (by decide), ((h.in1.own hgw (by decide)).keep (t := 5) (Agree.grown (own := withOwn own g 4) (t := 4) hgr (tagRow h.oh.2 g)) (by decide)).keep ha2 (by decide), ((h.cl.own hgw (by decide)).keep (t := 7) (Agree.grown (own := withOwn own g 4) (t := 4) hgr (tagRow h.oh.2 g)) (by decide)).keep ha2 (by decide), rowIs_keep (rowIs_keep h.rg ha (by rw [h.og]; decide)) ha2 (by rw [row_own h.rg h.og hgw (by decide)]; decide), row_own h.rg h.og hgw (by decide), h.hg⟩
theorem Mem.call (h : Mem w B S own i0 i1 E st σ f vl vh vi0 vi1 vc g0 g1 gr) {w1 : World} {g cap : Nat} {x : Int} {H : Nat} (hH : w.heap.size ≤ H) (hn : w1.ownsRow B 3 1 (.slice (some ⟨g, 0, none⟩) (σ.calls.length + 1) cap) (σ.calls.length + 1) (ints σ.calls ++ [.int .i64 x])) (hgr : w.grownBy w1 vc.ownBlock) (hat : vc.ownBlock = some g ∨ g = H)
    : ∃ own', Mem (w1.setCell ⟨S, 11, none⟩ (.slice (some ⟨g, 0, none⟩) (σ.calls.length + 1) cap)) B S own' i0 i1 E st { σ with calls := σ.calls ++ [x] } (fun j => if j = 11 then .slice (some ⟨g, 0, none⟩) (σ.calls.length + 1) cap else f j) vl vh vi0 vi1 (.slice (some ⟨g, 0, none⟩) (σ.calls.length + 1) cap) g0 g1 gr := by
  have ha := Agree.grown (own := own) (t := 7) hgr h.cl.2
  have hg : w1.heap.size ≤ g ∨ own g = 7 ∨ w.heap.size ≤ g := by
    rcases hat with e | e
    · exact .inr (.inl (h.cl.2 g e))
    · exact .inr (.inr (by omega))
  refine ⟨withOwn own g 7, ?_⟩
  have hgw : w.heap.size ≤ g ∨ own g = 7 := by
    rcases hat with e | e
    · exact .inr (h.cl.2 g e)
    · exact .inl (by omega)
  clear hg
  have hS' : withOwn own g 7 S = 0 := row_own h.blk h.oS hgw (by decide)
  have hx : ints (σ.calls ++ [x]) = ints σ.calls ++ [.int .i64 x] := by simp [ints]
  have hl : (σ.calls ++ [x]).length = σ.calls.length + 1 := by simp
  have h1 : Mem w1 B S (withOwn own g 7) i0 i1 E st { σ with calls := σ.calls ++ [x] } f vl vh vi0 vi1 (.slice (some ⟨g, 0, none⟩) (σ.calls.length + 1) cap) g0 g1 gr ∨ True := .inr trivial
  clear h1
  have hblk := rowIs_keep h.blk ha (by rw [h.oS]; decide)
  have ha2 := Agree.setCell (own := withOwn own g 7) (t := 0) (w := w1) (p := ⟨S, 11, none⟩) hS' (.slice (some ⟨g, 0, none⟩) (σ.calls.length + 1) cap)
  have hown : Out w1 (withOwn own g 7) 7 B 3 (.slice (some ⟨g, 0, none⟩) (σ.calls.length + 1) cap) (σ.calls ++ [x]) := ⟨by rw [hl, hx]; exact hn, fun k hk => by
    have : g = k := by simpa [Value.ownBlock] using hk
    subst this; simp [withOwn]⟩
  exact ⟨hblk.set 11 _, hS', h.hS, ⟨by simpa using h.fs.en, by simpa using h.fs.lw, by simpa using h.fs.hg, by simpa using h.fs.u0, by simpa using h.fs.u1, by simpa using h.fs.st, by simpa using h.fs.w0, by simpa using h.fs.w1, by simpa using h.fs.i0, by simpa using h.fs.i1, by simp, by simpa using h.fs.pc, by simpa using h.fs.rs⟩,
    ((h.lo.own hgw (by decide)).keep (t := 1) (Agree.grown (own := withOwn own g 7) (t := 7) hgr (tagRow h.cl.2 g)) (by decide)).keep ha2 (by decide), ((h.hi.own hgw (by decide)).keep (t := 2) (Agree.grown (own := withOwn own g 7) (t := 7) hgr (tagRow h.cl.2 g)) (by decide)).keep ha2 (by decide), ((h.ol.own hgw (by decide)).keep (t := 3) (Agree.grown (own := withOwn own g 7) (t := 7) hgr (tagRow h.cl.2 g)) (by decide)).keep ha2 (by decide), ((h.oh.own hgw (by decide)).keep (t := 4) (Agree.grown (own := withOwn own g 7) (t := 7) hgr (tagRow h.cl.2 g)) (by decide)).keep ha2 (by decide), ((h.in0.own hgw (by decide)).keep (t := 5) (Agree.grown (own := withOwn own g 7) (t := 7) hgr (tagRow h.cl.2 g)) (by decide)).keep ha2 (by decide), ((h.in1.own hgw (by decide)).keep (t := 5) (Agree.grown (own := withOwn own g 7) (t := 7) hgr (tagRow h.cl.2 g)) (by decide)).keep ha2 (by decide), hown.keep ha2 (by decide), rowIs_keep (rowIs_keep h.rg ha (by rw [h.og]; decide)) ha2 (by rw [row_own h.rg h.og hgw (by decide)]; decide), row_own h.rg h.og hgw (by decide), h.hg⟩
theorem Mem.back (h : Mem w B S own i0 i1 E st σ f vl vh vi0 vi1 vc g0 g1 gr) {A : Option Addr} {m c : Nat} (hv : vc = .slice A (m + 1) c) : Mem (w.setCell ⟨S, 11, none⟩ (.slice A m c)) B S own i0 i1 E st { σ with calls := σ.calls.take m } (fun j => if j = 11 then .slice A m c else f j) vl vh vi0 vi1 (.slice A m c) g0 g1 gr := by
  have ha := Agree.setCell (own := own) (t := 0) (w := w) (p := ⟨S, 11, none⟩) h.oS (.slice A m c)
  refine ⟨h.blk.set 11 _, h.oS, h.hS, ⟨by simpa using h.fs.en, by simpa using h.fs.lw, by simpa using h.fs.hg, by simpa using h.fs.u0, by simpa using h.fs.u1, by simpa using h.fs.st, by simpa using h.fs.w0, by simpa using h.fs.w1, by simpa using h.fs.i0, by simpa using h.fs.i1, by simp, by simpa using h.fs.pc, by simpa using h.fs.rs⟩, h.lo.keep ha (by decide), h.hi.keep ha (by decide), h.ol.keep ha (by decide), h.oh.keep ha (by decide), h.in0.keep ha (by decide), h.in1.keep ha (by decide), ?_, rowIs_keep h.rg ha (by rw [h.og]; decide), h.og, h.hg⟩
  exact (out_back h.cl hv).keep ha (by decide)
end
end rm
end mst
end Go.Proofs.Ytpcihajmcejliaa
