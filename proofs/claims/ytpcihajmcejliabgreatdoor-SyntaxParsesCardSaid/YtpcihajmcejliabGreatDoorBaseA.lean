/- Small laws of my own on the model, of no program: a region that draws its order, told with 'drew'. Small laws of my own on worlds: what a call may have turned. Faces: how one lies in memory. Plain words for chapter 1: what num.Op, num.Join and the reference's come to. No program here. Plain words for chapter 8: orders, images, and what a machine does. No program here. Objects, in plain Lean: their bytes. Objects as they lie in memory; how long what is written is: no program's walk. Worlds with some blocks hidden: what data says that lies apart from what a call turns; rows that a call makes out of such data. -/
import Derived.WalkKit
import Derived.WalkLawsBesides
import Derived.StillTailTactics
import Derived.Lib.Hide
import Derived.Deep.Light
import Derived.Deep.QuietTactic
import Derived.Laws.Concat
import Derived.Deep.OwnRows
namespace Go.Proofs.YtpcihajmcejliabGreatDoor
open Go.RowKit
theorem region_tail {P : Program} {id : Nat} {Q : Exit → Act → World → Prop} {a : Act} {w : World} {l : List Oper} (n : Nat) (hm : P.follows .mixedOrders = true) (hB : Region.lexTailB .any l.toArray n = true)
    (h : wpStill P l.toArray w.drew (fun a' => wpList P l.toArray Q (l.drop n) a' w.drew) (l.take n) a) : (Code.region id l.toArray true).wp P Q a w :=
  wp_region_still_tail n hm hB h
theorem ret_bool {a b : Bool} (h : a = b) : Ending.returned (.bool a) = .returned (.bool b) := by rw [h]
theorem ret_int {k : IntKind} {a b : Int} (h : a = b) : Ending.returned (.int k a) = .returned (.int k b) := by rw [h]
theorem bcell {W w1 : World} {B : Nat} (hb : Below B W w1) : (∀ b o, b < B → w1.cell? ⟨b, o, none⟩ = W.cell? ⟨b, o, none⟩) ∧ (∀ b o, b < B → w1.frozen? ⟨b, o, none⟩ = W.frozen? ⟨b, o, none⟩) :=
  ⟨fun b o h => hb.cell (p := ⟨b, o, none⟩) h, fun b o h => hb.frozen (p := ⟨b, o, none⟩) h⟩
theorem cell_al {w : World} {o : Obj} {p : Addr} {v : Value} (h : w.cell? p = some v) : (w.alloc o).cell? p = some v :=
  (World.cell?_alloc_lt w o p (World.block_lt_of_cell? w _ h)).trans h
theorem cell_ad {w : World} {o : Obj} {p : Addr} {v : Value} (h : w.cell? p = some v) : (w.alloc o).drew.cell? p = some v := cell_al h
end Go.Proofs.YtpcihajmcejliabGreatDoor
namespace Go.Proofs.YtpcihajmcejliabGreatDoor
open Go.RowKit
/-- w' is w but for the blocks of S and new ones -/
structure Chg (S : Nat → Prop) (w w' : World) : Prop where
  os : w'.os = w.os
  tape : w'.tape = w.tape
  output : w'.output = w.output
  size : w.heap.size ≤ w'.heap.size
  block : ∀ k, k < w.heap.size → ¬ S k → w'.heap[k]? = w.heap[k]?
/-- nothing that was there is turned -/
abbrev Ext (w w' : World) : Prop := Chg (fun _ => False) w w'
theorem Chg.refl (S : Nat → Prop) (w : World) : Chg S w w := ⟨rfl, rfl, rfl, Nat.le_refl _, fun _ _ _ => rfl⟩
theorem Chg.trans {S : Nat → Prop} {a b c : World} (h : Chg S a b) {S' : Nat → Prop} (k : Chg S' b c) (hs : ∀ i, i < a.heap.size → S' i → S i) : Chg S a c :=
  ⟨k.os.trans h.os, k.tape.trans h.tape, k.output.trans h.output, Nat.le_trans h.size k.size, fun i hi hn => (k.block i (Nat.lt_of_lt_of_le hi h.size) (fun h' => hn (hs i hi h'))).trans (h.block i hi hn)⟩
theorem Chg.then {S : Nat → Prop} {a b c : World} (h : Chg S a b) (k : Chg S b c) : Chg S a c := h.trans k fun _ _ h => h
theorem Chg.ext {S : Nat → Prop} {a b c : World} (h : Chg S a b) (k : Ext b c) : Chg S a c := h.trans k fun _ _ h => h.elim
theorem Chg.weak {S S' : Nat → Prop} {a b : World} (h : Chg S a b) (hs : ∀ i, i < a.heap.size → S i → S' i) : Chg S' a b := (Chg.refl S' a).trans h hs
theorem Chg.drew {S : Nat → Prop} {a w : World} (h : Chg S a w) : Chg S a w.drew := ⟨h.os, h.tape, h.output, h.size, h.block⟩
theorem Chg.drewN {S : Nat → Prop} {a w : World} (h : Chg S a w) (n : Nat) : Chg S a (w.drewN n) := ⟨h.os, h.tape, h.output, h.size, h.block⟩
theorem Chg.alloc {S : Nat → Prop} {a w : World} (h : Chg S a w) (o : Obj) : Chg S a (w.alloc o) :=
  h.ext ⟨rfl, rfl, rfl, by simp, fun k hk _ => Below.heap_alloc _ _ _ hk⟩
theorem Chg.setCell {S : Nat → Prop} {a w : World} (h : Chg S a w) {p : Addr} (hp : p.block < a.heap.size → S p.block) (u : Value) : Chg S a (w.setCell p u) :=
  ⟨h.os, h.tape, h.output, by simpa [World.setCell] using h.size, fun k hk hn => (Below.heap_setCell _ _ _ _ (fun e => hn (by subst e; exact hp hk))).trans (h.block k hk hn)⟩
theorem Chg.setNew {S : Nat → Prop} {a w : World} (h : Chg S a w) {p : Addr} (hp : a.heap.size ≤ p.block) (u : Value) : Chg S a (w.setCell p u) := h.setCell (fun h' => absurd h' (by omega)) u
theorem Ext.below {a w : World} (h : Ext a w) : Below a.heap.size a w := ⟨h.os, h.tape, h.output, h.size, fun k hk => h.block k hk id⟩
theorem Below.chg {a w : World} {B : Nat} (h : Below B a w) : Chg (fun i => B ≤ i) a w := ⟨h.os, h.tape, h.output, h.size, fun k _ hn => h.block k (by omega)⟩
theorem Below.toExt {a w : World} (h : Below a.heap.size a w) : Ext a w := ⟨h.os, h.tape, h.output, h.size, fun k hk _ => h.block k hk⟩
theorem Chg.cell {S : Nat → Prop} {w w' : World} (h : Chg S w w') {p : Addr} (hp : p.block < w.heap.size) (hn : ¬ S p.block) : w'.cell? p = w.cell? p := World.cell?_of_block (w := w) (h.block p.block hp hn)
theorem Chg.frozen {S : Nat → Prop} {w w' : World} (h : Chg S w w') {p : Addr} (hp : p.block < w.heap.size) (hn : ¬ S p.block) : w'.frozen? p = w.frozen? p := World.frozen?_of_block (w := w) (h.block p.block hp hn)
/-- a block known whole, not frozen -/
def Blk (w : World) (b : Nat) (c : Array Value) (T : TypeId) : Prop := w.heap[b]? = some (.cells c T (0, 0))
theorem Blk.lt {w : World} {b : Nat} {c : Array Value} {T : TypeId} (h : Blk w b c T) : b < w.heap.size := by
  unfold Blk at h
  rcases Nat.lt_or_ge b w.heap.size with h' | h'
  · exact h'
  · rw [Array.getElem?_eq_none h'] at h; cases h
theorem Blk.cell {w : World} {b : Nat} {c : Array Value} {T : TypeId} (h : Blk w b c T) (o : Nat) : w.cell? ⟨b, o, none⟩ = c[o]? := by
  unfold Blk at h
  simp [World.cell?, h]
theorem Blk.frozen {w : World} {b : Nat} {c : Array Value} {T : TypeId} (h : Blk w b c T) (o : Nat) : w.frozen? ⟨b, o, none⟩ = false := by
  unfold Blk at h
  simp [World.frozen?, h]
theorem Blk.drew {w : World} {b : Nat} {c : Array Value} {T : TypeId} (h : Blk w b c T) : Blk w.drew b c T := h
theorem Blk.drewN {w : World} {b : Nat} {c : Array Value} {T : TypeId} (h : Blk w b c T) (n : Nat) : Blk (w.drewN n) b c T := h
theorem Blk.alloc {w : World} {b : Nat} {c : Array Value} {T : TypeId} (h : Blk w b c T) (o : Obj) : Blk (w.alloc o) b c T := (Below.heap_alloc _ _ _ h.lt).trans h
theorem Blk.made (w : World) (c : Array Value) (T : TypeId) : Blk (w.alloc (.cells c T)) w.heap.size c T := heap_alloc_new w _
theorem Blk.made2 (w : World) (o : Obj) (c : Array Value) (T : TypeId) : Blk ((w.alloc o).alloc (.cells c T)) (w.heap.size + 1) c T := heap_alloc2_new w _ _
theorem Blk.madeSet (w : World) (p : Addr) (u : Value) (c : Array Value) (T : TypeId) : Blk ((w.setCell p u).alloc (.cells c T)) w.heap.size c T := by
  have h := Blk.made (w.setCell p u) c T
  have e : (w.setCell p u).heap.size = w.heap.size := by simp [World.setCell]
  rwa [e] at h
theorem Blk.chg {S : Nat → Prop} {w w' : World} {b : Nat} {c : Array Value} {T : TypeId} (h : Blk w b c T) (hc : Chg S w w') (hn : ¬ S b) : Blk w' b c T := (hc.block b h.lt hn).trans h
theorem Blk.ext {w w' : World} {b : Nat} {c : Array Value} {T : TypeId} (h : Blk w b c T) (hc : Ext w w') : Blk w' b c T := h.chg hc id
theorem Blk.setOther {w : World} {b : Nat} {c : Array Value} {T : TypeId} (h : Blk w b c T) {p : Addr} (hp : b ≠ p.block) (u : Value) : Blk (w.setCell p u) b c T := (Below.heap_setCell _ _ _ _ hp).trans h
theorem Blk.set {w : World} {b : Nat} {c : Array Value} {T : TypeId} (h : Blk w b c T) (o : Nat) (u : Value) : Blk (w.setCell ⟨b, o, none⟩ u) b (c.setIfInBounds o u) T := by
  unfold Blk at *
  simp [World.setCell, Array.getElem?_modify, h]
theorem results_cell2 {P : Program} {fn : Func} {p q : Tmp} {ty : TypeId} (h : fn.results = #[.cell p ty, .tmp q]) (tmps : Array Value) (w : World) {g : Nat} {T : TypeId} {cs : Array Value} {d : TypeDesc}
    (hp : tmps.getD p undef = .pointer (some ⟨g, 0, none⟩)) (hg : Blk w g cs T) (hu : P.underlying ty = some d) (hd : (match d with | .struct _ | .array _ _ => true | _ => false) = true) (hi : (P.info? ty).map (·.size) = some cs.size) :
    (results fn tmps).run P w = .ok (.tuple #[.agg cs, tmps.getD q undef]) w := by
  have hp' : tmps[p]?.getD undef = .pointer (some ⟨g, 0, none⟩) := by simpa using hp
  simp [results, h, hp', asAddr, run_loadVar_row w g T ty cs (0, 0) d hg hu hd hi]
theorem results_2cell {P : Program} {fn : Func} {p q : Tmp} {ty : TypeId} (h : fn.results = #[.tmp q, .cell p ty]) (tmps : Array Value) (w : World) {g : Nat} {T : TypeId} {cs : Array Value} {d : TypeDesc}
    (hp : tmps.getD p undef = .pointer (some ⟨g, 0, none⟩)) (hg : Blk w g cs T) (hu : P.underlying ty = some d) (hd : (match d with | .struct _ | .array _ _ => true | _ => false) = true) (hi : (P.info? ty).map (·.size) = some cs.size) :
    (results fn tmps).run P w = .ok (.tuple #[tmps.getD q undef, .agg cs]) w := by
  have hp' : tmps[p]?.getD undef = .pointer (some ⟨g, 0, none⟩) := by simpa using hp
  simp [results, h, hp', asAddr, run_loadVar_row w g T ty cs (0, 0) d hg hu hd hi]
theorem quiet_left {P : Program} {f : FuncId} {args : Array Value} {v : Value} (c : ∀ W : World, Calls P f args W fun e w' => e = .returned v ∧ W = w') (w : World) (n : Nat) :
    Calls P f args (w.drewN n) fun e w'' => e = .returned v ∧ ∃ m, w'' = w.drewN m :=
  (c _).mono fun _ _ ⟨he, hm⟩ => ⟨he, n, hm.symm⟩
theorem quiet_add_left {P : Program} {f : FuncId} {args : Array Value} {v : Value} (c : ∀ W : World, Calls P f args W fun e w' => e = .returned v ∧ W = w') (w : World) (a n : Nat) :
    Calls P f args (w.drewN (a + n)) fun e w'' => e = .returned v ∧ ∃ m, w'' = w.drewN (a + m) :=
  (c _).mono fun _ _ ⟨he, hm⟩ => ⟨he, n, hm.symm⟩
theorem quiet_right {P : Program} {f : FuncId} {args : Array Value} {v : Value} (c : ∀ W : World, Calls P f args W fun e w' => e = .returned v ∧ w' = W) (w : World) (n : Nat) :
    Calls P f args (w.drewN n) fun e w'' => e = .returned v ∧ ∃ m, w'' = w.drewN m :=
  (c _).mono fun _ _ ⟨he, hm⟩ => ⟨he, n, hm⟩
theorem quiet_add_right {P : Program} {f : FuncId} {args : Array Value} {v : Value} (c : ∀ W : World, Calls P f args W fun e w' => e = .returned v ∧ w' = W) (w : World) (a n : Nat) :
    Calls P f args (w.drewN (a + n)) fun e w'' => e = .returned v ∧ ∃ m, w'' = w.drewN (a + m) :=
  (c _).mono fun _ _ ⟨he, hm⟩ => ⟨he, n, hm⟩
theorem ownsRow_chg {w w' : World} {base : Nat} {e : TypeId} {size : Nat} {v : Value} {n : Nat} {xs : List Value} {S : Nat → Prop} (h : w.ownsRow base e size v n xs) (hc : Chg S w w') (hn : ∀ k, base ≤ k → ¬ S k) : w'.ownsRow base e size v n xs := by
  obtain ⟨h1, h2⟩ := h
  refine ⟨h1, ?_⟩
  rcases h2 with h2 | ⟨g, cap, cur, hv, hg, hh, r⟩
  · exact .inl h2
  · refine .inr ⟨g, cap, cur, hv, hg, ?_, r⟩
    rw [hc.block g ?_ (hn g hg)]
    · exact hh
    · rcases Nat.lt_or_ge g w.heap.size with h' | h'
      · exact h'
      · rw [Array.getElem?_eq_none h'] at hh; cases hh
theorem ownsRow_ext {w w' : World} {base : Nat} {e : TypeId} {size : Nat} {v : Value} {n : Nat} {xs : List Value} (h : w.ownsRow base e size v n xs) (hc : Ext w w') : w'.ownsRow base e size v n xs := ownsRow_chg h hc fun _ _ h => h
theorem ownsRow_set {w : World} {base : Nat} {e : TypeId} {size : Nat} {v : Value} {n : Nat} {xs : List Value} (h : w.ownsRow base e size v n xs) {p : Addr} (hp : ∀ k, v.ownBlock = some k → k ≠ p.block) (u : Value) : (w.setCell p u).ownsRow base e size v n xs := by
  obtain ⟨h1, h2⟩ := h
  refine ⟨h1, ?_⟩
  rcases h2 with h2 | ⟨g, cap, cur, hv, hg, hh, r⟩
  · exact .inl h2
  · refine .inr ⟨g, cap, cur, hv, hg, ?_, r⟩
    rw [Below.heap_setCell _ _ _ _ (hp g (by rw [hv]; rfl))]
    exact hh
/-- append of cells that lie in a block, to a row of the call's own -/
theorem wpList_append_blk {P : Program} {w : World} {ops : Array Oper} {rest : List Oper} {o : Oper} {a : Act} {Q : Exit → Act → World → Prop} (hgd : o.guard = none) (s x : Operand) (t : TypeId)
    (ho : o.op = .call { callee := .builtin .append, args := #[s, x], argTypes := #[t, t] })
    (base : Nat) (e : TypeId) (z : Value) (size bytes : Nat) (ht : P.underlying t = some (.slice e)) (hinfo : (P.info? e).map (fun i => (i.zero, i.size, i.bytes)) = some (some z, size, bytes))
    (hzs : z.cells.size = size) (hsz : 0 < size)
    (v : Value) (n : Nat) (xs : List Value) (hs : a.eval s = v) (hown : w.ownsRow base e size v n xs)
    (g m c : Nat) (T : TypeId) (news : List Value) (hx : a.eval x = .slice (some ⟨g, 0, none⟩) m c) (hg : Blk w g news.toArray T) (hl : news.length = m * size) (h1 : ∀ u ∈ news, u.oneCell' = true)
    (h63 : n + m ≤ maxLen) (hbytes : (n + m) * bytes ≤ 140737488355328) (hbase : base ≤ w.heap.size)
    (h : ∀ v' w', w'.ownsRow base e size v' (n + m) (xs ++ news) → Chg (fun k => base ≤ k) w w' → (v' = .slice none 0 0 ↔ v = .slice none 0 0 ∧ m = 0) → wpList P ops Q rest (a.put o.dst v') w') : wpList P ops Q (o :: rest) a w := by
  obtain ⟨i0, hi, hz0, hz1, hz2⟩ := info_parts hinfo
  refine wpList_append_own w hgd s x t ho base e i0 z size bytes ht hi hz0 hz1 hz2 hzs hsz v n xs hs hown ⟨g, 0, none⟩ m c news hx hl ?_ h1 h63 hbytes hbase ?_
  · intro j u hj
    have e : (⟨g, 0, none⟩ : Addr).add j = ⟨g, j, none⟩ := by unfold Addr.add; split <;> simp_all
    rw [e, hg.cell]
    simpa using hj
  · intro v' w' h2 h3 h4
    refine h v' w' h2 ⟨h3.os, h3.tape, h3.output, h3.size, fun k hk hn => h3.block k hk ?_⟩ h4
    intro e
    exact hn (hown.lt k e.symm).1
end Go.Proofs.YtpcihajmcejliabGreatDoor
namespace Go.Proofs.YtpcihajmcejliabGreatDoor
open Go.RowKit
structure FVar where
  (name : ByteArray) (pub : Bool) (label size : Int)
structure FProc where
  (name : ByteArray) (pub : Bool) (params : List Int) (writes : Int) (gives : Bool) (given : Int)
structure FFace where
  (modn : ByteArray) (vars : List FVar) (procs : List FProc)
instance : Inhabited FVar := ⟨⟨ByteArray.empty, false, 0, 0⟩⟩
instance : Inhabited FProc := ⟨⟨ByteArray.empty, false, [], 0, false, 0⟩⟩
/-- rows of elements of k cells each, at an address -/
def AllIn {α : Type} (k : Nat) (In : World → Nat → Nat → α → Prop) (w : World) (a : Option Addr) (l : List α) : Prop :=
  ∀ (j : Nat) (h : j < l.length), ∃ b o, a = some ⟨b, o, none⟩ ∧ b < w.heap.size ∧ In w b (o + j * k) l[j]
def IntIn (w : World) (b o : Nat) (x : Int) : Prop := w.cell? ⟨b, o, none⟩ = some (.int .i64 x)
def VarIn (w : World) (b o : Nat) (x : FVar) : Prop :=
  w.cell? ⟨b, o, none⟩ = some (.string x.name) ∧ w.cell? ⟨b, o + 1, none⟩ = some (.bool x.pub) ∧ w.cell? ⟨b, o + 2, none⟩ = some (.int .i64 x.label) ∧ w.cell? ⟨b, o + 3, none⟩ = some (.int .i64 x.size) ∧ x.name.size ≤ maxLen
def ProcIn (w : World) (b o : Nat) (x : FProc) : Prop :=
  w.cell? ⟨b, o, none⟩ = some (.string x.name) ∧ w.cell? ⟨b, o + 1, none⟩ = some (.bool x.pub) ∧ (∃ a cap, w.cell? ⟨b, o + 2, none⟩ = some (.slice a x.params.length cap) ∧ AllIn 1 IntIn w a x.params ∧ x.params.length ≤ cap ∧ cap ≤ maxLen) ∧
    w.cell? ⟨b, o + 3, none⟩ = some (.int .i64 x.writes) ∧ w.cell? ⟨b, o + 4, none⟩ = some (.bool x.gives) ∧ w.cell? ⟨b, o + 5, none⟩ = some (.int .i64 x.given) ∧ x.name.size ≤ maxLen
/-- A face as a value: its module's name, two rows. -/
def FaceAt (w : World) (x : FFace) (v : Value) : Prop :=
  ∃ a m c d, v = .agg #[.string x.modn, .slice a x.vars.length m, .slice c x.procs.length d] ∧ AllIn 4 VarIn w a x.vars ∧ AllIn 6 ProcIn w c x.procs ∧ x.modn.size ≤ maxLen ∧ x.vars.length ≤ m ∧ m ≤ maxLen ∧ x.procs.length ≤ d ∧ d ≤ maxLen
theorem AllIn.mono {α : Type} {k : Nat} {In : World → Nat → Nat → α → Prop} {w w' : World} {a : Option Addr} {l : List α} (h : AllIn k In w a l) (hs : w.heap.size ≤ w'.heap.size)
    (hi : ∀ b o x, b < w.heap.size → In w b o x → In w' b o x) : AllIn k In w' a l := fun j hj => by
  obtain ⟨b, o, e, hb, hin⟩ := h j hj
  exact ⟨b, o, e, by omega, hi _ _ _ hb hin⟩
theorem IntIn.ext {w w' : World} (hE : Ext w w') {b o : Nat} {x : Int} (hb : b < w.heap.size) (h : IntIn w b o x) : IntIn w' b o x := by
  unfold IntIn at *; rw [hE.cell (by exact hb) id]; exact h
theorem VarIn.ext {w w' : World} (hE : Ext w w') {b o : Nat} {x : FVar} (hb : b < w.heap.size) (h : VarIn w b o x) : VarIn w' b o x := by
  unfold VarIn at *
  rw [hE.cell (by exact hb) id, hE.cell (by exact hb) id, hE.cell (by exact hb) id, hE.cell (by exact hb) id]; exact h
theorem ProcIn.ext {w w' : World} (hE : Ext w w') {b o : Nat} {x : FProc} (hb : b < w.heap.size) (h : ProcIn w b o x) : ProcIn w' b o x := by
  obtain ⟨h0, h1, ⟨a, cap, h2, h2i, h2c⟩, h3⟩ := h
  refine ⟨?_, ?_, ⟨a, cap, ?_, h2i.mono hE.size fun _ _ _ hb h => IntIn.ext hE hb h, h2c⟩, ?_⟩
  · rw [hE.cell (by exact hb) id]; exact h0
  · rw [hE.cell (by exact hb) id]; exact h1
  · rw [hE.cell (by exact hb) id]; exact h2
  · rw [hE.cell (by exact hb) id, hE.cell (by exact hb) id, hE.cell (by exact hb) id]; exact h3
theorem FaceAt.ext {w w' : World} (hE : Ext w w') {x : FFace} {v : Value} (h : FaceAt w x v) : FaceAt w' x v := by
  obtain ⟨a, m, c, d, rfl, h1, h2, h3⟩ := h
  exact ⟨a, m, c, d, rfl, h1.mono hE.size fun _ _ _ hb h => VarIn.ext hE hb h, h2.mono hE.size fun _ _ _ hb h => ProcIn.ext hE hb h, h3⟩
end Go.Proofs.YtpcihajmcejliabGreatDoor
namespace Go.Proofs.YtpcihajmcejliabGreatDoor
open Go.RowKit
/-- num.Op, as integers. -/
def opF (op a b : Int) : Int × Bool :=
  if op = 1 then (wrap64 (a + b), true)
  else if op = 2 then (wrap64 (a - b), true)
  else if op = 3 then (wrap64 (a * b), true)
  else if op = 4 then (if b = 0 then 0 else if b = -1 then wrap64 (-a) else wrap64 (a.tdiv b), decide (b ≠ 0))
  else if op = 5 then (if b = 0 then 0 else if b = -1 then 0 else a.tmod b, decide (b ≠ 0))
  else if op = 6 then (bits .and .i64 a b, true)
  else if op = 7 then (bits .or .i64 a b, true)
  else if op = 8 then (if a < b then 1 else 0, true)
  else if op = 9 then (if a = b then 1 else 0, true)
  else (0, false)
def joinF (a b : Int) : Int := if a = 0 ∧ b = 0 then 0 else 1
end Go.Proofs.YtpcihajmcejliabGreatDoor
namespace Go.Proofs.YtpcihajmcejliabGreatDoor
open Go.RowKit
/-- An order. -/
structure Ins where
  op : Int
  a : Int
  b : Int
  c : Int
  n : Int
/-- which fields an order has: A, B, C, N; is there such an order -/
def shapeF (op : Int) : Bool × Bool × Bool × Bool × Bool :=
  if op = 1 ∨ op = 9 ∨ op = 10 then (true, false, false, true, true)
  else if op = 2 then (true, true, false, false, true)
  else if op = 3 ∨ op = 4 ∨ op = 5 ∨ op = 6 ∨ op = 7 then (true, true, false, true, true)
  else if op = 8 ∨ op = 11 then (false, false, false, true, true)
  else if op = 13 ∨ op = 14 ∨ op = 15 ∨ op = 16 then (true, false, false, false, true)
  else if op = 12 ∨ op = 17 then (false, false, false, false, true)
  else (true, true, true, false, decide (20 < op ∧ op ≤ 29))
def regB (is : Bool) (n : Int) : Bool := n == 0 || (is && decide (0 < n) && decide (n < 8))
def lastB (op n many : Int) : Bool :=
  if op = 8 ∨ op = 9 ∨ op = 11 then decide (0 ≤ n) && decide (n < many)
  else if op = 10 then decide (1 ≤ n) && decide (n ≤ 64) else true
theorem lastB_j {op n many : Int} (h : op = 8 ∨ op = 9 ∨ op = 11) : lastB op n many = (decide (0 ≤ n) && decide (n < many)) := if_pos h
theorem lastB_c {op n many : Int} (h : op = 10) : lastB op n many = (decide (1 ≤ n) && decide (n ≤ 64)) := by unfold lastB; rw [if_neg (by omega), if_pos h]
theorem lastB_e {op n many : Int} (h : ¬ (op = 8 ∨ op = 9 ∨ op = 10 ∨ op = 11)) : lastB op n many = true := by unfold lastB; rw [if_neg (by omega), if_neg (by omega)]
def orderB (i : Ins) (many : Int) : Bool :=
  (shapeF i.op).2.2.2.2 && regB (shapeF i.op).1 i.a && regB (shapeF i.op).2.1 i.b && regB (shapeF i.op).2.2.1 i.c &&
    ((shapeF i.op).2.2.2.1 || i.n == 0) && lastB i.op i.n many
def mayB (code : List Ins) (lo hi : Int) : Bool :=
  decide (1 ≤ code.length) && decide (code.length ≤ 20000) && decide (0 ≤ lo) && decide (lo ≤ 20000) && decide (0 ≤ hi) && decide (hi ≤ 20000) && code.all (fun i => orderB i code.length)
end Go.Proofs.YtpcihajmcejliabGreatDoor
namespace Go.Proofs.YtpcihajmcejliabGreatDoor
open Go.RowKit
structure FRel where
  (at_ kind : Int) (modn name : ByteArray)
structure FPlc where
  (name : ByteArray) (at_ : Int)
structure FObj where
  (face : FFace) (imports : List FFace) (code : List Ins) (relocs : List FRel) (procs lows highs : List FPlc) (low high lowF highF : Int)
instance : Inhabited FFace := ⟨⟨ByteArray.empty, [], []⟩⟩
instance : Inhabited Ins := ⟨⟨0, 0, 0, 0, 0⟩⟩
instance : Inhabited FRel := ⟨⟨0, 0, ByteArray.empty, ByteArray.empty⟩⟩
instance : Inhabited FPlc := ⟨⟨ByteArray.empty, 0⟩⟩
/-- the byte of a number that stands s bits up -/
def byteAt (n : Int) (s : Nat) : UInt8 := UInt8.ofNat ((n / 2 ^ s) % 256).toNat
/-- a number's eight bytes -/
def num8 (n : Int) : List UInt8 := [byteAt n 56, byteAt n 48, byteAt n 40, byteAt n 32, byteAt n 24, byteAt n 16, byteAt n 8, byteAt n 0]
def numsL (l : List Int) : List UInt8 := l.flatMap num8
def textL (s : ByteArray) : List UInt8 := num8 s.size ++ s.data.toList
def truthL (b : Bool) : List UInt8 := num8 (if b then 1 else 0)
def varL (v : FVar) : List UInt8 := textL v.name ++ truthL v.pub ++ numsL [v.label, v.size]
def procL (p : FProc) : List UInt8 := textL p.name ++ truthL p.pub ++ num8 p.params.length ++ numsL p.params ++ num8 p.writes ++ truthL p.gives ++ num8 p.given
def faceL (f : FFace) : List UInt8 := textL f.modn ++ num8 f.vars.length ++ f.vars.flatMap varL ++ num8 f.procs.length ++ f.procs.flatMap procL
def plcL (p : FPlc) : List UInt8 := textL p.name ++ num8 p.at_
def placesL (l : List FPlc) : List UInt8 := num8 l.length ++ l.flatMap plcL
def insL (i : Ins) : List UInt8 := numsL [i.op, i.a, i.b, i.c] ++ num8 i.n
def relL (r : FRel) : List UInt8 := numsL [r.at_, r.kind] ++ textL r.modn ++ textL r.name
/-- an object's bytes -/
def objL (o : FObj) : List UInt8 :=
  faceL o.face ++ num8 o.imports.length ++ o.imports.flatMap faceL ++ num8 o.code.length ++ o.code.flatMap insL ++ num8 o.relocs.length ++ o.relocs.flatMap relL ++
    placesL o.procs ++ placesL o.lows ++ placesL o.highs ++ numsL [o.low, o.high, o.lowF, o.highF]
namespace obj
theorem byteAt_div (n : Int) (s : Nat) : byteAt (n / 256) s = byteAt n (s + 8) := by
  unfold byteAt
  rw [Int.ediv_ediv_of_nonneg (by omega), show (256 : Int) * 2 ^ s = 2 ^ (s + 8) by rw [Int.pow_add]; omega]
theorem byteAt_nat (n : Int) (s : Nat) : ((byteAt n s).toNat : Int) = (n / 2 ^ s) % 256 := by
  unfold byteAt
  have h1 : 0 ≤ (n / 2 ^ s) % 256 := Int.emod_nonneg _ (by decide)
  have h2 : (n / 2 ^ s) % 256 < 256 := Int.emod_lt_of_pos _ (by decide)
  rw [UInt8.toNat_ofNat']
  omega
theorem num8_len (n : Int) : (num8 n).length = 8 := rfl
theorem num8_at (n : Int) (j : Nat) (h : j < (num8 n).length) : (num8 n)[j] = byteAt n (56 - 8 * j) := by
  have h8 : j < 8 := h
  have : j = 0 ∨ j = 1 ∨ j = 2 ∨ j = 3 ∨ j = 4 ∨ j = 5 ∨ j = 6 ∨ j = 7 := by omega
  rcases this with rfl | rfl | rfl | rfl | rfl | rfl | rfl | rfl
  all_goals rfl
end obj
end Go.Proofs.YtpcihajmcejliabGreatDoor
namespace Go.Proofs.YtpcihajmcejliabGreatDoor
open Go.RowKit
namespace obj
/-- a row of numbers, read -/
def NumsAt (w : World) (a : Option Addr) (l : List Int) : Prop := AllIn 1 IntIn w a l ∧ ∀ x ∈ l, -9223372036854775808 ≤ x ∧ x ≤ 9223372036854775807
theorem numsL_take (l : List Int) (k : Nat) (h : k < l.length) : numsL (l.take (k + 1)) = numsL (l.take k) ++ num8 l[k] := by
  unfold numsL
  rw [List.take_succ_eq_append_getElem h, List.flatMap_append, List.flatMap_cons, List.flatMap_nil, List.append_nil]
theorem numsL_len (l : List Int) : (numsL l).length = 8 * l.length := by
  unfold numsL
  induction l with
  | nil => rfl
  | cons x r ih => rw [List.flatMap_cons, List.length_append, ih, num8_len, List.length_cons]; omega
theorem NumsAt.ofBlk {w : World} {l : List Int} {T : TypeId} {b : Nat} (h : Blk w b (l.map (Value.int .i64)).toArray T) (hb : ∀ x ∈ l, -9223372036854775808 ≤ x ∧ x ≤ 9223372036854775807) : NumsAt w (some ⟨b, 0, none⟩) l := by
  refine ⟨fun j hj => ⟨b, 0, rfl, h.lt, ?_⟩, hb⟩
  unfold IntIn
  rw [h.cell]
  simp [hj]
end obj
def inI (n : Int) : Prop := -9223372036854775808 ≤ n ∧ n ≤ 9223372036854775807
def PlcIn (w : World) (b o : Nat) (p : FPlc) : Prop := w.cell? ⟨b, o, none⟩ = some (.string p.name) ∧ w.cell? ⟨b, o + 1, none⟩ = some (.int .i64 p.at_) ∧ p.name.size ≤ maxLen ∧ inI p.at_
theorem PlcIn.ext {w w' : World} (hE : Ext w w') {b o : Nat} {x : FPlc} (hb : b < w.heap.size) (h : PlcIn w b o x) : PlcIn w' b o x := by
  unfold PlcIn at *
  rw [hE.cell (by exact hb) id, hE.cell (by exact hb) id]; exact h
namespace obj
theorem places_take (l : List FPlc) (k : Nat) (h : k < l.length) : (l.take (k + 1)).flatMap plcL = (l.take k).flatMap plcL ++ textL l[k].name ++ numsL [l[k].at_] := by
  rw [List.take_succ_eq_append_getElem h, List.flatMap_append, List.flatMap_cons, List.flatMap_nil, List.append_nil, plcL, List.append_assoc]
  simp [numsL]
theorem flat_len {α : Type} (f : α → List UInt8) (l : List α) (k : Nat) : ((l.take k).flatMap f).length ≤ (l.flatMap f).length := by
  conv => rhs; rw [← List.take_append_drop k l, List.flatMap_append, List.length_append]
  omega
end obj
/-- all of a face's numbers are numbers of 64 bits -/
structure FaceNums (x : FFace) : Prop where
  vars : ∀ v ∈ x.vars, inI v.label ∧ inI v.size
  procs : ∀ p ∈ x.procs, (∀ q ∈ p.params, inI q) ∧ inI p.writes ∧ inI p.given
namespace obj
theorem vars_take (l : List FVar) (k : Nat) (h : k < l.length) : (l.take (k + 1)).flatMap varL = (l.take k).flatMap varL ++ (textL l[k].name ++ (truthL l[k].pub ++ numsL [l[k].label, l[k].size])) := by
  rw [List.take_succ_eq_append_getElem h, List.flatMap_append, List.flatMap_cons, List.flatMap_nil, List.append_nil, varL]
  simp only [List.append_assoc]
theorem procs_take (l : List FProc) (k : Nat) (h : k < l.length) : (l.take (k + 1)).flatMap procL = (l.take k).flatMap procL ++ (textL l[k].name ++ (truthL l[k].pub ++ (numsL [(l[k].params.length : Int)] ++ (numsL l[k].params ++ (numsL [l[k].writes] ++ (truthL l[k].gives ++ numsL [l[k].given])))))) := by
  rw [List.take_succ_eq_append_getElem h, List.flatMap_append, List.flatMap_cons, List.flatMap_nil, List.append_nil, procL]
  simp [numsL, List.append_assoc]
theorem text_len (s : ByteArray) : (textL s).length = 8 + s.size := by unfold textL; rw [List.length_append, num8_len, Array.length_toList]; rfl
theorem truth_len (b : Bool) : (truthL b).length = 8 := rfl
theorem flat_many {α : Type} (f : α → List UInt8) (hf : ∀ x, 1 ≤ (f x).length) (m : List α) : m.length ≤ (m.flatMap f).length := by
  induction m with
  | nil => exact Nat.le_refl _
  | cons x r ih => rw [List.flatMap_cons, List.length_append, List.length_cons]; have := hf x; omega
end obj
def FaceIn (w : World) (b o : Nat) (x : FFace) : Prop :=
  ∃ a m c d, w.cell? ⟨b, o, none⟩ = some (.string x.modn) ∧ w.cell? ⟨b, o + 1, none⟩ = some (.slice a x.vars.length m) ∧ w.cell? ⟨b, o + 2, none⟩ = some (.slice c x.procs.length d) ∧ FaceAt w x (.agg #[.string x.modn, .slice a x.vars.length m, .slice c x.procs.length d])
theorem FaceIn.ext {w w' : World} (hE : Ext w w') {b o : Nat} {x : FFace} (hb : b < w.heap.size) (h : FaceIn w b o x) : FaceIn w' b o x := by
  obtain ⟨a, m, c, d, h0, h1, h2, h3⟩ := h
  refine ⟨a, m, c, d, ?_, ?_, ?_, FaceAt.ext hE h3⟩
  · rw [hE.cell (by exact hb) id]; exact h0
  · rw [hE.cell (by exact hb) id]; exact h1
  · rw [hE.cell (by exact hb) id]; exact h2
def InsIn5 (w : World) (b o : Nat) (i : Ins) : Prop :=
  w.cell? ⟨b, o, none⟩ = some (.int .i64 i.op) ∧ w.cell? ⟨b, o + 1, none⟩ = some (.int .i64 i.a) ∧ w.cell? ⟨b, o + 2, none⟩ = some (.int .i64 i.b) ∧ w.cell? ⟨b, o + 3, none⟩ = some (.int .i64 i.c) ∧ w.cell? ⟨b, o + 4, none⟩ = some (.int .i64 i.n)
theorem InsIn5.ext {w w' : World} (hE : Ext w w') {b o : Nat} {x : Ins} (hb : b < w.heap.size) (h : InsIn5 w b o x) : InsIn5 w' b o x := by
  unfold InsIn5 at *
  rw [hE.cell (by exact hb) id, hE.cell (by exact hb) id, hE.cell (by exact hb) id, hE.cell (by exact hb) id, hE.cell (by exact hb) id]; exact h
def RelIn (w : World) (b o : Nat) (r : FRel) : Prop :=
  w.cell? ⟨b, o, none⟩ = some (.int .i64 r.at_) ∧ w.cell? ⟨b, o + 1, none⟩ = some (.int .i64 r.kind) ∧ w.cell? ⟨b, o + 2, none⟩ = some (.string r.modn) ∧ w.cell? ⟨b, o + 3, none⟩ = some (.string r.name)
theorem RelIn.ext {w w' : World} (hE : Ext w w') {b o : Nat} {x : FRel} (hb : b < w.heap.size) (h : RelIn w b o x) : RelIn w' b o x := by
  unfold RelIn at *
  rw [hE.cell (by exact hb) id, hE.cell (by exact hb) id, hE.cell (by exact hb) id, hE.cell (by exact hb) id]; exact h
/-- all of an object's numbers are numbers of 64 bits -/
structure ObjNums (x : FObj) : Prop where
  face : FaceNums x.face
  imports : ∀ f ∈ x.imports, FaceNums f
  code : ∀ i ∈ x.code, (∀ y ∈ [i.op, i.a, i.b, i.c], -9223372036854775808 ≤ y ∧ y ≤ 9223372036854775807) ∧ (-9223372036854775808 ≤ i.n ∧ i.n ≤ 9223372036854775807)
  relocs : ∀ r ∈ x.relocs, ∀ y ∈ [r.at_, r.kind], -9223372036854775808 ≤ y ∧ y ≤ 9223372036854775807
  words : ∀ y ∈ [x.low, x.high, x.lowF, x.highF], -9223372036854775808 ≤ y ∧ y ≤ 9223372036854775807
/-- An object as a value. -/
structure ObjAt (w : World) (x : FObj) (v : Value) : Prop where
  ex : ∃ fa am fc cm ia ic ca cc ra rc pa pc la lc ha hc, v = .agg #[.string x.face.modn, .slice fa x.face.vars.length am, .slice fc x.face.procs.length cm, .slice ia x.imports.length ic, .slice ca x.code.length cc, .slice ra x.relocs.length rc, .slice pa x.procs.length pc, .slice la x.lows.length lc, .slice ha x.highs.length hc, .int .i64 x.low, .int .i64 x.high, .int .i64 x.lowF, .int .i64 x.highF] ∧
    FaceAt w x.face (.agg #[.string x.face.modn, .slice fa x.face.vars.length am, .slice fc x.face.procs.length cm]) ∧
    AllIn 3 FaceIn w ia x.imports ∧ AllIn 5 InsIn5 w ca x.code ∧ AllIn 4 RelIn w ra x.relocs ∧ AllIn 2 PlcIn w pa x.procs ∧ AllIn 2 PlcIn w la x.lows ∧ AllIn 2 PlcIn w ha x.highs
theorem ObjAt.ext {w w' : World} (hE : Ext w w') {x : FObj} {v : Value} (h : ObjAt w x v) : ObjAt w' x v := by
  obtain ⟨fa, am, fc, cm, ia, ic, ca, cc, ra, rc, pa, pc, la, lc, ha, hc, rfl, h0, h1, h2, h3, h4, h5, h6⟩ := h.ex
  exact ⟨fa, am, fc, cm, ia, ic, ca, cc, ra, rc, pa, pc, la, lc, ha, hc, rfl, FaceAt.ext hE h0, h1.mono hE.size fun _ _ _ hb h => FaceIn.ext hE hb h, h2.mono hE.size fun _ _ _ hb h => InsIn5.ext hE hb h, h3.mono hE.size fun _ _ _ hb h => RelIn.ext hE hb h, h4.mono hE.size fun _ _ _ hb h => PlcIn.ext hE hb h, h5.mono hE.size fun _ _ _ hb h => PlcIn.ext hE hb h, h6.mono hE.size fun _ _ _ hb h => PlcIn.ext hE hb h⟩
namespace obj
theorem flat_take {α : Type} (f : α → List UInt8) (l : List α) (k : Nat) (h : k < l.length) : (l.take (k + 1)).flatMap f = (l.take k).flatMap f ++ f l[k] := by
  rw [List.take_succ_eq_append_getElem h, List.flatMap_append, List.flatMap_cons, List.flatMap_nil, List.append_nil]
theorem plc_all {a : Option Addr} {l : List FPlc} {w w' : World} (h : AllIn 2 PlcIn w a l) (hE : Ext w w') : AllIn 2 PlcIn w' a l := h.mono hE.size fun _ _ _ hb h => PlcIn.ext hE hb h
end obj
end Go.Proofs.YtpcihajmcejliabGreatDoor
namespace Go.Proofs.YtpcihajmcejliabGreatDoor
open Go.RowKit
/-- the blocks that M names are hidden -/
def hide (M : Nat → Bool) (w : World) : World := { w with heap := w.heap.mapIdx fun i o => if M i then .cells #[] 0 else o }
theorem hide_size (M : Nat → Bool) (w : World) : (hide M w).heap.size = w.heap.size := by simp [hide]
theorem hide_at (M : Nat → Bool) (w : World) (i : Nat) (h : M i = false) : (hide M w).heap[i]? = w.heap[i]? := by
  simp [hide, h]
theorem hide_cell_not (M : Nat → Bool) (w : World) (p : Addr) (h : M p.block = true) : (hide M w).cell? p = none := by
  unfold World.cell?
  by_cases hp : p.block < w.heap.size
  · simp [hide, h, hp]
  · simp [hide, hp]
theorem hide_cell (M : Nat → Bool) (w : World) (p : Addr) (h : M p.block = false) : (hide M w).cell? p = w.cell? p := World.cell?_of_block (hide_at M w p.block h)
/-- what was there to be read is there to be read -/
def Keeps (w w' : World) : Prop := w.heap.size ≤ w'.heap.size ∧ ∀ p u, w.cell? p = some u → w'.cell? p = some u
theorem Keeps.refl (w : World) : Keeps w w := ⟨Nat.le_refl _, fun _ _ h => h⟩
theorem Keeps.trans {a b c : World} (h : Keeps a b) (k : Keeps b c) : Keeps a c := ⟨Nat.le_trans h.1 k.1, fun p u hp => k.2 p u (h.2 p u hp)⟩
theorem keeps_hide {M M' : Nat → Bool} {w w' : World} (hs : w.heap.size ≤ w'.heap.size) (h : ∀ i, i < w.heap.size → M i = false → M' i = false ∧ w'.heap[i]? = w.heap[i]?) : Keeps (hide M w) (hide M' w') := by
  refine ⟨by rw [hide_size, hide_size]; exact hs, fun p u hp => ?_⟩
  cases hM : M p.block with
  | true => rw [hide_cell_not M w p hM] at hp; cases hp
  | false =>
    rw [hide_cell M w p hM] at hp
    obtain ⟨h1, h2⟩ := h p.block (World.block_lt_of_cell? w p hp) hM
    rw [hide_cell M' w' p h1, World.cell?_of_block h2]
    exact hp
theorem keeps_bare (M : Nat → Bool) (w : World) : Keeps (hide M w) w := ⟨by rw [hide_size]; exact Nat.le_refl _, fun p _ hp => by
  cases hM : M p.block with
  | true => rw [hide_cell_not M w p hM] at hp; cases hp
  | false => rw [hide_cell M w p hM] at hp; exact hp⟩
theorem keeps_chg {M : Nat → Bool} {S : Nat → Prop} {w w' : World} (h : Chg S w w') (hS : ∀ i, i < w.heap.size → S i → M i = true) : Keeps (hide M w) (hide M w') :=
  keeps_hide h.size fun i hi hm => ⟨hm, h.block i hi fun hs => by have := hS i hi hs; rw [this] at hm; cases hm⟩
theorem Ext.keeps {w w' : World} (h : Ext w w') : Keeps w w' := ⟨h.size, fun p _ hp => (h.cell (World.block_lt_of_cell? w p hp) id).trans hp⟩
theorem AllIn.keeps {α : Type} {k : Nat} {In : World → Nat → Nat → α → Prop} {w w' : World} {a : Option Addr} {l : List α} (h : AllIn k In w a l) (hk : Keeps w w')
    (hi : ∀ b o x, In w b o x → In w' b o x) : AllIn k In w' a l := fun j hj => by
  obtain ⟨b, o, e, hb, hin⟩ := h j hj
  exact ⟨b, o, e, Nat.lt_of_lt_of_le hb hk.1, hi _ _ _ hin⟩
theorem IntIn.keeps {w w' : World} (h : Keeps w w') {b o : Nat} {x : Int} (hx : IntIn w b o x) : IntIn w' b o x := h.2 _ _ hx
theorem VarIn.keeps {w w' : World} (h : Keeps w w') {b o : Nat} {x : FVar} (hx : VarIn w b o x) : VarIn w' b o x :=
  ⟨h.2 _ _ hx.1, h.2 _ _ hx.2.1, h.2 _ _ hx.2.2.1, h.2 _ _ hx.2.2.2.1, hx.2.2.2.2⟩
theorem ProcIn.keeps {w w' : World} (h : Keeps w w') {b o : Nat} {x : FProc} (hx : ProcIn w b o x) : ProcIn w' b o x := by
  obtain ⟨h0, h1, ⟨a, cap, h2, h2i, h2c⟩, h3, h4, h5, h6⟩ := hx
  exact ⟨h.2 _ _ h0, h.2 _ _ h1, ⟨a, cap, h.2 _ _ h2, h2i.keeps h fun _ _ _ => IntIn.keeps h, h2c⟩, h.2 _ _ h3, h.2 _ _ h4, h.2 _ _ h5, h6⟩
theorem FaceAt.keeps {w w' : World} (hk : Keeps w w') {x : FFace} {v : Value} (h : FaceAt w x v) : FaceAt w' x v := by
  obtain ⟨a, m, c, d, rfl, h1, h2, h3⟩ := h
  exact ⟨a, m, c, d, rfl, h1.keeps hk fun _ _ _ => VarIn.keeps hk, h2.keeps hk fun _ _ _ => ProcIn.keeps hk, h3⟩
theorem FaceIn.keeps {w w' : World} (hk : Keeps w w') {b o : Nat} {x : FFace} (h : FaceIn w b o x) : FaceIn w' b o x := by
  obtain ⟨a, m, c, d, h0, h1, h2, h3⟩ := h
  exact ⟨a, m, c, d, hk.2 _ _ h0, hk.2 _ _ h1, hk.2 _ _ h2, FaceAt.keeps hk h3⟩
theorem PlcIn.keeps {w w' : World} (hk : Keeps w w') {b o : Nat} {x : FPlc} (h : PlcIn w b o x) : PlcIn w' b o x := ⟨hk.2 _ _ h.1, hk.2 _ _ h.2.1, h.2.2⟩
theorem InsIn5.keeps {w w' : World} (hk : Keeps w w') {b o : Nat} {x : Ins} (h : InsIn5 w b o x) : InsIn5 w' b o x := ⟨hk.2 _ _ h.1, hk.2 _ _ h.2.1, hk.2 _ _ h.2.2.1, hk.2 _ _ h.2.2.2.1, hk.2 _ _ h.2.2.2.2⟩
theorem RelIn.keeps {w w' : World} (hk : Keeps w w') {b o : Nat} {x : FRel} (h : RelIn w b o x) : RelIn w' b o x := ⟨hk.2 _ _ h.1, hk.2 _ _ h.2.1, hk.2 _ _ h.2.2.1, hk.2 _ _ h.2.2.2⟩
theorem ObjAt.keeps {w w' : World} (hk : Keeps w w') {x : FObj} {v : Value} (h : ObjAt w x v) : ObjAt w' x v := by
  obtain ⟨fa, am, fc, cm, ia, ic, ca, cc, ra, rc, pa, pc, la, lc, ha, hc, rfl, h0, h1, h2, h3, h4, h5, h6⟩ := h.ex
  exact ⟨fa, am, fc, cm, ia, ic, ca, cc, ra, rc, pa, pc, la, lc, ha, hc, rfl, FaceAt.keeps hk h0, h1.keeps hk fun _ _ _ => FaceIn.keeps hk, h2.keeps hk fun _ _ _ => InsIn5.keeps hk, h3.keeps hk fun _ _ _ => RelIn.keeps hk, h4.keeps hk fun _ _ _ => PlcIn.keeps hk, h5.keeps hk fun _ _ _ => PlcIn.keeps hk, h6.keeps hk fun _ _ _ => PlcIn.keeps hk⟩
/-- a slice whose elements are these -/
def RowAt {α : Type} (k : Nat) (In : World → Nat → Nat → α → Prop) (l : List α) (v : Value) (w : World) : Prop := ∃ a c, v = .slice a l.length c ∧ l.length ≤ c ∧ c ≤ maxLen ∧ AllIn k In w a l
theorem RowAt.keeps {α : Type} {k : Nat} {In : World → Nat → Nat → α → Prop} {l : List α} {v : Value} {w w' : World} (hi : ∀ b o x, In w b o x → In w' b o x) (hk : Keeps w w') (h : RowAt k In l v w) : RowAt k In l v w' := by
  obtain ⟨a, c, e, h1, h2, h3⟩ := h
  exact ⟨a, c, e, h1, h2, h3.keeps hk hi⟩
/-- blocks below B -/
def below (B : Nat) : Nat → Bool := fun i => decide (i < B)
/-- blocks below B, and the block of a row -/
def rowHid (B : Nat) (v : Value) : Nat → Bool := fun i => decide (i < B) || decide (v.ownBlock = some i)
/-- a row of the call's own whose elements' data lie elsewhere, none of it below B -/
structure Grow {α : Type} (k : Nat) (E : TypeId) (V : α → Value → World → Prop) (B : Nat) (w : World) (v : Value) (l : List α) : Prop where
  ex : ∃ us : List Value, us.length = l.length ∧ w.ownsRow B E k v l.length (us.flatMap fun u => u.cells.toList) ∧ ∀ j (h : j < l.length) (h' : j < us.length), V l[j] us[j] (hide (rowHid B v) w) ∧ us[j].cells.size = k
theorem Grow.nil {α : Type} (k : Nat) (E : TypeId) (V : α → Value → World → Prop) (B : Nat) (w : World) : Grow k E V B w (.slice none 0 0) [] :=
  ⟨[], rfl, World.ownsRow_nil _ _ _ _, fun j h => by simp at h⟩
theorem Grow.chg {α : Type} {k : Nat} {E : TypeId} {V : α → Value → World → Prop} {B : Nat} {w w' : World} {v : Value} {l : List α} (h : Grow k E V B w v l) (hV : ∀ x u w w', Keeps w w' → V x u w → V x u w')
    {S : Nat → Prop} (hc : Chg S w w') (hS : ∀ i, S i → i < B) : Grow k E V B w' v l := by
  obtain ⟨us, h1, h2, h3⟩ := h.ex
  refine ⟨us, h1, ownsRow_chg h2 hc fun i hi hs => by have := hS i hs; omega, fun j hj hj' => ?_⟩
  obtain ⟨h4, h5⟩ := h3 j hj hj'
  exact ⟨hV _ _ _ _ (keeps_chg hc fun i _ hs => by simp [rowHid, hS i hs]) h4, h5⟩
theorem Grow.own {α : Type} {k : Nat} {E : TypeId} {V : α → Value → World → Prop} {B : Nat} {w : World} {v : Value} {l : List α} (h : Grow k E V B w v l) : ∃ xs, w.ownsRow B E k v l.length xs := by
  obtain ⟨us, h1, h2, h3⟩ := h.ex
  exact ⟨_, h2⟩
/-- one more, behind an append -/
theorem Grow.push {α : Type} {k : Nat} {E : TypeId} {V : α → Value → World → Prop} {B : Nat} {w w' : World} {v v' : Value} {l : List α} {x : α} {u : Value} {us : List Value}
    (hV : ∀ x u w w', Keeps w w' → V x u w → V x u w')
    (h1 : us.length = l.length) (h3 : ∀ j (h : j < l.length) (h' : j < us.length), V l[j] us[j] (hide (rowHid B v) w) ∧ us[j].cells.size = k)
    (hu : V x u (hide (rowHid B v) w)) (huk : u.cells.size = k)
    (ho : w'.ownsRow B E k v' (l.length + 1) (us.flatMap (fun u => u.cells.toList) ++ u.cells.toList))
    (hs : w.heap.size ≤ w'.heap.size) (hb : ∀ i, i < w.heap.size → v.ownBlock ≠ some i → w'.heap[i]? = w.heap[i]?)
    (hv : ∀ i, v'.ownBlock = some i → v.ownBlock = some i ∨ w.heap.size ≤ i) : Grow k E V B w' v' (l ++ [x]) := by
  have hk : Keeps (hide (rowHid B v) w) (hide (rowHid B v') w') := keeps_hide hs fun i hi hm => by
    simp only [rowHid, Bool.or_eq_false_iff, decide_eq_false_iff_not] at hm ⊢
    refine ⟨⟨hm.1, fun e => ?_⟩, hb i hi hm.2⟩
    rcases hv i e with h | h
    · exact hm.2 h
    · omega
  refine ⟨us ++ [u], by simp [h1], by simpa using ho, fun j hj hj' => ?_⟩
  by_cases hl : j < l.length
  · have hl' : j < us.length := by omega
    rw [List.getElem_append_left hl, List.getElem_append_left hl']
    obtain ⟨h4, h5⟩ := h3 j hl hl'
    exact ⟨hV _ _ _ _ hk h4, h5⟩
  · rw [List.length_append, List.length_singleton] at hj
    obtain rfl : j = l.length := by omega
    rw [List.getElem_append_right (Nat.le_refl _), List.getElem_append_right (by omega)]
    simp only [Nat.sub_self, h1, List.getElem_singleton]
    exact ⟨hV _ _ _ _ hk hu, huk⟩
theorem flat_at (k : Nat) (us : List Value) (hk : ∀ u ∈ us, u.cells.size = k) (j : Nat) (hj : j < us.length) (i : Nat) (hi : i < k) : (us.flatMap fun u => u.cells.toList)[j * k + i]? = us[j].cells[i]? := by
  induction us generalizing j with
  | nil => simp at hj
  | cons u r ih =>
    have hu : u.cells.toList.length = k := by rw [Array.length_toList]; exact hk u (by simp)
    rw [List.flatMap_cons]
    cases j with
    | zero =>
      rw [Nat.zero_mul, Nat.zero_add, List.getElem?_append_left (by omega)]
      simp
    | succ j =>
      rw [Nat.succ_mul, List.getElem?_append_right (by omega), show j * k + k + i - u.cells.toList.length = j * k + i by omega]
      exact ih (fun u hu => hk u (by simp [hu])) j (by simpa using hj)
theorem Grow.row {α : Type} {k : Nat} {E : TypeId} {V : α → Value → World → Prop} {In : World → Nat → Nat → α → Prop} {B : Nat} {w : World} {v : Value} {l : List α} (h : Grow k E V B w v l)
    (hV : ∀ x u w w', Keeps w w' → V x u w → V x u w')
    (hI : ∀ (w : World) b o x u, V x u w → u.cells.size = k → (∀ i, i < k → w.cell? ⟨b, o + i, none⟩ = u.cells[i]?) → In w b o x) : RowAt k In l v (hide (below B) w) := by
  obtain ⟨us, h1, h2, h3⟩ := h.ex
  rcases h2.2 with ⟨rfl, h0⟩ | ⟨g, cap, cur, rfl, hB, hg, hc1, hc2, hc3, hc4⟩
  · refine ⟨none, 0, by rw [h0], by omega, by decide, fun j hj => by omega⟩
  · refine ⟨_, cap, rfl, hc1, hc2, fun j hj => ⟨g, 0, rfl, ?_, ?_⟩⟩
    · rw [hide_size]; exact (Array.getElem?_eq_some_iff.1 hg).1
    · have hj' : j < us.length := by omega
      obtain ⟨h4, h5⟩ := h3 j hj hj'
      refine hI _ _ _ _ us[j] (hV _ _ _ _ (keeps_hide (Nat.le_refl _) fun i hi hm => ?_) h4) h5 fun i hi => ?_
      · simp only [rowHid, below, Bool.or_eq_false_iff, decide_eq_false_iff_not] at hm ⊢
        exact ⟨hm.1, trivial⟩
      · rw [hide_cell _ _ _ (by simp [below]; omega)]
        have hall : ∀ u ∈ us, u.cells.size = k := fun u hu => by
          obtain ⟨q, hq, rfl⟩ := List.getElem_of_mem hu
          exact (h3 q (by omega) hq).2
        rw [← flat_at k us hall j hj' i hi, ← hc4, List.getElem?_take, if_pos (by
          have : (j + 1) * k ≤ l.length * k := Nat.mul_le_mul_right _ (by omega)
          rw [Nat.succ_mul] at this; omega)]
        rw [cell_of_row w g _ cur E (0, 0) hg]
        simp
end Go.Proofs.YtpcihajmcejliabGreatDoor
