/- Small laws of my own on the model, of no program: a region that draws its order, told with 'drew'. Small laws of my own on worlds: what a call may have turned. Faces: how one lies in memory. Plain words for chapter 1: what num.Op, num.Join and the reference's come to. No program here. Objects, in plain Lean: their bytes. Objects as they lie in memory; how long what is written is: no program's walk. Worlds with some blocks hidden: what data says that lies apart from what a call turns; rows that a call makes out of such data. The walks of package lex: bytes, runs, blanks. The walks of scanner.run, at each function that it is handed. What package lex makes of a text, in plain Lean. The walk of scanner.blanks. Rows of digits, in plain Lean: how the library's reading of a number and the comparison with the greatest one agree. -/
import Derived.WalkKit
import Derived.WalkLawsBesides
import Derived.StillTailTactics
import Derived.Lib.Hide
import Derived.Deep.Light
import Derived.Deep.QuietTactic
import Derived.Laws.Concat
import Derived.Deep.OwnRows
import Derived.Test.YtpcihajmcejliacGreatDoorProg
import Derived.BigQuiet
import Derived.Lib.ParseIntB
import Derived.Lib.SlTrimSet
namespace Go.Proofs.YtpcihajmcejliacGreatDoor
open Go.RowKit
theorem Z_ {p : Prop} (h : p) : Hid p := h
theorem ret_bool {a b : Bool} (h : a = b) : Ending.returned (.bool a) = .returned (.bool b) := by rw [h]
end Go.Proofs.YtpcihajmcejliacGreatDoor
namespace Go.Proofs.YtpcihajmcejliacGreatDoor
open Go.RowKit
structure Chg (S : Nat → Prop) (w w' : World) : Prop where
 os : w'.os = w.os
 tape : w'.tape = w.tape
 output : w'.output = w.output
 size : w.heap.size ≤ w'.heap.size
 block : ∀ k, k < w.heap.size → ¬ S k → w'.heap[k]? = w.heap[k]?
abbrev Ext (w w' : World) : Prop := Chg (fun _ => False) w w'
theorem Chg.refl (S : Nat → Prop) (w : World) : Chg S w w := ⟨rfl, rfl, rfl, Nat.le_refl _, fun _ _ _ => rfl⟩
theorem Chg.trans {S : Nat → Prop} {a b c : World} (h : Chg S a b) {S' : Nat → Prop} (k : Chg S' b c) (hs : ∀ i, i < a.heap.size → S' i → S i) : Chg S a c :=
 ⟨k.os.trans h.os, k.tape.trans h.tape, k.output.trans h.output, Nat.le_trans h.size k.size, fun i hi hn => (k.block i (Nat.lt_of_lt_of_le hi h.size) (fun h' => hn (hs i hi h'))).trans (h.block i hi hn)⟩
theorem Chg.then {S : Nat → Prop} {a b c : World} (h : Chg S a b) (k : Chg S b c) : Chg S a c := h.trans k fun _ _ h => h
theorem Chg.ext {S : Nat → Prop} {a b c : World} (h : Chg S a b) (k : Ext b c) : Chg S a c := h.trans k fun _ _ h => h.elim
theorem Chg.weak {S S' : Nat → Prop} {a b : World} (h : Chg S a b) (hs : ∀ i, i < a.heap.size → S i → S' i) : Chg S' a b := (Chg.refl S' a).trans h hs
theorem Chg.drew {S : Nat → Prop} {a w : World} (h : Chg S a w) : Chg S a w.drew := ⟨h.os, h.tape, h.output, h.size, h.block⟩
theorem Chg.drewN {S : Nat → Prop} {a w : World} (h : Chg S a w) (n : Nat) : Chg S a (w.drewN n) := ⟨h.os, h.tape, h.output, h.size, h.block⟩
theorem Chg.alloc {S : Nat → Prop} {a w : World} (h : Chg S a w) (o : Obj) : Chg S a (w.alloc o) :=
 h.ext ⟨rfl, rfl, rfl, by simp, fun k hk _ => Below.heap_alloc _ _ _ hk⟩
theorem Chg.setCell {S : Nat → Prop} {a w : World} (h : Chg S a w) {p : Addr} (hp : p.block < a.heap.size → S p.block) (u : Value) : Chg S a (w.setCell p u) :=
 ⟨h.os, h.tape, h.output, by simpa [World.setCell] using h.size, fun k hk hn => (Below.heap_setCell _ _ _ _ (fun e => hn (by subst e; exact hp hk))).trans (h.block k hk hn)⟩
theorem Chg.setNew {S : Nat → Prop} {a w : World} (h : Chg S a w) {p : Addr} (hp : a.heap.size ≤ p.block) (u : Value) : Chg S a (w.setCell p u) := h.setCell (fun h' => absurd h' (by omega)) u
theorem Ext.below {a w : World} (h : Ext a w) : Below a.heap.size a w := ⟨h.os, h.tape, h.output, h.size, fun k hk => h.block k hk id⟩
theorem Below.toExt {a w : World} (h : Below a.heap.size a w) : Ext a w := ⟨h.os, h.tape, h.output, h.size, fun k hk _ => h.block k hk⟩
theorem Chg.cell {S : Nat → Prop} {w w' : World} (h : Chg S w w') {p : Addr} (hp : p.block < w.heap.size) (hn : ¬ S p.block) : w'.cell? p = w.cell? p := World.cell?_of_block (w := w) (h.block p.block hp hn)
def Blk (w : World) (b : Nat) (c : Array Value) (T : TypeId) : Prop := w.heap[b]? = some (.cells c T (0, 0))
theorem Blk.lt {w : World} {b : Nat} {c : Array Value} {T : TypeId} (h : Blk w b c T) : b < w.heap.size := by
 unfold Blk at h; rcases Nat.lt_or_ge b w.heap.size with h' | h'
 ·exact h'
 ·rw [Array.getElem?_eq_none h'] at h; cases h
theorem Blk.cell {w : World} {b : Nat} {c : Array Value} {T : TypeId} (h : Blk w b c T) (o : Nat) : w.cell? ⟨b, o, none⟩ = c[o]? := by
 unfold Blk at h; simp [World.cell?, h]
theorem Blk.frozen {w : World} {b : Nat} {c : Array Value} {T : TypeId} (h : Blk w b c T) (o : Nat) : w.frozen? ⟨b, o, none⟩ = false := by
 unfold Blk at h; simp [World.frozen?, h]
theorem Blk.drew {w : World} {b : Nat} {c : Array Value} {T : TypeId} (h : Blk w b c T) : Blk w.drew b c T := h
theorem Blk.drewN {w : World} {b : Nat} {c : Array Value} {T : TypeId} (h : Blk w b c T) (n : Nat) : Blk (w.drewN n) b c T := h
theorem Blk.alloc {w : World} {b : Nat} {c : Array Value} {T : TypeId} (h : Blk w b c T) (o : Obj) : Blk (w.alloc o) b c T := (Below.heap_alloc _ _ _ h.lt).trans h
theorem Blk.made (w : World) (c : Array Value) (T : TypeId) : Blk (w.alloc (.cells c T)) w.heap.size c T := heap_alloc_new w _
theorem Blk.made2 (w : World) (o : Obj) (c : Array Value) (T : TypeId) : Blk ((w.alloc o).alloc (.cells c T)) (w.heap.size + 1) c T := heap_alloc2_new w _ _
theorem Blk.chg {S : Nat → Prop} {w w' : World} {b : Nat} {c : Array Value} {T : TypeId} (h : Blk w b c T) (hc : Chg S w w') (hn : ¬ S b) : Blk w' b c T := (hc.block b h.lt hn).trans h
theorem Blk.ext {w w' : World} {b : Nat} {c : Array Value} {T : TypeId} (h : Blk w b c T) (hc : Ext w w') : Blk w' b c T := h.chg hc id
theorem Blk.setOther {w : World} {b : Nat} {c : Array Value} {T : TypeId} (h : Blk w b c T) {p : Addr} (hp : b ≠ p.block) (u : Value) : Blk (w.setCell p u) b c T := (Below.heap_setCell _ _ _ _ hp).trans h
theorem Blk.set {w : World} {b : Nat} {c : Array Value} {T : TypeId} (h : Blk w b c T) (o : Nat) (u : Value) : Blk (w.setCell ⟨b, o, none⟩ u) b (c.setIfInBounds o u) T := by
 unfold Blk at *; simp [World.setCell, Array.getElem?_modify, h]
theorem results_cell2 {P : Program} {fn : Func} {p q : Tmp} {ty : TypeId} (h : fn.results = #[.cell p ty, .tmp q]) (tmps : Array Value) (w : World) {g : Nat} {T : TypeId} {cs : Array Value} {d : TypeDesc}
  (hp : tmps.getD p undef = .pointer (some ⟨g, 0, none⟩)) (hg : Blk w g cs T) (hu : P.underlying ty = some d) (hd : (match d with | .struct _ | .array _ _ => true | _ => false) = true) (hi : (P.info? ty).map (·.size) = some cs.size) :
  (results fn tmps).run P w = .ok (.tuple #[.agg cs, tmps.getD q undef]) w := by
 have hp' : tmps[p]?.getD undef = .pointer (some ⟨g, 0, none⟩) := by simpa using hp
 simp [results, h, hp', asAddr, run_loadVar_row w g T ty cs (0, 0) d hg hu hd hi]
theorem results_2cell {P : Program} {fn : Func} {p q : Tmp} {ty : TypeId} (h : fn.results = #[.tmp q, .cell p ty]) (tmps : Array Value) (w : World) {g : Nat} {T : TypeId} {cs : Array Value} {d : TypeDesc}
  (hp : tmps.getD p undef = .pointer (some ⟨g, 0, none⟩)) (hg : Blk w g cs T) (hu : P.underlying ty = some d) (hd : (match d with | .struct _ | .array _ _ => true | _ => false) = true) (hi : (P.info? ty).map (·.size) = some cs.size) :
  (results fn tmps).run P w = .ok (.tuple #[tmps.getD q undef, .agg cs]) w := by
 have hp' : tmps[p]?.getD undef = .pointer (some ⟨g, 0, none⟩) := by simpa using hp
 simp [results, h, hp', asAddr, run_loadVar_row w g T ty cs (0, 0) d hg hu hd hi]
theorem quiet_add_right {P : Program} {f : FuncId} {args : Array Value} {v : Value} (c : ∀ W : World, Calls P f args W fun e w' => e = .returned v ∧ w' = W) (w : World) (a n : Nat) :
  Calls P f args (w.drewN (a + n)) fun e w'' => e = .returned v ∧ ∃ m, w'' = w.drewN (a + m) :=
 (c _).mono fun _ _ ⟨he, hm⟩ => ⟨he, n, hm⟩
theorem ownsRow_chg {w w' : World} {base : Nat} {e : TypeId} {size : Nat} {v : Value} {n : Nat} {xs : List Value} {S : Nat → Prop} (h : w.ownsRow base e size v n xs) (hc : Chg S w w') (hn : ∀ k, base ≤ k → ¬ S k) : w'.ownsRow base e size v n xs := by
 obtain ⟨h1, h2⟩ := h; refine ⟨h1, ?_⟩
 rcases h2 with h2 | ⟨g, cap, cur, hv, hg, hh, r⟩
 ·exact .inl h2
 ·refine .inr ⟨g, cap, cur, hv, hg, ?_, r⟩
  rw [hc.block g ?_ (hn g hg)]
  ·exact hh
  ·rcases Nat.lt_or_ge g w.heap.size with h' | h'
   ·exact h'
   ·rw [Array.getElem?_eq_none h'] at hh; cases hh
theorem ownsRow_ext {w w' : World} {base : Nat} {e : TypeId} {size : Nat} {v : Value} {n : Nat} {xs : List Value} (h : w.ownsRow base e size v n xs) (hc : Ext w w') : w'.ownsRow base e size v n xs := ownsRow_chg h hc fun _ _ h => h
theorem ownsRow_set {w : World} {base : Nat} {e : TypeId} {size : Nat} {v : Value} {n : Nat} {xs : List Value} (h : w.ownsRow base e size v n xs) {p : Addr} (hp : ∀ k, v.ownBlock = some k → k ≠ p.block) (u : Value) : (w.setCell p u).ownsRow base e size v n xs := by
 obtain ⟨h1, h2⟩ := h; refine ⟨h1, ?_⟩
 rcases h2 with h2 | ⟨g, cap, cur, hv, hg, hh, r⟩
 ·exact .inl h2
 ·refine .inr ⟨g, cap, cur, hv, hg, ?_, r⟩
  rw [Below.heap_setCell _ _ _ _ (hp g (by rw [hv]; rfl))]; exact hh
theorem wpList_append_blk {P : Program} {w : World} {ops : Array Oper} {rest : List Oper} {o : Oper} {a : Act} {Q : Exit → Act → World → Prop} (hgd : o.guard = none) (s x : Operand) (t : TypeId)
  (ho : o.op = .call { callee := .builtin .append, args := #[s, x], argTypes := #[t, t] })
  (base : Nat) (e : TypeId) (z : Value) (size bytes : Nat) (ht : P.underlying t = some (.slice e)) (hinfo : (P.info? e).map (fun i => (i.zero, i.size, i.bytes)) = some (some z, size, bytes))
  (hzs : z.cells.size = size) (hsz : 0 < size)
  (v : Value) (n : Nat) (xs : List Value) (hs : a.eval s = v) (hown : w.ownsRow base e size v n xs)
  (g m c : Nat) (T : TypeId) (news : List Value) (hx : a.eval x = .slice (some ⟨g, 0, none⟩) m c) (hg : Blk w g news.toArray T) (hl : news.length = m * size) (h1 : ∀ u ∈ news, u.oneCell' = true)
  (h63 : n + m ≤ maxLen) (hbytes : (n + m) * bytes ≤ 140737488355328) (hbase : base ≤ w.heap.size)
  (h : ∀ v' w', w'.ownsRow base e size v' (n + m) (xs ++ news) → Chg (fun k => base ≤ k) w w' → (v' = .slice none 0 0 ↔ v = .slice none 0 0 ∧ m = 0) → wpList P ops Q rest (a.put o.dst v') w') : wpList P ops Q (o :: rest) a w := by
 obtain ⟨i0, hi, hz0, hz1, hz2⟩ := info_parts hinfo; refine wpList_append_own w hgd s x t ho base e i0 z size bytes ht hi hz0 hz1 hz2 hzs hsz v n xs hs hown ⟨g, 0, none⟩ m c news hx hl ?_ h1 h63 hbytes hbase ?_
 ·intro j u hj
  have e : (⟨g, 0, none⟩ : Addr).add j = ⟨g, j, none⟩ := by unfold Addr.add; split <;> simp_all
  rw [e, hg.cell]; simpa using hj
 ·intro v' w' h2 h3 h4
  refine h v' w' h2 ⟨h3.os, h3.tape, h3.output, h3.size, fun k hk hn => h3.block k hk ?_⟩ h4
  intro e; exact hn (hown.lt k e.symm).1
end Go.Proofs.YtpcihajmcejliacGreatDoor
namespace Go.Proofs.YtpcihajmcejliacGreatDoor
open Go.RowKit
structure FVar where
 (name : ByteArray) (pub : Bool) (label size : Int)
structure FProc where
 (name : ByteArray) (pub : Bool) (params : List Int) (writes : Int) (gives : Bool) (given : Int)
structure FFace where
 (modn : ByteArray) (vars : List FVar) (procs : List FProc)
instance : Inhabited FVar := ⟨⟨ByteArray.empty, false, 0, 0⟩⟩
instance : Inhabited FProc := ⟨⟨ByteArray.empty, false, [], 0, false, 0⟩⟩
def AllIn {α : Type} (k : Nat) (In : World → Nat → Nat → α → Prop) (w : World) (a : Option Addr) (l : List α) : Prop :=
 ∀ (j : Nat) (h : j < l.length), ∃ b o, a = some ⟨b, o, none⟩ ∧ b < w.heap.size ∧ In w b (o + j * k) l[j]
def IntIn (w : World) (b o : Nat) (x : Int) : Prop := w.cell? ⟨b, o, none⟩ = some (.int .i64 x)
def VarIn (w : World) (b o : Nat) (x : FVar) : Prop :=
 w.cell? ⟨b, o, none⟩ = some (.string x.name) ∧ w.cell? ⟨b, o + 1, none⟩ = some (.bool x.pub) ∧ w.cell? ⟨b, o + 2, none⟩ = some (.int .i64 x.label) ∧ w.cell? ⟨b, o + 3, none⟩ = some (.int .i64 x.size) ∧ x.name.size ≤ maxLen
def ProcIn (w : World) (b o : Nat) (x : FProc) : Prop :=
 w.cell? ⟨b, o, none⟩ = some (.string x.name) ∧ w.cell? ⟨b, o + 1, none⟩ = some (.bool x.pub) ∧ (∃ a cap, w.cell? ⟨b, o + 2, none⟩ = some (.slice a x.params.length cap) ∧ AllIn 1 IntIn w a x.params ∧ x.params.length ≤ cap ∧ cap ≤ maxLen) ∧
  w.cell? ⟨b, o + 3, none⟩ = some (.int .i64 x.writes) ∧ w.cell? ⟨b, o + 4, none⟩ = some (.bool x.gives) ∧ w.cell? ⟨b, o + 5, none⟩ = some (.int .i64 x.given) ∧ x.name.size ≤ maxLen
def FaceAt (w : World) (x : FFace) (v : Value) : Prop :=
 ∃ a m c d, v = .agg #[.string x.modn, .slice a x.vars.length m, .slice c x.procs.length d] ∧ AllIn 4 VarIn w a x.vars ∧ AllIn 6 ProcIn w c x.procs ∧ x.modn.size ≤ maxLen ∧ x.vars.length ≤ m ∧ m ≤ maxLen ∧ x.procs.length ≤ d ∧ d ≤ maxLen
theorem AllIn.mono {α : Type} {k : Nat} {In : World → Nat → Nat → α → Prop} {w w' : World} {a : Option Addr} {l : List α} (h : AllIn k In w a l) (hs : w.heap.size ≤ w'.heap.size)
  (hi : ∀ b o x, b < w.heap.size → In w b o x → In w' b o x) : AllIn k In w' a l := fun j hj => by
 obtain ⟨b, o, e, hb, hin⟩ := h j hj; exact ⟨b, o, e, by omega, hi _ _ _ hb hin⟩
theorem IntIn.ext {w w' : World} (hE : Ext w w') {b o : Nat} {x : Int} (hb : b < w.heap.size) (h : IntIn w b o x) : IntIn w' b o x := by
 unfold IntIn at *; rw [hE.cell (by exact hb) id]; exact h
theorem VarIn.ext {w w' : World} (hE : Ext w w') {b o : Nat} {x : FVar} (hb : b < w.heap.size) (h : VarIn w b o x) : VarIn w' b o x := by
 unfold VarIn at *; rw [hE.cell (by exact hb) id, hE.cell (by exact hb) id, hE.cell (by exact hb) id, hE.cell (by exact hb) id]; exact h
theorem ProcIn.ext {w w' : World} (hE : Ext w w') {b o : Nat} {x : FProc} (hb : b < w.heap.size) (h : ProcIn w b o x) : ProcIn w' b o x := by
 obtain ⟨h0, h1, ⟨a, cap, h2, h2i, h2c⟩, h3⟩ := h; refine ⟨?_, ?_, ⟨a, cap, ?_, h2i.mono hE.size fun _ _ _ hb h => IntIn.ext hE hb h, h2c⟩, ?_⟩
 ·rw [hE.cell (by exact hb) id]; exact h0
 ·rw [hE.cell (by exact hb) id]; exact h1
 ·rw [hE.cell (by exact hb) id]; exact h2
 ·rw [hE.cell (by exact hb) id, hE.cell (by exact hb) id, hE.cell (by exact hb) id]; exact h3
theorem FaceAt.ext {w w' : World} (hE : Ext w w') {x : FFace} {v : Value} (h : FaceAt w x v) : FaceAt w' x v := by
 obtain ⟨a, m, c, d, rfl, h1, h2, h3⟩ := h; exact ⟨a, m, c, d, rfl, h1.mono hE.size fun _ _ _ hb h => VarIn.ext hE hb h, h2.mono hE.size fun _ _ _ hb h => ProcIn.ext hE hb h, h3⟩
end Go.Proofs.YtpcihajmcejliacGreatDoor
namespace Go.Proofs.YtpcihajmcejliacGreatDoor
open Go.RowKit
def joinF (a b : Int) : Int := if a = 0 ∧ b = 0 then 0 else 1
end Go.Proofs.YtpcihajmcejliacGreatDoor
namespace Go.Proofs.YtpcihajmcejliacGreatDoor
open Go.RowKit
instance : Inhabited FFace := ⟨⟨ByteArray.empty, [], []⟩⟩



def byteAt (n : Int) (s : Nat) : UInt8 := UInt8.ofNat ((n / 2 ^ s) % 256).toNat
def num8 (n : Int) : List UInt8 := [byteAt n 56, byteAt n 48, byteAt n 40, byteAt n 32, byteAt n 24, byteAt n 16, byteAt n 8, byteAt n 0]
def numsL (l : List Int) : List UInt8 := l.flatMap num8
def textL (s : ByteArray) : List UInt8 := num8 s.size ++ s.data.toList
def truthL (b : Bool) : List UInt8 := num8 (if b then 1 else 0)
def varL (v : FVar) : List UInt8 := textL v.name ++ truthL v.pub ++ numsL [v.label, v.size]
def procL (p : FProc) : List UInt8 := textL p.name ++ truthL p.pub ++ num8 p.params.length ++ numsL p.params ++ num8 p.writes ++ truthL p.gives ++ num8 p.given
def faceL (f : FFace) : List UInt8 := textL f.modn ++ num8 f.vars.length ++ f.vars.flatMap varL ++ num8 f.procs.length ++ f.procs.flatMap procL
namespace obj
theorem num8_len (n : Int) : (num8 n).length = 8 := rfl
end obj
end Go.Proofs.YtpcihajmcejliacGreatDoor
namespace Go.Proofs.YtpcihajmcejliacGreatDoor
open Go.RowKit
namespace obj
theorem numsL_len (l : List Int) : (numsL l).length = 8 * l.length := by
 unfold numsL; induction l with
 | nil => rfl
 | cons x r ih => rw [List.flatMap_cons, List.length_append, ih, num8_len, List.length_cons]; omega
end obj
def inI (n : Int) : Prop := -9223372036854775808 ≤ n ∧ n ≤ 9223372036854775807
namespace obj
end obj
structure FaceNums (x : FFace) : Prop where
 vars : ∀ v ∈ x.vars, inI v.label ∧ inI v.size
 procs : ∀ p ∈ x.procs, (∀ q ∈ p.params, inI q) ∧ inI p.writes ∧ inI p.given
namespace obj
theorem text_len (s : ByteArray) : (textL s).length = 8 + s.size := by unfold textL; rw [List.length_append, num8_len, Array.length_toList]; rfl
theorem truth_len (b : Bool) : (truthL b).length = 8 := rfl
end obj
def FaceIn (w : World) (b o : Nat) (x : FFace) : Prop :=
 ∃ a m c d, w.cell? ⟨b, o, none⟩ = some (.string x.modn) ∧ w.cell? ⟨b, o + 1, none⟩ = some (.slice a x.vars.length m) ∧ w.cell? ⟨b, o + 2, none⟩ = some (.slice c x.procs.length d) ∧ FaceAt w x (.agg #[.string x.modn, .slice a x.vars.length m, .slice c x.procs.length d])
theorem FaceIn.ext {w w' : World} (hE : Ext w w') {b o : Nat} {x : FFace} (hb : b < w.heap.size) (h : FaceIn w b o x) : FaceIn w' b o x := by
 obtain ⟨a, m, c, d, h0, h1, h2, h3⟩ := h; refine ⟨a, m, c, d, ?_, ?_, ?_, FaceAt.ext hE h3⟩
 ·rw [hE.cell (by exact hb) id]; exact h0
 ·rw [hE.cell (by exact hb) id]; exact h1
 ·rw [hE.cell (by exact hb) id]; exact h2
namespace obj
end obj
end Go.Proofs.YtpcihajmcejliacGreatDoor
namespace Go.Proofs.YtpcihajmcejliacGreatDoor
open Go.RowKit
def hide (M : Nat → Bool) (w : World) : World := { w with heap := w.heap.mapIdx fun i o => if M i then .cells #[] 0 else o }
theorem hide_size (M : Nat → Bool) (w : World) : (hide M w).heap.size = w.heap.size := by simp [hide]
theorem hide_at (M : Nat → Bool) (w : World) (i : Nat) (h : M i = false) : (hide M w).heap[i]? = w.heap[i]? := by
 simp [hide, h]
theorem hide_cell_not (M : Nat → Bool) (w : World) (p : Addr) (h : M p.block = true) : (hide M w).cell? p = none := by
 unfold World.cell?; by_cases hp : p.block < w.heap.size
 ·simp [hide, h, hp]
 ·simp [hide, hp]
theorem hide_cell (M : Nat → Bool) (w : World) (p : Addr) (h : M p.block = false) : (hide M w).cell? p = w.cell? p := World.cell?_of_block (hide_at M w p.block h)
def Keeps (w w' : World) : Prop := w.heap.size ≤ w'.heap.size ∧ ∀ p u, w.cell? p = some u → w'.cell? p = some u
theorem Keeps.trans {a b c : World} (h : Keeps a b) (k : Keeps b c) : Keeps a c := ⟨Nat.le_trans h.1 k.1, fun p u hp => k.2 p u (h.2 p u hp)⟩
theorem keeps_hide {M M' : Nat → Bool} {w w' : World} (hs : w.heap.size ≤ w'.heap.size) (h : ∀ i, i < w.heap.size → M i = false → M' i = false ∧ w'.heap[i]? = w.heap[i]?) : Keeps (hide M w) (hide M' w') := by
 refine ⟨by rw [hide_size, hide_size]; exact hs, fun p u hp => ?_⟩
 cases hM : M p.block with
 | true => rw [hide_cell_not M w p hM] at hp; cases hp
 | false =>
  rw [hide_cell M w p hM] at hp; obtain ⟨h1, h2⟩ := h p.block (World.block_lt_of_cell? w p hp) hM; rw [hide_cell M' w' p h1, World.cell?_of_block h2]; exact hp
theorem keeps_bare (M : Nat → Bool) (w : World) : Keeps (hide M w) w := ⟨by rw [hide_size]; exact Nat.le_refl _, fun p _ hp => by
 cases hM : M p.block with
 | true => rw [hide_cell_not M w p hM] at hp; cases hp
 | false => rw [hide_cell M w p hM] at hp; exact hp⟩
theorem keeps_chg {M : Nat → Bool} {S : Nat → Prop} {w w' : World} (h : Chg S w w') (hS : ∀ i, i < w.heap.size → S i → M i = true) : Keeps (hide M w) (hide M w') :=
 keeps_hide h.size fun i hi hm => ⟨hm, h.block i hi fun hs => by have := hS i hi hs; rw [this] at hm; cases hm⟩
theorem Ext.keeps {w w' : World} (h : Ext w w') : Keeps w w' := ⟨h.size, fun p _ hp => (h.cell (World.block_lt_of_cell? w p hp) id).trans hp⟩
theorem AllIn.keeps {α : Type} {k : Nat} {In : World → Nat → Nat → α → Prop} {w w' : World} {a : Option Addr} {l : List α} (h : AllIn k In w a l) (hk : Keeps w w')
  (hi : ∀ b o x, In w b o x → In w' b o x) : AllIn k In w' a l := fun j hj => by
 obtain ⟨b, o, e, hb, hin⟩ := h j hj; exact ⟨b, o, e, Nat.lt_of_lt_of_le hb hk.1, hi _ _ _ hin⟩
theorem IntIn.keeps {w w' : World} (h : Keeps w w') {b o : Nat} {x : Int} (hx : IntIn w b o x) : IntIn w' b o x := h.2 _ _ hx
theorem VarIn.keeps {w w' : World} (h : Keeps w w') {b o : Nat} {x : FVar} (hx : VarIn w b o x) : VarIn w' b o x :=
 ⟨h.2 _ _ hx.1, h.2 _ _ hx.2.1, h.2 _ _ hx.2.2.1, h.2 _ _ hx.2.2.2.1, hx.2.2.2.2⟩
theorem ProcIn.keeps {w w' : World} (h : Keeps w w') {b o : Nat} {x : FProc} (hx : ProcIn w b o x) : ProcIn w' b o x := by
 obtain ⟨h0, h1, ⟨a, cap, h2, h2i, h2c⟩, h3, h4, h5, h6⟩ := hx; exact ⟨h.2 _ _ h0, h.2 _ _ h1, ⟨a, cap, h.2 _ _ h2, h2i.keeps h fun _ _ _ => IntIn.keeps h, h2c⟩, h.2 _ _ h3, h.2 _ _ h4, h.2 _ _ h5, h6⟩
theorem FaceAt.keeps {w w' : World} (hk : Keeps w w') {x : FFace} {v : Value} (h : FaceAt w x v) : FaceAt w' x v := by
 obtain ⟨a, m, c, d, rfl, h1, h2, h3⟩ := h; exact ⟨a, m, c, d, rfl, h1.keeps hk fun _ _ _ => VarIn.keeps hk, h2.keeps hk fun _ _ _ => ProcIn.keeps hk, h3⟩
def RowAt {α : Type} (k : Nat) (In : World → Nat → Nat → α → Prop) (l : List α) (v : Value) (w : World) : Prop := ∃ a c, v = .slice a l.length c ∧ l.length ≤ c ∧ c ≤ maxLen ∧ AllIn k In w a l
theorem RowAt.keeps {α : Type} {k : Nat} {In : World → Nat → Nat → α → Prop} {l : List α} {v : Value} {w w' : World} (hi : ∀ b o x, In w b o x → In w' b o x) (hk : Keeps w w') (h : RowAt k In l v w) : RowAt k In l v w' := by
 obtain ⟨a, c, e, h1, h2, h3⟩ := h; exact ⟨a, c, e, h1, h2, h3.keeps hk hi⟩
def below (B : Nat) : Nat → Bool := fun i => decide (i < B)
def rowHid (B : Nat) (v : Value) : Nat → Bool := fun i => decide (i < B) || decide (v.ownBlock = some i)
structure Grow {α : Type} (k : Nat) (E : TypeId) (V : α → Value → World → Prop) (B : Nat) (w : World) (v : Value) (l : List α) : Prop where
 ex : ∃ us : List Value, us.length = l.length ∧ w.ownsRow B E k v l.length (us.flatMap fun u => u.cells.toList) ∧ ∀ j (h : j < l.length) (h' : j < us.length), V l[j] us[j] (hide (rowHid B v) w) ∧ us[j].cells.size = k
theorem Grow.nil {α : Type} (k : Nat) (E : TypeId) (V : α → Value → World → Prop) (B : Nat) (w : World) : Grow k E V B w (.slice none 0 0) [] :=
 ⟨[], rfl, World.ownsRow_nil _ _ _ _, fun j h => by simp at h⟩
theorem Grow.chg {α : Type} {k : Nat} {E : TypeId} {V : α → Value → World → Prop} {B : Nat} {w w' : World} {v : Value} {l : List α} (h : Grow k E V B w v l) (hV : ∀ x u w w', Keeps w w' → V x u w → V x u w')
  {S : Nat → Prop} (hc : Chg S w w') (hS : ∀ i, S i → i < B) : Grow k E V B w' v l := by
 obtain ⟨us, h1, h2, h3⟩ := h.ex; refine ⟨us, h1, ownsRow_chg h2 hc fun i hi hs => by have := hS i hs; omega, fun j hj hj' => ?_⟩
 obtain ⟨h4, h5⟩ := h3 j hj hj'; exact ⟨hV _ _ _ _ (keeps_chg hc fun i _ hs => by simp [rowHid, hS i hs]) h4, h5⟩
theorem Grow.push {α : Type} {k : Nat} {E : TypeId} {V : α → Value → World → Prop} {B : Nat} {w w' : World} {v v' : Value} {l : List α} {x : α} {u : Value} {us : List Value}
  (hV : ∀ x u w w', Keeps w w' → V x u w → V x u w')
  (h1 : us.length = l.length) (h3 : ∀ j (h : j < l.length) (h' : j < us.length), V l[j] us[j] (hide (rowHid B v) w) ∧ us[j].cells.size = k)
  (hu : V x u (hide (rowHid B v) w)) (huk : u.cells.size = k)
  (ho : w'.ownsRow B E k v' (l.length + 1) (us.flatMap (fun u => u.cells.toList) ++ u.cells.toList))
  (hs : w.heap.size ≤ w'.heap.size) (hb : ∀ i, i < w.heap.size → v.ownBlock ≠ some i → w'.heap[i]? = w.heap[i]?)
  (hv : ∀ i, v'.ownBlock = some i → v.ownBlock = some i ∨ w.heap.size ≤ i) : Grow k E V B w' v' (l ++ [x]) := by
 have hk : Keeps (hide (rowHid B v) w) (hide (rowHid B v') w') := keeps_hide hs fun i hi hm => by
  simp only [rowHid, Bool.or_eq_false_iff, decide_eq_false_iff_not] at hm ⊢; refine ⟨⟨hm.1, fun e => ?_⟩, hb i hi hm.2⟩
  rcases hv i e with h | h
  ·exact hm.2 h
  ·omega
 refine ⟨us ++ [u], by simp [h1], by simpa using ho, fun j hj hj' => ?_⟩
 by_cases hl : j < l.length
 ·have hl' : j < us.length := by omega
  rw [List.getElem_append_left hl, List.getElem_append_left hl']; obtain ⟨h4, h5⟩ := h3 j hl hl'; exact ⟨hV _ _ _ _ hk h4, h5⟩
 ·rw [List.length_append, List.length_singleton] at hj
  obtain rfl : j = l.length := by omega
  rw [List.getElem_append_right (Nat.le_refl _), List.getElem_append_right (by omega)]; simp only [Nat.sub_self, h1, List.getElem_singleton]; exact ⟨hV _ _ _ _ hk hu, huk⟩
theorem flat_at (k : Nat) (us : List Value) (hk : ∀ u ∈ us, u.cells.size = k) (j : Nat) (hj : j < us.length) (i : Nat) (hi : i < k) : (us.flatMap fun u => u.cells.toList)[j * k + i]? = us[j].cells[i]? := by
 induction us generalizing j with
 | nil => simp at hj
 | cons u r ih =>
  have hu : u.cells.toList.length = k := by rw [Array.length_toList]; exact hk u (by simp)
  rw [List.flatMap_cons]; cases j with
  | zero =>
   rw [Nat.zero_mul, Nat.zero_add, List.getElem?_append_left (by omega)]; simp
  | succ j =>
   rw [Nat.succ_mul, List.getElem?_append_right (by omega), show j * k + k + i - u.cells.toList.length = j * k + i by omega]; exact ih (fun u hu => hk u (by simp [hu])) j (by simpa using hj)
theorem Grow.row {α : Type} {k : Nat} {E : TypeId} {V : α → Value → World → Prop} {In : World → Nat → Nat → α → Prop} {B : Nat} {w : World} {v : Value} {l : List α} (h : Grow k E V B w v l)
  (hV : ∀ x u w w', Keeps w w' → V x u w → V x u w')
  (hI : ∀ (w : World) b o x u, V x u w → u.cells.size = k → (∀ i, i < k → w.cell? ⟨b, o + i, none⟩ = u.cells[i]?) → In w b o x) : RowAt k In l v (hide (below B) w) := by
 obtain ⟨us, h1, h2, h3⟩ := h.ex; rcases h2.2 with ⟨rfl, h0⟩ | ⟨g, cap, cur, rfl, hB, hg, hc1, hc2, hc3, hc4⟩
 ·refine ⟨none, 0, by rw [h0], by omega, by decide, fun j hj => by omega⟩
 ·refine ⟨_, cap, rfl, hc1, hc2, fun j hj => ⟨g, 0, rfl, ?_, ?_⟩⟩
  ·rw [hide_size]; exact (Array.getElem?_eq_some_iff.1 hg).1
  ·have hj' : j < us.length := by omega
   obtain ⟨h4, h5⟩ := h3 j hj hj'; refine hI _ _ _ _ us[j] (hV _ _ _ _ (keeps_hide (Nat.le_refl _) fun i hi hm => ?_) h4) h5 fun i hi => ?_
   ·simp only [rowHid, below, Bool.or_eq_false_iff, decide_eq_false_iff_not] at hm ⊢
    exact ⟨hm.1, trivial⟩
   ·rw [hide_cell _ _ _ (by simp [below]; omega)]
    have hall : ∀ u ∈ us, u.cells.size = k := fun u hu => by
     obtain ⟨q, hq, rfl⟩ := List.getElem_of_mem hu; exact (h3 q (by omega) hq).2
    rw [← flat_at k us hall j hj' i hi, ← hc4, List.getElem?_take, if_pos (by
     have : (j + 1) * k ≤ l.length * k := Nat.mul_le_mul_right _ (by omega); rw [Nat.succ_mul] at this; omega)]
    rw [cell_of_row w g _ cur E (0, 0) hg]; simp
end Go.Proofs.YtpcihajmcejliacGreatDoor
namespace Go.Proofs.YtpcihajmcejliacGreatDoor
open Go.RowKit
def letterB (n : Int) : Bool := decide (97 ≤ n ∧ n ≤ 122 ∨ 65 ≤ n ∧ n ≤ 90)
def digitB (n : Int) : Bool := decide (48 ≤ n ∧ n ≤ 57)
def partB (n : Int) : Bool := letterB n || digitB n || decide (n = 95)
namespace lex
set_option maxHeartbeats 400000 in
theorem letter_any (n : Int) (w : World) :
  Calls Tryz.prog 167 #[.int .u8 n] w fun e w' => e = .returned (.bool (letterB n)) ∧ w = w' := by
 generalize hR : letterB n = R; have HR := Z_ hR; clear hR; go_enter Tryz.func167, Tryz.ntmps167
 go_wp2
 all_goals go_ret
 all_goals exact ⟨ret_bool (by rw [← HR.out, letterB, Bool.eq_iff_iff]; simp; omega), rfl⟩
set_option maxHeartbeats 400000 in
theorem digit_any (n : Int) (w : World) :
  Calls Tryz.prog 169 #[.int .u8 n] w fun e w' => e = .returned (.bool (digitB n)) ∧ w = w' := by
 generalize hR : digitB n = R; have HR := Z_ hR; clear hR; go_enter Tryz.func169, Tryz.ntmps169
 go_wp2
 all_goals go_ret
 all_goals exact ⟨ret_bool (by rw [← HR.out, digitB, Bool.eq_iff_iff]; simp; omega), rfl⟩
set_option maxHeartbeats 400000 in
theorem part_any (n : Int) (w : World) :
  Calls Tryz.prog 168 #[.int .u8 n] w fun e w' => e = .returned (.bool (partB n)) ∧ w = w' := by
 generalize hR : partB n = R; have HR := Z_ hR; clear hR; obtain ⟨L, hL⟩ : ∃ L, letterB n = L := ⟨_, rfl⟩; obtain ⟨D, hD⟩ : ∃ D, digitB n = D := ⟨_, rfl⟩; have c1 := letter_any n; have c2 := digit_any n; rw [hL] at c1; rw [hD] at c2; have C1 := Z_ c1; have C2 := Z_ c2; have HL := Z_ hL; have HD := Z_ hD; clear c1 c2 hL hD; cases L <;> cases D
 all_goals
  go_enter Tryz.func168, Tryz.ntmps168
  go_wp2_with (first | (refine (C1.out _).mono ?_; rintro e w' ⟨rfl, rfl⟩) | (refine (C2.out _).mono ?_; rintro e w' ⟨rfl, rfl⟩))
  all_goals go_ret
  all_goals exact ⟨ret_bool (by rw [← HR.out, partB, HL.out, HD.out, Bool.eq_iff_iff]; simp), rfl⟩
end lex
end Go.Proofs.YtpcihajmcejliacGreatDoor
namespace Go.Proofs.YtpcihajmcejliacGreatDoor
open Go.RowKit
def runN (p : Int → Bool) (l : List UInt8) : Nat := (l.takeWhile fun c => p c.toNat).length
theorem runN_le (p : Int → Bool) (l : List UInt8) : runN p l ≤ l.length := by unfold runN; exact (List.takeWhile_sublist _).length_le
theorem runN_step (p : Int → Bool) (s : ByteArray) (k : Nat) (h : k < s.size) (hp : p (s[k].toNat : Int) = true) : runN p (s.data.toList.drop k) = 1 + runN p (s.data.toList.drop (k + 1)) := by
 rw [List.drop_eq_getElem_cons (by simpa using h)]; have e : s.data.toList[k]'(by simpa using h) = s[k] := rfl; simp only [runN, List.takeWhile_cons, e, hp, if_true, List.length_cons]; omega
theorem runN_stop (p : Int → Bool) (s : ByteArray) (k : Nat) (h : k < s.size) (hp : p (s[k].toNat : Int) = false) : runN p (s.data.toList.drop k) = 0 := by
 rw [List.drop_eq_getElem_cons (by simpa using h)]; have e : s.data.toList[k]'(by simpa using h) = s[k] := rfl; simp [runN, e, hp]
theorem runN_end (p : Int → Bool) (s : ByteArray) (k : Nat) (h : s.size ≤ k) : runN p (s.data.toList.drop k) = 0 := by
 rw [List.drop_eq_nil_of_le (by simpa using h)]; rfl
def blankB (n : Int) : Bool := decide (n = 32 ∨ n = 10)
def otherB (n : Int) : Bool := decide (n ≠ 10)
namespace lex
abbrev Scn (w : World) (p : Nat) (s : ByteArray) (k : Nat) (c f : Int) : Prop := Blk w p #[.string s, .int .i64 k, .int .i64 c, .int .i64 f] 193
theorem Scn.step {w : World} {p : Nat} {s : ByteArray} {k : Nat} {c f : Int} (h : Scn w p s k c f) : Scn (w.setCell ⟨p, 1, none⟩ (.int .i64 (k + 1))) p s (k + 1) c f := h.set 1 _
def at1 (w : World) (p : Nat) : Nat := (intOf ((w.cell? ⟨p, 1, none⟩).getD undef)).toNat
theorem Scn.at1 {w : World} {p : Nat} {s : ByteArray} {k : Nat} {c f : Int} (h : Scn w p s k c f) : at1 w p = k := by
 unfold lex.at1; rw [h.cell 1]; simp [intOf]
set_option maxHeartbeats 400000 in
theorem blank_any (n : Int) (w : World) :
  Calls Tryz.prog 165 #[.int .u8 n] w fun e w' => e = .returned (.bool (blankB n)) ∧ w = w' := by
 generalize hR : blankB n = R; have HR := Z_ hR; clear hR; go_enter Tryz.func165, Tryz.ntmps165
 go_wp2
 all_goals go_ret
 all_goals exact ⟨ret_bool (by rw [← HR.out, blankB, Bool.eq_iff_iff]; simp; try omega), rfl⟩
set_option maxHeartbeats 400000 in
theorem other_any (n : Int) (w : World) :
  Calls Tryz.prog 166 #[.int .u8 n] w fun e w' => e = .returned (.bool (otherB n)) ∧ w = w' := by
 generalize hR : otherB n = R; have HR := Z_ hR; clear hR; go_enter Tryz.func166, Tryz.ntmps166
 go_wp2
 all_goals go_ret
 all_goals exact ⟨ret_bool (by rw [← HR.out, otherB, Bool.eq_iff_iff]; simp), rfl⟩
set_option maxRecDepth 100000 in
set_option maxHeartbeats 1000000 in
theorem run_part (p : Nat) (s : ByteArray) (k0 : Nat) (c f : Int) (w : World) (h : Scn w p s k0 c f) (hk : k0 ≤ s.size) (hs : s.size ≤ 100000) :
  Calls Tryz.prog 164 #[.pointer (some ⟨p, 0, none⟩), .func (.func 168) #[] #[]] w
   fun e w' => e = .returned (.string (s.extract k0 (k0 + runN partB (s.data.toList.drop k0)))) ∧ Scn w' p s (k0 + runN partB (s.data.toList.drop k0)) c f ∧ Chg (fun i => i = p) w w' := by
 generalize hR : k0 + runN partB (s.data.toList.drop k0) = R; have HR := Z_ hR; clear hR; have c0 := h.cell 0; have c1 := h.cell 1; simp only [List.getElem?_toArray, List.getElem?_cons_zero, List.getElem?_cons_succ] at c0 c1; go_enter Tryz.func164, Tryz.ntmps164
 go_wp2_with fail
 clear c0 c1; go_loopw [] (fun wr => ∃ k : Nat, k0 ≤ k ∧ k ≤ s.size ∧ Scn wr p s k c f ∧ Chg (fun i => i = p) w wr ∧ Hid (k + runN partB (s.data.toList.drop k) = R)) (fun wr => s.size - at1 wr p)
 case atStart => exact ⟨k0, by omega, hk, h, Chg.refl _ _, HR.out⟩
 case round =>
  obtain ⟨k, hk0, hk1, hS, hC, hrel⟩ := hrel; have c0 := hS.cell 0; have c1 := hS.cell 1; have f1 := hS.frozen 1; simp only [List.getElem?_toArray, List.getElem?_cons_zero, List.getElem?_cons_succ] at c0 c1; by_cases hlt : k < s.size
  ·have hd : decide ((k : Int) < (s.size : Int)) = true := by simp; omega
   cases hb : partB (s[k].toNat : Int)
   ·have cc := part_any (s[k].toNat : Int)
    rw [hb] at cc; have CC := Z_ cc; have hr := runN_stop partB s k hlt hb; have hR := hrel.out; rw [hr] at hR; have HR2 := Z_ hR; clear hb cc hr hR; go_wp2_with fail
    go_quiet ((go_at_call 168; exact Calls.quiet_of_same ((CC.out _).mono fun _ _ h => ⟨h.1, h.2.symm⟩)))
    go_wp2_with fail
    go_quiet (fail)
    go_wp2_with fail
    go_ret
    obtain rfl : k = R := HR2.out; exact ⟨rfl, (hS.drewN _).drewN _, (hC.drewN _).drewN _⟩
   ·have cc := part_any (s[k].toNat : Int)
    rw [hb] at cc; have CC := Z_ cc; have hr := runN_step partB s k hlt hb; have hR := hrel.out; rw [hr] at hR; have HR2 := Z_ hR; clear hb cc hr hR; go_wp2_with fail
    go_quiet ((go_at_call 168; exact Calls.quiet_of_same ((CC.out _).mono fun _ _ h => ⟨h.1, h.2.symm⟩)))
    go_wp2_with fail
    go_roundw
    case rel => exact ⟨k + 1, by omega, by omega, Scn.step (hS.drewN _), (hC.drewN _).setCell (fun _ => rfl) _, by have := HR2.out; unfold Hid; omega⟩
    case measure => rw [Scn.at1 hS, Scn.at1 (Scn.step (hS.drewN _))]; omega
  ·have hd : decide ((k : Int) < (s.size : Int)) = false := by simp; omega
   have hr := runN_end partB s k (by omega); have hR := hrel.out; rw [hr] at hR; have HR2 := Z_ hR; clear hr hR; go_wp2_with fail
   go_quiet (fail)
   go_wp2_with fail
   go_quiet (fail)
   go_wp2_with fail
   go_ret
   obtain rfl : k = R := HR2.out; exact ⟨rfl, (hS.drewN _).drewN _, (hC.drewN _).drewN _⟩
set_option maxRecDepth 100000 in
set_option maxHeartbeats 1000000 in
theorem run_blank (p : Nat) (s : ByteArray) (k0 : Nat) (c f : Int) (w : World) (h : Scn w p s k0 c f) (hk : k0 ≤ s.size) (hs : s.size ≤ 100000) :
  Calls Tryz.prog 164 #[.pointer (some ⟨p, 0, none⟩), .func (.func 165) #[] #[]] w
   fun e w' => e = .returned (.string (s.extract k0 (k0 + runN blankB (s.data.toList.drop k0)))) ∧ Scn w' p s (k0 + runN blankB (s.data.toList.drop k0)) c f ∧ Chg (fun i => i = p) w w' := by
 generalize hR : k0 + runN blankB (s.data.toList.drop k0) = R; have HR := Z_ hR; clear hR; have c0 := h.cell 0; have c1 := h.cell 1; simp only [List.getElem?_toArray, List.getElem?_cons_zero, List.getElem?_cons_succ] at c0 c1; go_enter Tryz.func164, Tryz.ntmps164
 go_wp2_with fail
 clear c0 c1; go_loopw [] (fun wr => ∃ k : Nat, k0 ≤ k ∧ k ≤ s.size ∧ Scn wr p s k c f ∧ Chg (fun i => i = p) w wr ∧ Hid (k + runN blankB (s.data.toList.drop k) = R)) (fun wr => s.size - at1 wr p)
 case atStart => exact ⟨k0, by omega, hk, h, Chg.refl _ _, HR.out⟩
 case round =>
  obtain ⟨k, hk0, hk1, hS, hC, hrel⟩ := hrel; have c0 := hS.cell 0; have c1 := hS.cell 1; have f1 := hS.frozen 1; simp only [List.getElem?_toArray, List.getElem?_cons_zero, List.getElem?_cons_succ] at c0 c1; by_cases hlt : k < s.size
  ·have hd : decide ((k : Int) < (s.size : Int)) = true := by simp; omega
   cases hb : blankB (s[k].toNat : Int)
   ·have cc := blank_any (s[k].toNat : Int)
    rw [hb] at cc; have CC := Z_ cc; have hr := runN_stop blankB s k hlt hb; have hR := hrel.out; rw [hr] at hR; have HR2 := Z_ hR; clear hb cc hr hR; go_wp2_with fail
    go_quiet ((go_at_call 165; exact Calls.quiet_of_same ((CC.out _).mono fun _ _ h => ⟨h.1, h.2.symm⟩)))
    go_wp2_with fail
    go_quiet (fail)
    go_wp2_with fail
    go_ret
    obtain rfl : k = R := HR2.out; exact ⟨rfl, (hS.drewN _).drewN _, (hC.drewN _).drewN _⟩
   ·have cc := blank_any (s[k].toNat : Int)
    rw [hb] at cc; have CC := Z_ cc; have hr := runN_step blankB s k hlt hb; have hR := hrel.out; rw [hr] at hR; have HR2 := Z_ hR; clear hb cc hr hR; go_wp2_with fail
    go_quiet ((go_at_call 165; exact Calls.quiet_of_same ((CC.out _).mono fun _ _ h => ⟨h.1, h.2.symm⟩)))
    go_wp2_with fail
    go_roundw
    case rel => exact ⟨k + 1, by omega, by omega, Scn.step (hS.drewN _), (hC.drewN _).setCell (fun _ => rfl) _, by have := HR2.out; unfold Hid; omega⟩
    case measure => rw [Scn.at1 hS, Scn.at1 (Scn.step (hS.drewN _))]; omega
  ·have hd : decide ((k : Int) < (s.size : Int)) = false := by simp; omega
   have hr := runN_end blankB s k (by omega); have hR := hrel.out; rw [hr] at hR; have HR2 := Z_ hR; clear hr hR; go_wp2_with fail
   go_quiet (fail)
   go_wp2_with fail
   go_quiet (fail)
   go_wp2_with fail
   go_ret
   obtain rfl : k = R := HR2.out; exact ⟨rfl, (hS.drewN _).drewN _, (hC.drewN _).drewN _⟩
set_option maxRecDepth 100000 in
set_option maxHeartbeats 1000000 in
theorem run_other (p : Nat) (s : ByteArray) (k0 : Nat) (c f : Int) (w : World) (h : Scn w p s k0 c f) (hk : k0 ≤ s.size) (hs : s.size ≤ 100000) :
  Calls Tryz.prog 164 #[.pointer (some ⟨p, 0, none⟩), .func (.func 166) #[] #[]] w
   fun e w' => e = .returned (.string (s.extract k0 (k0 + runN otherB (s.data.toList.drop k0)))) ∧ Scn w' p s (k0 + runN otherB (s.data.toList.drop k0)) c f ∧ Chg (fun i => i = p) w w' := by
 generalize hR : k0 + runN otherB (s.data.toList.drop k0) = R; have HR := Z_ hR; clear hR; have c0 := h.cell 0; have c1 := h.cell 1; simp only [List.getElem?_toArray, List.getElem?_cons_zero, List.getElem?_cons_succ] at c0 c1; go_enter Tryz.func164, Tryz.ntmps164
 go_wp2_with fail
 clear c0 c1; go_loopw [] (fun wr => ∃ k : Nat, k0 ≤ k ∧ k ≤ s.size ∧ Scn wr p s k c f ∧ Chg (fun i => i = p) w wr ∧ Hid (k + runN otherB (s.data.toList.drop k) = R)) (fun wr => s.size - at1 wr p)
 case atStart => exact ⟨k0, by omega, hk, h, Chg.refl _ _, HR.out⟩
 case round =>
  obtain ⟨k, hk0, hk1, hS, hC, hrel⟩ := hrel; have c0 := hS.cell 0; have c1 := hS.cell 1; have f1 := hS.frozen 1; simp only [List.getElem?_toArray, List.getElem?_cons_zero, List.getElem?_cons_succ] at c0 c1; by_cases hlt : k < s.size
  ·have hd : decide ((k : Int) < (s.size : Int)) = true := by simp; omega
   cases hb : otherB (s[k].toNat : Int)
   ·have cc := other_any (s[k].toNat : Int)
    rw [hb] at cc; have CC := Z_ cc; have hr := runN_stop otherB s k hlt hb; have hR := hrel.out; rw [hr] at hR; have HR2 := Z_ hR; clear hb cc hr hR; go_wp2_with fail
    go_quiet ((go_at_call 166; exact Calls.quiet_of_same ((CC.out _).mono fun _ _ h => ⟨h.1, h.2.symm⟩)))
    go_wp2_with fail
    go_quiet (fail)
    go_wp2_with fail
    go_ret
    obtain rfl : k = R := HR2.out; exact ⟨rfl, (hS.drewN _).drewN _, (hC.drewN _).drewN _⟩
   ·have cc := other_any (s[k].toNat : Int)
    rw [hb] at cc; have CC := Z_ cc; have hr := runN_step otherB s k hlt hb; have hR := hrel.out; rw [hr] at hR; have HR2 := Z_ hR; clear hb cc hr hR; go_wp2_with fail
    go_quiet ((go_at_call 166; exact Calls.quiet_of_same ((CC.out _).mono fun _ _ h => ⟨h.1, h.2.symm⟩)))
    go_wp2_with fail
    go_roundw
    case rel => exact ⟨k + 1, by omega, by omega, Scn.step (hS.drewN _), (hC.drewN _).setCell (fun _ => rfl) _, by have := HR2.out; unfold Hid; omega⟩
    case measure => rw [Scn.at1 hS, Scn.at1 (Scn.step (hS.drewN _))]; omega
  ·have hd : decide ((k : Int) < (s.size : Int)) = false := by simp; omega
   have hr := runN_end otherB s k (by omega); have hR := hrel.out; rw [hr] at hR; have HR2 := Z_ hR; clear hr hR; go_wp2_with fail
   go_quiet (fail)
   go_wp2_with fail
   go_quiet (fail)
   go_wp2_with fail
   go_ret
   obtain rfl : k = R := HR2.out; exact ⟨rfl, (hS.drewN _).drewN _, (hC.drewN _).drewN _⟩
end lex
end Go.Proofs.YtpcihajmcejliacGreatDoor
namespace Go.Proofs.YtpcihajmcejliacGreatDoor
open Go.RowKit
def skipB : Bool → List UInt8 → Nat
 | _, [] => 0
 | false, c :: r => if c = 32 ∨ c = 10 then 1 + skipB false r else if c = 35 then 1 + skipB true r else 0
 | true, c :: r => if c = 10 then 1 + skipB false r else 1 + skipB true r
theorem skip_le (l : List UInt8) : ∀ b, skipB b l ≤ l.length := by
 induction l with
 | nil => intro b; cases b <;> simp [skipB]
 | cons c r ih =>
  intro b; have h1 := ih true; have h2 := ih false; cases b <;> simp only [skipB, List.length_cons] <;> repeat' split
  all_goals omega
theorem u8_int (c d : UInt8) : ((c.toNat : Int) = d.toNat) ↔ c = d := by
 constructor
 ·intro h; exact UInt8.toNat_inj.1 (by omega)
 ·intro h; rw [h]
theorem blankB_iff (c : UInt8) : blankB c.toNat = true ↔ c = 32 ∨ c = 10 := by
 have h1 := u8_int c 32; have h2 := u8_int c 10; simp only [blankB, decide_eq_true_eq]; exact or_congr h1 h2
theorem otherB_iff (c : UInt8) : otherB c.toNat = true ↔ ¬ c = 10 := by
 have h2 := u8_int c 10; simp only [otherB, decide_eq_true_eq]; exact not_congr h2
theorem skip_blanks (l : List UInt8) : skipB false l = runN blankB l + skipB false (l.drop (runN blankB l)) := by
 induction l with
 | nil => simp [skipB, runN]
 | cons c r ih =>
  by_cases h : blankB c.toNat = true
  ·have e : runN blankB (c :: r) = runN blankB r + 1 := by simp [runN, h]
   have h' := (blankB_iff c).1 h; rw [e, List.drop_succ_cons]; simp only [skipB, if_pos h']; omega
  ·have e : runN blankB (c :: r) = 0 := by simp [runN, h]
   rw [e]; simp
theorem skip_remark (l : List UInt8) : skipB true l = runN otherB l + skipB false (l.drop (runN otherB l)) := by
 induction l with
 | nil => simp [skipB, runN]
 | cons c r ih =>
  by_cases h : otherB c.toNat = true
  ·have e : runN otherB (c :: r) = runN otherB r + 1 := by simp [runN, h]
   have h' := (otherB_iff c).1 h; rw [e, List.drop_succ_cons]; simp only [skipB, if_neg h']; omega
  ·have e : runN otherB (c :: r) = 0 := by simp [runN, h]
   have h' : c = 10 := by
    cases Decidable.em (c = 10) with
    | inl h0 => exact h0
    | inr h0 => exact absurd ((otherB_iff c).2 h0) h
   subst h'; rw [e]; simp [skipB]
theorem skip_hash (r : List UInt8) : skipB false (35 :: r) = skipB true (35 :: r) := by simp [skipB]
theorem skip_stop (c : UInt8) (r : List UInt8) (h : ¬ (c = 32 ∨ c = 10)) (h' : c ≠ 35) : skipB false (c :: r) = 0 := by
 simp only [skipB, if_neg h, if_neg h']
end Go.Proofs.YtpcihajmcejliacGreatDoor
namespace Go.Proofs.YtpcihajmcejliacGreatDoor
open Go.RowKit
namespace lex
theorem drop_cons (s : ByteArray) (k : Nat) (h : k < s.size) : s.data.toList.drop k = s[k] :: s.data.toList.drop (k + 1) := by
 rw [List.drop_eq_getElem_cons (by simpa using h)]; rfl
theorem runN_room (p : Int → Bool) (s : ByteArray) (k : Nat) (h : k ≤ s.size) : k + runN p (s.data.toList.drop k) ≤ s.size := by
 have := runN_le p (s.data.toList.drop k); simp only [List.length_drop, Array.length_toList] at this; have e : s.data.size = s.size := rfl; omega
theorem run_next_blank (s : ByteArray) (k k1 : Nat) (hk : k + runN blankB (s.data.toList.drop k) = k1) (h : k1 < s.size) : ¬ blankB (s[k1].toNat) = true := by
 subst hk
 have key : ∀ (l : List UInt8) (h : runN blankB l < l.length), ¬ blankB (l[runN blankB l].toNat) = true := by
  intro l; induction l with
  | nil => intro h; simp [runN] at h
  | cons c r ih =>
   intro h; by_cases hc : blankB c.toNat = true
   ·have e : runN blankB (c :: r) = runN blankB r + 1 := by simp [runN, hc]
    simp only [e, List.getElem_cons_succ]; exact ih (by simp only [e, List.length_cons] at h; omega)
   ·have e : runN blankB (c :: r) = 0 := by simp [runN, hc]
    simpa only [e, List.getElem_cons_zero] using hc
 have h2 := key (s.data.toList.drop k) (by simp only [List.length_drop, Array.length_toList]; have e : s.data.size = s.size := rfl; omega); simp only [List.getElem_drop] at h2; exact h2
set_option maxRecDepth 100000 in
set_option maxHeartbeats 1000000 in
theorem blanks_any (p : Nat) (s : ByteArray) (k0 : Nat) (c f : Int) (w : World) (h : Scn w p s k0 c f) (hk : k0 ≤ s.size) (hs : s.size ≤ 100000) :
  Calls Tryz.prog 92 #[.pointer (some ⟨p, 0, none⟩)] w
   fun e w' => e = .returned (.tuple #[]) ∧ Scn w' p s (k0 + skipB false (s.data.toList.drop k0)) c f ∧ Chg (fun i => i = p) w w' := by
 generalize hR : k0 + skipB false (s.data.toList.drop k0) = R; have HR := Z_ hR; clear hR; go_enter Tryz.func92, Tryz.ntmps92
 go_wp2_with fail
 go_loopw [] (fun wr => ∃ k : Nat, k ≤ s.size ∧ Scn wr p s k c f ∧ Chg (fun i => i = p) w wr ∧ Hid (k + skipB false (s.data.toList.drop k) = R)) (fun wr => s.size - at1 wr p)
 case atStart => exact ⟨k0, hk, h, Chg.refl _ _, HR.out⟩
 case round =>
  obtain ⟨k, hk1, hS, hC, hrel⟩ := hrel; have hm := Scn.at1 hS; have HM := Z_ hm; clear hm; go_wp2_with fail
  refine (run_blank p s k c f _ hS hk1 hs).mono ?_
  rintro e w1 ⟨rfl, hS1, hC1⟩; have hle := runN_room blankB s k hk1; have hsk := skip_blanks (s.data.toList.drop k); rw [List.drop_drop] at hsk; have hR1 := hrel.out; rw [hsk, ← Nat.add_assoc] at hR1; have hge : k ≤ k + runN blankB (s.data.toList.drop k) := by omega
  obtain ⟨k1, hk1e⟩ : ∃ k1, k + runN blankB (s.data.toList.drop k) = k1 := ⟨_, rfl⟩; have hnb := run_next_blank s k k1 hk1e; simp only [hk1e] at hS1 hle hR1 hge ⊢; have HR1 := Z_ hR1; have HN := Z_ hnb; clear hR1 hsk hnb hk1e; have c0 := hS1.cell 0; have c1 := hS1.cell 1; simp only [List.getElem?_toArray, List.getElem?_cons_zero, List.getElem?_cons_succ] at c0 c1; have hC2 := hC.then hC1
  clear hC hC1 hS; by_cases hlt : k1 < s.size
  ·by_cases hh : (s[k1].toNat : Int) = 35
   ·have hd : decide ((s.size : Int) ≤ (k1 : Int)) = false := by simp; omega
    have hb : ((s[k1].toNat : Int) != 35) = false := by rw [hh]; rfl
    have h35 : s[k1] = 35 := (u8_int _ 35).1 hh; have HH := Z_ h35; clear hh h35; go_wp2_with fail
    go_quiet (fail)
    go_wp2_with fail
    refine (run_other p s k1 c f _ (hS1.drewN _) hle hs).mono ?_
    rintro e w2 ⟨rfl, hS2, hC3⟩; go_wp2_with fail
    go_roundw
    case rel =>
     refine ⟨_, runN_room otherB s k1 hle, hS2, (hC2.drewN _).then hC3, ?_⟩
     have := HR1.out; rw [drop_cons s k1 hlt, HH.out, skip_hash, ← HH.out, ← drop_cons s k1 hlt, skip_remark, List.drop_drop] at this; unfold Hid; omega
    case measure =>
     rw [HM.out, Scn.at1 hS2]; have : runN otherB (s.data.toList.drop k1) = 1 + runN otherB (s.data.toList.drop (k1 + 1)) := runN_step otherB s k1 hlt (by rw [HH.out]; rfl); omega
   ·have hd : decide ((s.size : Int) ≤ (k1 : Int)) = false := by simp; omega
    have hb : ((s[k1].toNat : Int) != 35) = true := by rw [bne_iff_ne]; exact hh
    have HH := Z_ hh; clear hh; go_wp2_with fail
    go_quiet (fail)
    go_wp2_with fail
    (try simp only [Exit.inBlock, Exit.then]); refine bodyPost_ret (results_none rfl _ _ _) rfl ?_
    have e : k1 = R := by
     have := HR1.out; rw [drop_cons s k1 hlt, skip_stop _ _ (fun h => HN.out hlt ((blankB_iff _).2 h)) (fun h => HH.out (by rw [h]; rfl))] at this; omega
    subst e; exact ⟨rfl, hS1.drewN _, hC2.drewN _⟩
  ·have hd : decide ((s.size : Int) ≤ (k1 : Int)) = true := by simp; omega
   go_wp2_with fail
   go_quiet (fail)
   go_wp2_with fail
   (try simp only [Exit.inBlock, Exit.then]); refine bodyPost_ret (results_none rfl _ _ _) rfl ?_
   have e : k1 = R := by
    have := HR1.out; rw [List.drop_eq_nil_of_le (by have e : s.data.size = s.size := rfl; simp; omega)] at this; simpa [skipB] using this
   subst e; exact ⟨rfl, hS1.drewN _, hC2.drewN _⟩
end lex
end Go.Proofs.YtpcihajmcejliacGreatDoor
namespace Go.Proofs.YtpcihajmcejliacGreatDoor
open Go.RowKit
def dstep (acc : Nat) (c : UInt8) : Nat := acc * 10 + (c.toNat - 48)
theorem dstep_eq (acc : Nat) (c : UInt8) : dstep acc c = acc * 10 + (c.toNat - 48) := by unfold dstep; exact Eq.refl _
attribute [irreducible] dstep
def decFrom (acc : Nat) (l : List UInt8) : Nat := l.foldl dstep acc
def digs (l : List UInt8) : Bool := l.all fun c => digitB c.toNat
def numeralF (l : List UInt8) : Int := if digs l = false then 2 else if 1 < l.length ∧ l.head? = some 48 then 2 else if 9223372036854775808 ≤ decFrom 0 l then 6 else 0
theorem digitB_iff (c : UInt8) : digitB c.toNat = true ↔ 48 ≤ c.toNat ∧ c.toNat ≤ 57 := by
 simp only [digitB, decide_eq_true_eq]; omega
theorem digs_cons (c : UInt8) (r : List UInt8) : digs (c :: r) = true ↔ (48 ≤ c.toNat ∧ c.toNat ≤ 57) ∧ digs r = true := by
 simp only [digs, List.all_cons, Bool.and_eq_true, digitB_iff]
theorem mulstep (acc d p q : Nat) : (acc * 10 + d) * p + q = acc * (p * 10) + (d * p + q) := by
 rw [Nat.add_mul, Nat.mul_assoc, Nat.mul_comm 10 p]; omega
theorem decFrom_step (acc : Nat) (c : UInt8) (r : List UInt8) : decFrom acc (c :: r) = decFrom (acc * 10 + (c.toNat - 48)) r := by
 unfold decFrom; rw [List.foldl_cons, dstep_eq]
theorem decFrom_eq (l : List UInt8) : ∀ acc, decFrom acc l = acc * 10 ^ l.length + decFrom 0 l := by
 induction l with
 | nil => intro acc; simp [decFrom]
 | cons c r ih =>
  intro acc; rw [decFrom_step, decFrom_step 0, ih, ih (0 * 10 + (c.toNat - 48)), List.length_cons, Nat.pow_succ]; generalize 10 ^ r.length = p; generalize decFrom 0 r = q; generalize c.toNat - 48 = d; rw [mulstep, Nat.zero_mul, Nat.zero_add]
theorem decFrom_ge (l : List UInt8) (acc : Nat) : acc ≤ decFrom acc l := by
 rw [decFrom_eq]; have : 0 < 10 ^ l.length := Nat.pow_pos (by omega); have := Nat.le_mul_of_pos_right acc this; omega
theorem decFrom_lt (l : List UInt8) (h : digs l = true) : decFrom 0 l < 10 ^ l.length := by
 induction l with
 | nil => simp [decFrom]
 | cons c r ih =>
  obtain ⟨hc, hr⟩ := (digs_cons c r).1 h; have := ih hr; rw [decFrom_step, List.length_cons, decFrom_eq, Nat.pow_succ]; have h1 : (0 * 10 + (c.toNat - 48)) * 10 ^ r.length ≤ 9 * 10 ^ r.length := Nat.mul_le_mul_right _ (by omega); omega
theorem less_iff (l : List UInt8) : ∀ m, l.length = m.length → digs l = true → digs m = true → (Op.bytesLess l m = true ↔ decFrom 0 l < decFrom 0 m) := by
 induction l with
 | nil => intro m h _ _; cases m with | nil => simp [Op.bytesLess, decFrom] | cons _ _ => simp at h
 | cons c r ih =>
  intro m h hl hm; cases m with
  | nil => simp at h
  | cons d q =>
   obtain ⟨hc, hr⟩ := (digs_cons c r).1 hl; obtain ⟨hd, hq⟩ := (digs_cons d q).1 hm; have hlen : r.length = q.length := by simpa using h
   have b1 := decFrom_lt r hr; have b2 := decFrom_lt q hq; simp only [Op.bytesLess, decFrom_step, Bool.or_eq_true, Bool.and_eq_true, decide_eq_true_eq, beq_iff_eq, ih q hlen hr hq]; rw [decFrom_eq r (0 * 10 + (c.toNat - 48)), decFrom_eq q (0 * 10 + (d.toNat - 48)), UInt8.lt_iff_toNat_lt, ← UInt8.toNat_inj]; rw [← hlen] at b2 ⊢; generalize 10 ^ r.length = p at *; rcases Nat.lt_trichotomy c.toNat d.toNat with hlt | he | hgt
   ·have : (0 * 10 + (c.toNat - 48) + 1) * p ≤ (0 * 10 + (d.toNat - 48)) * p := Nat.mul_le_mul_right _ (by omega)
    rw [Nat.add_mul] at this; constructor
    ·intro _; omega
    ·intro _; exact .inl hlt
   ·rw [he]
    constructor
    ·rintro (h | ⟨_, h⟩) <;> omega
    ·intro h; exact .inr ⟨rfl, by omega⟩
   ·have : (0 * 10 + (d.toNat - 48) + 1) * p ≤ (0 * 10 + (c.toNat - 48)) * p := Nat.mul_le_mul_right _ (by omega)
    rw [Nat.add_mul] at this; constructor
    ·rintro (h | ⟨h, _⟩) <;> omega
    ·intro _; omega
theorem uint_digits (l : List UInt8) : ∀ acc, digs l = true → acc ≤ 18446744073709551615 → Lib.parseUintM 18446744073709551615 acc l = if decFrom acc l ≤ 18446744073709551615 then .ok (decFrom acc l) else .range := by
 induction l with
 | nil => intro acc _ h; simp [Lib.parseUintM, decFrom, h]
 | cons c r ih =>
  intro acc h hacc; obtain ⟨hc, hr⟩ := (digs_cons c r).1 h; rw [decFrom_step]; simp only [Lib.parseUintM, if_pos hc]; have hge := decFrom_ge r (acc * 10 + (c.toNat - 48)); by_cases h1 : 1844674407370955162 ≤ acc
  ·rw [if_pos h1, if_neg (by omega)]
  ·rw [if_neg h1]
   by_cases h2 : 18446744073709551615 < acc * 10 + (c.toNat - 48)
   ·rw [if_pos h2, if_neg (by omega)]
   ·rw [if_neg h2]
    exact ih _ hr (by omega)
theorem int_digits (l : List UInt8) (h : digs l = true) (hn : l ≠ []) : Lib.parseIntB 64 l = if decFrom 0 l < 9223372036854775808 then .ok (decFrom 0 l : Int) else .range := by
 cases l with
 | nil => exact absurd rfl hn
 | cons c r =>
  obtain ⟨hc, _⟩ := (digs_cons c r).1 h; have e := uint_digits (c :: r) 0 h (by omega); have n1 : ¬ (c.toNat = 43 ∨ c.toNat = 45) := by omega
  have n2 : ¬ c.toNat = 45 := by omega
  have e2 : Lib.parseUintB 64 (c :: r) = Lib.parseUintM 18446744073709551615 0 (c :: r) := by
   rw [Lib.parseUintB, if_neg hn]
  simp only [Lib.parseIntB, if_neg n1, e2, e]; by_cases h1 : decFrom 0 (c :: r) ≤ 18446744073709551615
  ·rw [if_pos h1]
   have e3 : (2 : Nat) ^ (64 - 1) = 9223372036854775808 := by decide
   simp only [n2, not_false_eq_true, true_and, e3, false_and, if_false]; by_cases h2 : 9223372036854775808 ≤ decFrom 0 (c :: r)
   ·rw [if_pos h2, if_neg (by omega)]
   ·rw [if_neg h2, if_pos (by omega)]
  ·rw [if_neg h1, if_neg (by omega)]
theorem dropWhile_nil_iff {α : Type} (p : α → Bool) (l : List α) : l.dropWhile p = [] ↔ ∀ x ∈ l, p x = true := by
 induction l with
 | nil => simp
 | cons a r ih =>
  by_cases h : p a = true
  ·simp [h, ih]
  ·simp [h]
theorem ten_contains (c : UInt8) : ([48, 49, 50, 51, 52, 53, 54, 55, 56, 57] : List UInt8).contains c = digitB c.toNat := by
 rw [Bool.eq_iff_iff, digitB_iff]; simp only [List.contains_cons, List.contains_nil, Bool.or_false, Bool.or_eq_true, beq_iff_eq, ← UInt8.toNat_inj]; have e : ∀ n, n < 256 → (UInt8.ofNat n).toNat = n := fun n h => by simp; omega
 have := c.toNat_lt; show _ = 48 ∨ _ = 49 ∨ _ = 50 ∨ _ = 51 ∨ _ = 52 ∨ _ = 53 ∨ _ = 54 ∨ _ = 55 ∨ _ = 56 ∨ _ = 57 ↔ _
 omega
theorem trim_digits (l : List UInt8) : Lib.trimS l [48, 49, 50, 51, 52, 53, 54, 55, 56, 57] = [] ↔ digs l = true := by
 have e : (fun x => ([48, 49, 50, 51, 52, 53, 54, 55, 56, 57] : List UInt8).contains x) = fun c => digitB c.toNat := funext ten_contains
 simp only [Lib.trimS, Lib.trimLeftS, Lib.trimRightS, e]; constructor
 ·intro h
  rw [dropWhile_nil_iff] at h; simp only [digs, List.all_eq_true]; cases hd : List.dropWhile (fun c : UInt8 => digitB c.toNat) l.reverse with
  | nil =>
   rw [dropWhile_nil_iff] at hd; intro x hx; exact hd x (by simpa using hx)
  | cons x xs =>
   have h1 := h x (by rw [hd]; simp); have h2 := List.head_dropWhile_not (fun c : UInt8 => digitB c.toNat) (l := l.reverse) (by rw [hd]; simp); simp only [hd, List.head_cons] at h2; rw [h1] at h2; cases h2
 ·intro h
  simp only [digs, List.all_eq_true] at h
  have : List.dropWhile (fun c : UInt8 => digitB c.toNat) l.reverse = [] := by
   rw [dropWhile_nil_iff]; intro x hx; exact h x (by simpa using hx)
  rw [this]; rfl
end Go.Proofs.YtpcihajmcejliacGreatDoor
