/- The parser: a node that is being built, and a kid that is appended to it. -/
import Derived.Test.YtpcihajmcejliabGreatDoorSynN
import Derived.Test.YtpcihajmcejliabGreatDoorChainA
import Derived.Deep.AppendLies
namespace Go.Proofs.YtpcihajmcejliabGreatDoor
open Go.RowKit
namespace synw
theorem mixed : Tryz.prog.follows .mixedOrders = true := by kernel_rfl
theorem info_node : (Tryz.prog.info? 66).map (fun i => (i.zero, i.size, i.bytes)) = some (some (.agg #[.int .i64 0, .string ⟨#[]⟩, .int .i64 0, .slice none 0 0]), 4, 56) := by kernel_rfl
theorem info_split {o : Option TypeInfo} {z : Option Value} {s b : Nat} (h : o.map (fun i => (i.zero, i.size, i.bytes)) = some (z, s, b)) : ∃ i, o = some i ∧ i.zero = z ∧ i.size = s ∧ i.bytes = b := by
  cases o with
  | none => cases h
  | some i =>
    simp only [Option.map_some, Option.some.injEq, Prod.mk.injEq] at h
    exact ⟨i, rfl, h.1, h.2.1, h.2.2⟩
def zeroNd : Array Value := #[.int .i64 0, .string ⟨#[]⟩, .int .i64 0, .slice none 0 0]
def VN (H : Nat) (x : Nd) (v : Value) (w' : World) : Prop := NdAt (hide (below H) w') x v
/-- a node that is being built: the parser, the result's cells (nought), the node's cells, its kids' row -/
structure Bld (W w0 u : World) (S E A N : Nat) (l : List Tk) (kind : Int) (text : ByteArray) (num : Int) (rowN row : Value) (acc : List Nd) : Prop where
  pr : PrAt W u S E l
  chg : Chg (fun i => i = S) w0 u
  res : Blk u A zeroNd 66
  nd : Blk u N #[.int .i64 kind, .string text, .int .i64 num, rowN] 66
  grow : Grow 4 66 VNd (N + 1) u row acc
  hS : S < w0.heap.size
  hA : w0.heap.size ≤ A
  hAN : A < N
  few : acc.length + l.length ≤ 10000
theorem Bld.call {W w0 u u' : World} {S E A N : Nat} {l l' : List Tk} {kind num : Int} {text : ByteArray} {rowN row : Value} {acc : List Nd} (h : Bld W w0 u S E A N l kind text num rowN row acc) (hC : Chg (fun i => i = S) u u') (hP : PrAt W u' S E l') (hl : l'.length ≤ l.length) :
    Bld W w0 u' S E A N l' kind text num rowN row acc := by
  have h1 := h.hS; have h2 := h.hA; have h3 := h.hAN; have h4 := h.few
  exact ⟨hP, h.chg.then hC, h.res.chg hC (by omega), h.nd.chg hC (by omega), h.grow.chg vnd_keeps hC (fun i hi => by omega), h1, h2, h3, by omega⟩
theorem Bld.extend {W w0 u u' : World} {S E A N : Nat} {l : List Tk} {kind num : Int} {text : ByteArray} {rowN row : Value} {acc : List Nd} (h : Bld W w0 u S E A N l kind text num rowN row acc) (hE : Ext u u') : Bld W w0 u' S E A N l kind text num rowN row acc :=
  h.call (ext_at hE S) (h.pr.extend hE) (Nat.le_refl _)
theorem Bld.lt {W w0 u : World} {S E A N : Nat} {l : List Tk} {kind num : Int} {text : ByteArray} {rowN row : Value} {acc : List Nd} (h : Bld W w0 u S E A N l kind text num rowN row acc) : N < u.heap.size := h.nd.lt
theorem Bld.slice {W w0 u : World} {S E A N : Nat} {l : List Tk} {kind num : Int} {text : ByteArray} {rowN row : Value} {acc : List Nd} (h : Bld W w0 u S E A N l kind text num rowN row acc) : ∃ a c, row = .slice a acc.length c := by
  obtain ⟨us, _, ho, _⟩ := h.grow.ex
  rcases ho.2 with ⟨rfl, h0⟩ | ⟨g, cap, cur, rfl, _⟩
  · exact ⟨_, _, by rw [h0]⟩
  · exact ⟨_, _, rfl⟩
/-- a new node begins -/
theorem Bld.start {W w0 u : World} {S E A N : Nat} {l : List Tk} {kind num : Int} {text : ByteArray} (hP : PrAt W u S E l) (hC : Chg (fun i => i = S) w0 u) (hR : Blk u A zeroNd 66) (hN : Blk u N #[.int .i64 kind, .string text, .int .i64 num, .slice none 0 0] 66)
    (hS : S < w0.heap.size) (hA : w0.heap.size ≤ A) (hAN : A < N) (hl : l.length ≤ 10000) : Bld W w0 u S E A N l kind text num (.slice none 0 0) (.slice none 0 0) [] :=
  ⟨hP, hC, hR, hN, Grow.nil _ _ _ _ _, hS, hA, hAN, by simpa using hl⟩
theorem pr_len {W w : World} {S E : Nat} {l : List Tk} (h : PrAt W w S E l) : l.length ≤ 10000 := by
  obtain ⟨a, n, c, k, hb, h1, h2, h3⟩ := h.ex
  omega
/-- the node is done -/
theorem Bld.done {W w0 u : World} {S E A N : Nat} {l : List Tk} {kind num : Int} {text : ByteArray} {row : Value} {acc : List Nd} (h : Bld W w0 u S E A N l kind text num row row acc) (ht : text.size ≤ 10000) : VN w0.heap.size (.mk kind text num acc) (.agg #[.int .i64 kind, .string text, .int .i64 num, row]) u := by
  have h2 := h.hA; have h3 := h.hAN
  exact ndAt_low (ndAt_grow h.grow ht) (by omega)
/-- the append of a kid, as far as it has come -/
def PushF (W w0 : World) (S E A N : Nat) (l : List Tk) (kind : Int) (text : ByteArray) (num : Int) (row : Value) (acc : List Nd) (T : Out Nd) : List Value → World → Prop
  | [], u => Bld W w0 u S E A N l kind text num row row acc
  | [v], u => ∃ x l', Hid (T = .got x l') ∧ Bld W w0 u S E A N l' kind text num row row acc ∧ acc.length + 1 + l'.length ≤ 10000 ∧ NdAt (hide (rowHid (N + 1) row) u) x v
  | [v, s], u => ∃ x l', Hid (T = .got x l') ∧ Bld W w0 u S E A N l' kind text num row row acc ∧ acc.length + 1 + l'.length ≤ 10000 ∧ NdAt (hide (rowHid (N + 1) row) u) x v ∧ ∃ g, s = .slice (some ⟨g, 0, none⟩) 1 1 ∧ Blk u g v.cells 66 ∧ row.ownBlock ≠ some g
  | [_, _, r], u => ∃ x l', Hid (T = .got x l') ∧ Bld W w0 u S E A N l' kind text num row r (acc ++ [x]) ∧ ∃ g c, r = .slice (some ⟨g, 0, none⟩) (acc.length + 1) c
  | [_, _, r, _], u => ∃ x l', Hid (T = .got x l') ∧ Bld W w0 u S E A N l' kind text num r r (acc ++ [x])
  | _, _ => False
theorem PushF.cell {W w0 u : World} {S E A N : Nat} {l : List Tk} {kind num : Int} {text : ByteArray} {row : Value} {acc : List Nd} {T : Out Nd} {vs : List Value} (h : PushF W w0 S E A N l kind text num row acc T vs u) (hv : vs.length ≤ 2) : u.cell? ⟨N, 3, none⟩ = some row := by
  match vs, hv, h with
  | [], _, h => exact (show Bld .. from h).nd.cell 3
  | [_], _, ⟨x, l', _, h, _⟩ => exact h.nd.cell 3
  | [_, _], _, ⟨x, l', _, h, _⟩ => exact h.nd.cell 3
theorem push_call {W w0 u u2 : World} {S E A N : Nat} {l l' : List Tk} {kind num : Int} {text : ByteArray} {row : Value} {acc : List Nd} {T : Out Nd} {x : Nd} {v : Value} (h : Bld W w0 u S E A N l kind text num row row acc) (hC : Chg (fun i => i = S) u u2) (hT : T = .got x l') (hV : VN u.heap.size x v u2) (hP : PrAt W u2 S E l') (hl : l'.length < l.length) :
    PushF W w0 S E A N l kind text num row acc T [v] u2 := by
  have h4 := h.few
  refine ⟨x, l', Lib.hid hT, h.call hC hP (by omega), by omega, ndAt_keeps (keeps_hide (Nat.le_refl _) fun i hi hm => ?_) _ _ hV⟩
  simp only [below, rowHid, decide_eq_false_iff_not, Bool.or_eq_false_iff] at hm ⊢
  have h1 := h.lt
  refine ⟨⟨by omega, fun e => ?_⟩, trivial⟩
  obtain ⟨us, _, ho, _⟩ := h.grow.ex
  have := (World.ownsRow.lt ho i e).2
  omega
theorem push_slice {W w0 u : World} {S E A N : Nat} {l : List Tk} {kind num : Int} {text : ByteArray} {row : Value} {acc : List Nd} {T : Out Nd} {v : Value} (h : PushF W w0 S E A N l kind text num row acc T [v] u) {c : Array Value} (hc : v.cells = c) :
    PushF W w0 S E A N l kind text num row acc T [v, .slice (some ⟨u.heap.size, 0, none⟩) 1 1] (u.alloc (.cells c 66)) := by
  obtain ⟨x, l', hT, hB, hl, hx⟩ := h
  have hE := (Chg.refl (fun _ => False) u).alloc (.cells c 66)
  refine ⟨x, l', hT, hB.extend hE, hl, ndAt_keeps (keeps_chg hE fun _ _ h => h.elim) _ _ hx, _, rfl, by rw [hc]; exact Blk.made _ _ _, fun e => ?_⟩
  obtain ⟨us, _, ho, _⟩ := hB.grow.ex
  have := (World.ownsRow.lt ho _ e).2
  omega
theorem push_append {W w0 u u' : World} {S E A N : Nat} {l : List Tk} {kind num : Int} {text : ByteArray} {row v s : Value} {acc : List Nd} {T : Out Nd} {us : List Value} (h : PushF W w0 S E A N l kind text num row acc T [v, s] u) (hus : us.length = acc.length)
    (hu3 : ∀ j (h : j < acc.length) (h' : j < us.length), VNd acc[j] us[j] (hide (rowHid (N + 1) row) u) ∧ us[j].cells.size = 4) {g c : Nat}
    (ho : u'.ownsRow (N + 1) 66 4 (.slice (some ⟨g, 0, none⟩) (acc.length + 1) c) (acc.length + 1) (us.flatMap (fun u => u.cells.toList) ++ v.cells.toList))
    (hg : u.grownBy u' row.ownBlock) (ha : row.ownBlock = some g ∨ g = u.heap.size) :
    PushF W w0 S E A N l kind text num row acc T [v, s, .slice (some ⟨g, 0, none⟩) (acc.length + 1) c] u' := by
  obtain ⟨x, l', hT, hB, hl, hx, -⟩ := h
  have h1 := hB.hS; have h2 := hB.hA; have h3 := hB.hAN; have h4 := hB.few
  have hrow : ∀ i, row.ownBlock = some i → N + 1 ≤ i := fun i e => by
    obtain ⟨us, _, ho, _⟩ := hB.grow.ex
    exact (World.ownsRow.lt ho i e).1
  have hC : Chg (fun i => row.ownBlock = some i) u u' := ⟨hg.os, hg.tape, hg.output, hg.size, fun i hi hn => hg.block i hi (by first | exact hn | exact fun e => hn e.symm)⟩
  have hn : N < u.heap.size := hB.lt
  refine ⟨x, l', hT, ⟨hB.pr.chg hC (fun e => by have := hrow _ e; omega) (fun i e => by have := hrow _ e; have := hB.pr.hS; omega), hB.chg.trans hC (fun i hi e => by have := hrow _ e; omega), hB.res.chg hC (fun e => by have := hrow _ e; omega), hB.nd.chg hC (fun e => by have := hrow _ e; omega), ?_, h1, h2, h3, by rw [List.length_append, List.length_singleton]; omega⟩, g, c, rfl⟩
  exact Grow.push vnd_keeps hus hu3 hx (nd_size hx) ho hg.size (fun i hi hne => hC.block i hi hne) (fun i e => by
    have : g = i := by simpa [Value.ownBlock] using e
    subst this
    rcases ha with ha | ha
    · exact .inl ha
    · exact .inr (by omega))
theorem push_store {W w0 u : World} {S E A N : Nat} {l : List Tk} {kind num : Int} {text : ByteArray} {row v s r z : Value} {acc : List Nd} {T : Out Nd} (h : PushF W w0 S E A N l kind text num row acc T [v, s, r] u) : PushF W w0 S E A N l kind text num row acc T [v, s, r, z] (u.setCell ⟨N, 3, none⟩ r) := by
  obtain ⟨x, l', hT, hB, -⟩ := h
  have h1 := hB.hS; have h2 := hB.hA; have h3 := hB.hAN
  have hWS := hB.pr.hS
  have hC : Chg (fun i => i = N) u (u.setCell ⟨N, 3, none⟩ r) := chg_set (Chg.refl _ _) 3 r
  refine ⟨x, l', hT, hB.pr.chg hC (by omega) (fun i e => by omega), hB.chg.setNew (p := ⟨N, 3, none⟩) (by show w0.heap.size ≤ N; omega) _, hB.res.setOther (p := ⟨N, 3, none⟩) (by show A ≠ N; omega) _, ?_, hB.grow.chg vnd_keeps hC (fun i e => by omega), h1, h2, h3, hB.few⟩
  have := hB.nd.set 3 r
  exact this
/-- the node is told -/
theorem Bld.ret {W w0 u : World} {S E A N : Nat} {l : List Tk} {kind num : Int} {text : ByteArray} {row : Value} {acc : List Nd} {T : Out Nd} (h : Bld W w0 u S E A N l kind text num row row acc) (ht : text.size ≤ 10000) (hT : T = .got (.mk kind text num acc) l) (a b c d : Value) :
    Pst (VN w0.heap.size) W w0 S E T (.returned (.agg #[.int .i64 kind, .string text, .int .i64 num, row])) ((((u.setCell ⟨A, 0, none⟩ a).setCell ⟨A, 1, none⟩ b).setCell ⟨A, 2, none⟩ c).setCell ⟨A, 3, none⟩ d) := by
  have h1 := h.hS; have h2 := h.hA; have h3 := h.hAN
  have hWS := h.pr.hS
  have hC : Chg (fun i => i = A) u ((((u.setCell ⟨A, 0, none⟩ a).setCell ⟨A, 1, none⟩ b).setCell ⟨A, 2, none⟩ c).setCell ⟨A, 3, none⟩ d) := chg_set (chg_set (chg_set (chg_set (Chg.refl _ _) 0 a) 1 b) 2 c) 3 d
  refine Pst.reads (h.chg.trans hC fun i hi e => by omega) hT ?_ (h.pr.chg hC (by omega) (fun i e => by omega))
  exact ndAt_low (ndAt_chg (ndAt_grow h.grow ht) hC (fun i e => by omega)) (by omega)
/-- the functions that read, and what they are called with -/
def argsOf (S : Nat) : NT → Option (FuncId × Array Value)
  | .expr => some (323, #[.pointer (some ⟨S, 0, none⟩)])
  | .bound k => some (353, #[.pointer (some ⟨S, 0, none⟩), .int .i64 (k : Nat)])
  | .unary => some (363, #[.pointer (some ⟨S, 0, none⟩)])
  | .asked => some (326, #[.pointer (some ⟨S, 0, none⟩)])
  | .place s => some (327, #[.pointer (some ⟨S, 0, none⟩), .string s])
  | .call s => some (324, #[.pointer (some ⟨S, 0, none⟩), .string s])
  | .block => some (255, #[.pointer (some ⟨S, 0, none⟩)])
  | .stat => some (289, #[.pointer (some ⟨S, 0, none⟩)])
  | .decl => some (152, #[.pointer (some ⟨S, 0, none⟩)])
  | .proc pub => some (223, #[.pointer (some ⟨S, 0, none⟩), .int .i64 pub])
  | .module => some (85, #[.pointer (some ⟨S, 0, none⟩)])
  | _ => none
/-- what is asked of a call -/
def askOf : NT → Prop
  | .bound k => k ≤ 3
  | .place s => s.size ≤ 7000
  | .call s => s.size ≤ 7000
  | .proc pub => 0 ≤ pub ∧ pub ≤ 2
  | _ => True
/-- with this fuel, what is read is what plain Lean says -/
def Good (n : Nat) : Prop := ∀ {W w : World} {S E : Nat} {l : List Tk} (X : NT) (f : FuncId) (a : Array Value), PrAt W w S E l → MaxVar W → argsOf S X = some (f, a) → askOf X → prs n X l ≠ .out → Calls Tryz.prog f a w (Pst (VN w.heap.size) W w S E (prs n X l))
end synw
end Go.Proofs.YtpcihajmcejliabGreatDoor
