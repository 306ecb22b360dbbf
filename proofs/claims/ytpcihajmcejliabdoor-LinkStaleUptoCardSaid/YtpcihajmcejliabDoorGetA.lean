/- Bytes read as an object, in plain Lean. The walk of the program's reader: take, a number, a truth, a text. Worlds with some blocks hidden: what data says that lies apart from what a call turns; rows that a call makes out of such data. What is read, as values. -/
import Derived.Test.YtpcihajmcejliabDoorObjMath
import Derived.Test.YtpcihajmcejliabDoorFaceDefs
import Derived.Test.YtpcihajmcejliabDoorProg
import Derived.WalkKit
import Derived.WalkSpells
import Derived.Laws.BytesArg
import Derived.Deep.RegionHeld3
import Derived.BigQuiet
import Derived.Deep.QuietTactic
import Derived.Test.YtpcihajmcejliabDoorObjDefs
namespace Go.Proofs.YtpcihajmcejliabDoor
open Go.RowKit
/-- one byte more of a number of 64 bits -/
def byteStep (n : Int) (c : UInt8) : Int := IntKind.i64.wrap (n * 256 + c.toNat)
def get8 (l : List UInt8) : Int := l.foldl byteStep 0
/-- a parser of bytes: what it reads, and what is left -/
abbrev Prs (α : Type) := List UInt8 → Option (α × List UInt8)
def rdNum : Prs Int := fun l => if l.length < 8 then none else some (get8 (l.take 8), l.drop 8)
def rdTruth : Prs Bool := fun l => match rdNum l with
  | none => none
  | some (n, r) => if n = 0 then some (false, r) else if n = 1 then some (true, r) else none
def rdText : Prs ByteArray := fun l => match rdNum l with
  | none => none
  | some (n, r) => if 0 ≤ n ∧ n ≤ r.length then some (⟨(r.take n.toNat).toArray⟩, r.drop n.toNat) else none
def rdMany {α : Type} (p : Prs α) : Nat → Prs (List α)
  | 0, l => some ([], l)
  | n + 1, l => match p l with
    | none => none
    | some (x, r) => match rdMany p n r with
      | none => none
      | some (xs, r2) => some (x :: xs, r2)
def rdItems {α : Type} (p : Prs α) : Prs (List α) := fun l => match rdNum l with
  | none => none
  | some (n, r) => if 0 ≤ n ∧ n ≤ ((r.length / 8 : Nat) : Int) then rdMany p n.toNat r else none
def rdMap {α β : Type} (p : Prs α) (f : α → Prs β) : Prs β := fun l => match p l with
  | none => none
  | some (x, r) => f x r
def rdVar : Prs FVar := rdMap rdText fun nm => rdMap rdTruth fun pb => rdMap rdNum fun lb => rdMap rdNum fun sz l => some (⟨nm, pb, lb, sz⟩, l)
def rdProc : Prs FProc := rdMap rdText fun nm => rdMap rdTruth fun pb => rdMap (rdItems rdNum) fun ps => rdMap rdNum fun wr => rdMap rdTruth fun gs => rdMap rdNum fun gv l => some (⟨nm, pb, ps, wr, gs, gv⟩, l)
def rdFace : Prs FFace := rdMap rdText fun nm => rdMap (rdItems rdVar) fun vs => rdMap (rdItems rdProc) fun ps l => some (⟨nm, vs, ps⟩, l)
def rdPlc : Prs FPlc := rdMap rdText fun nm => rdMap rdNum fun n l => some (⟨nm, n⟩, l)
def rdIns : Prs Ins := rdMap rdNum fun op => rdMap rdNum fun a => rdMap rdNum fun b => rdMap rdNum fun c => rdMap rdNum fun n l => some (⟨op, a, b, c, n⟩, l)
def rdRel : Prs FRel := rdMap rdNum fun n => rdMap rdNum fun k => rdMap rdText fun m => rdMap rdText fun s l => some (⟨n, k, m, s⟩, l)
def rdObj : Prs FObj := rdMap rdFace fun f => rdMap (rdItems rdFace) fun im => rdMap (rdItems rdIns) fun co => rdMap (rdItems rdRel) fun re => rdMap (rdItems rdPlc) fun ps => rdMap (rdItems rdPlc) fun lo => rdMap (rdItems rdPlc) fun hi =>
  rdMap rdNum fun a => rdMap rdNum fun b => rdMap rdNum fun c => rdMap rdNum fun d l => some (⟨f, im, co, re, ps, lo, hi, a, b, c, d⟩, l)
namespace getm
theorem wrap_wrap_add (a b : Int) : IntKind.i64.wrap (IntKind.i64.wrap a * 256 + b) = IntKind.i64.wrap (a * 256 + b) := by
  simp only [IntKind.wrap_i64]
  omega
theorem byteStep_wrap (a : Int) (c : UInt8) : byteStep (IntKind.i64.wrap a) c = IntKind.i64.wrap (a * 256 + c.toNat) := wrap_wrap_add _ _
theorem step_or (n : Int) (c : UInt8) : IntKind.i64.wrap (BitVec.ofInt 64 (IntKind.i64.wrap (n * 256)) ||| BitVec.ofInt 64 (c.toNat : Int)).toNat = byteStep n c := by
  have hc : c.toNat < 256 := c.toNat_lt
  obtain ⟨k, hk⟩ : ∃ k, c.toNat = k := ⟨_, rfl⟩
  have hy : (BitVec.ofInt 64 (IntKind.i64.wrap (n * 256))).toNat = (n % 72057594037927936).toNat * 256 := by
    rw [BitVec.toNat_ofInt, IntKind.wrap_i64]
    show (_ % (18446744073709551616 : Int)).toNat = _
    omega
  have hb : (BitVec.ofInt 64 (c.toNat : Int)).toNat = k := by
    rw [BitVec.toNat_ofInt, hk]
    show (_ % (18446744073709551616 : Int)).toNat = _
    omega
  have hor : (BitVec.ofInt 64 (IntKind.i64.wrap (n * 256)) ||| BitVec.ofInt 64 (c.toNat : Int)).toNat = (n % 72057594037927936).toNat * 256 + k := by
    rw [BitVec.toNat_or, hy, hb]
    have := Nat.shiftLeft_add_eq_or_of_lt (i := 8) (b := k) (by omega) (n % 72057594037927936).toNat
    rw [Nat.shiftLeft_eq] at this
    exact this.symm
  rw [hor]
  unfold byteStep
  rw [hk, IntKind.wrap_i64, IntKind.wrap_i64]
  omega
theorem get8_num8 (n : Int) (h : -9223372036854775808 ≤ n ∧ n ≤ 9223372036854775807) : get8 (num8 n) = n := by
  have e : ∀ s, ((byteAt n s).toNat : Int) = (n / 2 ^ s) % 256 := fun s => obj.byteAt_nat n s
  have h0 : byteStep 0 (byteAt n 56) = IntKind.i64.wrap ((n / 2 ^ 56) % 256) := by unfold byteStep; rw [e]; simp
  unfold get8 num8
  simp only [List.foldl_cons, List.foldl_nil]
  rw [h0]
  simp only [byteStep_wrap, e]
  have d : ∀ s : Nat, n / 2 ^ (s + 8) = n / 2 ^ s / 256 := fun s => by
    rw [Int.pow_add, Int.ediv_ediv_of_nonneg (by exact Int.pow_nonneg (by decide))]; rfl
  have d1 := d 0
  have d2 := d 8
  have d3 := d 16
  have d4 := d 24
  have d5 := d 32
  have d6 := d 40
  have d7 := d 48
  simp only [Nat.zero_add, Nat.reduceAdd, Int.pow_zero, Int.ediv_one] at d1 d2 d3 d4 d5 d6 d7 ⊢
  generalize n / 2 ^ 8 = q1 at *
  generalize n / 2 ^ 16 = q2 at *
  generalize n / 2 ^ 24 = q3 at *
  generalize n / 2 ^ 32 = q4 at *
  generalize n / 2 ^ 40 = q5 at *
  generalize n / 2 ^ 48 = q6 at *
  generalize n / 2 ^ 56 = q7 at *
  rw [IntKind.wrap_i64]
  omega
theorem byteStep_in (n : Int) (c : UInt8) : -9223372036854775808 ≤ byteStep n c ∧ byteStep n c ≤ 9223372036854775807 := by
  unfold byteStep; rw [IntKind.wrap_i64]; omega
theorem get8_in (l : List UInt8) : -9223372036854775808 ≤ get8 l ∧ get8 l ≤ 9223372036854775807 := by
  unfold get8
  have : ∀ (l : List UInt8) (n : Int), (-9223372036854775808 ≤ n ∧ n ≤ 9223372036854775807) → -9223372036854775808 ≤ l.foldl byteStep n ∧ l.foldl byteStep n ≤ 9223372036854775807 := by
    intro l
    induction l with
    | nil => exact fun n h => h
    | cons c r ih => exact fun n _ => ih _ (byteStep_in n c)
  exact this l 0 (by omega)
theorem get8_take (l : List UInt8) (k : Nat) (h : k < l.length) : get8 (l.take (k + 1)) = byteStep (get8 (l.take k)) l[k] := by
  unfold get8
  rw [List.take_succ_eq_append_getElem h, List.foldl_append]
  rfl
end getm
end Go.Proofs.YtpcihajmcejliabDoor
namespace Go.Proofs.YtpcihajmcejliabDoor
open Go.RowKit
def ByteIn (w : World) (b o : Nat) (x : UInt8) : Prop := w.cell? ⟨b, o, none⟩ = some (.int .u8 (x.toNat : Int))
theorem ByteIn.ext {w w' : World} (hE : Ext w w') {b o : Nat} {x : UInt8} (hb : b < w.heap.size) (h : ByteIn w b o x) : ByteIn w' b o x := by
  unfold ByteIn at *; rw [hE.cell (by exact hb) id]; exact h
/-- bytes as a value -/
structure BytesAt (w : World) (l : List UInt8) (v : Value) : Prop where
  ex : ∃ a c, v = .slice a l.length c ∧ l.length ≤ c ∧ c ≤ maxLen ∧ AllIn 1 ByteIn w a l
theorem BytesAt.ext {w w' : World} (hE : Ext w w') {l : List UInt8} {v : Value} (h : BytesAt w l v) : BytesAt w' l v := by
  obtain ⟨a, c, rfl, h1, h2, h3⟩ := h.ex
  exact ⟨a, c, rfl, h1, h2, h3.mono hE.size fun _ _ _ hb h => ByteIn.ext hE hb h⟩
/-- the place behind k elements, as slicing tells it -/
theorem AllIn.drop {α : Type} {k : Nat} {In : World → Nat → Nat → α → Prop} {w : World} {a : Option Addr} {l : List α} (h : AllIn k In w a l) (n : Nat) (b : Bool) (hb : b = true → n = 0 ∨ l.length ≤ n) :
    AllIn k In w (if b = true then a else a.map (·.add (n * k))) (l.drop n) := fun j hj => by
  rw [List.length_drop] at hj
  obtain ⟨g, o, rfl, hg, hin⟩ := h (n + j) (by omega)
  rw [List.getElem_drop]
  cases b with
  | true =>
    obtain rfl : n = 0 := (hb rfl).elim id (fun h => by omega)
    exact ⟨g, o, rfl, hg, by simpa using hin⟩
  | false =>
    refine ⟨g, o + n * k, by simp [Addr.add], hg, ?_⟩
    rw [Nat.add_mul, ← Nat.add_assoc] at hin
    exact hin
theorem AllIn.take {α : Type} {k : Nat} {In : World → Nat → Nat → α → Prop} {w : World} {a : Option Addr} {l : List α} (h : AllIn k In w a l) (n : Nat) : AllIn k In w a (l.take n) := fun j hj => by
  rw [List.length_take] at hj
  obtain ⟨g, o, rfl, hg, hin⟩ := h j (by omega)
  rw [List.getElem_take]
  exact ⟨g, o, rfl, hg, hin⟩
namespace getw
theorem mixed : Tryd.prog.follows .mixedOrders = true := by kernel_rfl
theorem bits_step (n : Int) (c : UInt8) : bits .or .i64 (wrap64 (n * 256)) (c.toNat : Int) = byteStep n c := by
  have h := getm.step_or n c
  have e : IntKind.i64.wrap (n * 256) = wrap64 (n * 256) := by rw [IntKind.wrap_i64]; unfold wrap64; omega
  rw [e] at h
  exact h
theorem bytes_text {W w : World} {l : List UInt8} {v : Value} (hv : BytesAt W l v) (hE : Ext W w) : (convert 130 9 v).run Tryd.prog w = .ok (.string ⟨l.toArray⟩) w := by
  obtain ⟨a, c, rfl, h1, h2, h3⟩ := hv.ex
  cases a with
  | none =>
    have : l.length = 0 := by
      rcases Nat.eq_zero_or_pos l.length with h | h
      · exact h
      · obtain ⟨b, o, e, -⟩ := h3 0 h; cases e
    obtain rfl := List.eq_nil_of_length_eq_zero this
    exact run_convert_bytes_nil _ 130 5 Tryd.underlying130 Tryd.underlying5 _ _ 9 Tryd.underlying9
  | some p =>
    refine run_convert_bytes_back w 130 9 5 p c l Tryd.underlying130 Tryd.underlying5 Tryd.underlying9 fun j hj => ?_
    obtain ⟨b, o, e, hb, hc⟩ := h3 j hj
    cases e
    have := ByteIn.ext hE hb hc
    unfold ByteIn at this
    rw [Nat.mul_one] at this
    have e : (⟨b, o, none⟩ : Addr).add j = ⟨b, o + j, none⟩ := by unfold Addr.add; split <;> simp_all
    rw [e]
    exact this
end getw
end Go.Proofs.YtpcihajmcejliabDoor
namespace Go.Proofs.YtpcihajmcejliabDoor
open Go.RowKit
/-- the blocks that M names are hidden -/
def hide (M : Nat → Bool) (w : World) : World := { w with heap := w.heap.mapIdx fun i o => if M i then .cells #[] 0 else o }
theorem hide_size (M : Nat → Bool) (w : World) : (hide M w).heap.size = w.heap.size := by simp [hide]
theorem hide_at (M : Nat → Bool) (w : World) (i : Nat) (h : M i = false) : (hide M w).heap[i]? = w.heap[i]? := by
  simp [hide, h]
theorem hide_cell_not (M : Nat → Bool) (w : World) (p : Addr) (h : M p.block = true) : (hide M w).cell? p = none := by
  unfold World.cell?
  by_cases hp : p.block < w.heap.size
  · simp [hide, h, hp]
  · simp [hide, hp]
theorem hide_cell (M : Nat → Bool) (w : World) (p : Addr) (h : M p.block = false) : (hide M w).cell? p = w.cell? p := World.cell?_of_block (hide_at M w p.block h)
/-- what was there to be read is there to be read -/
def Keeps (w w' : World) : Prop := w.heap.size ≤ w'.heap.size ∧ ∀ p u, w.cell? p = some u → w'.cell? p = some u
theorem Keeps.refl (w : World) : Keeps w w := ⟨Nat.le_refl _, fun _ _ h => h⟩
theorem Keeps.trans {a b c : World} (h : Keeps a b) (k : Keeps b c) : Keeps a c := ⟨Nat.le_trans h.1 k.1, fun p u hp => k.2 p u (h.2 p u hp)⟩
theorem keeps_hide {M M' : Nat → Bool} {w w' : World} (hs : w.heap.size ≤ w'.heap.size) (h : ∀ i, i < w.heap.size → M i = false → M' i = false ∧ w'.heap[i]? = w.heap[i]?) : Keeps (hide M w) (hide M' w') := by
  refine ⟨by rw [hide_size, hide_size]; exact hs, fun p u hp => ?_⟩
  cases hM : M p.block with
  | true => rw [hide_cell_not M w p hM] at hp; cases hp
  | false =>
    rw [hide_cell M w p hM] at hp
    obtain ⟨h1, h2⟩ := h p.block (World.block_lt_of_cell? w p hp) hM
    rw [hide_cell M' w' p h1, World.cell?_of_block h2]
    exact hp
theorem keeps_bare (M : Nat → Bool) (w : World) : Keeps (hide M w) w := ⟨by rw [hide_size]; exact Nat.le_refl _, fun p _ hp => by
  cases hM : M p.block with
  | true => rw [hide_cell_not M w p hM] at hp; cases hp
  | false => rw [hide_cell M w p hM] at hp; exact hp⟩
theorem keeps_chg {M : Nat → Bool} {S : Nat → Prop} {w w' : World} (h : Chg S w w') (hS : ∀ i, i < w.heap.size → S i → M i = true) : Keeps (hide M w) (hide M w') :=
  keeps_hide h.size fun i hi hm => ⟨hm, h.block i hi fun hs => by have := hS i hi hs; rw [this] at hm; cases hm⟩
theorem Ext.keeps {w w' : World} (h : Ext w w') : Keeps w w' := ⟨h.size, fun p _ hp => (h.cell (World.block_lt_of_cell? w p hp) id).trans hp⟩
theorem AllIn.keeps {α : Type} {k : Nat} {In : World → Nat → Nat → α → Prop} {w w' : World} {a : Option Addr} {l : List α} (h : AllIn k In w a l) (hk : Keeps w w')
    (hi : ∀ b o x, In w b o x → In w' b o x) : AllIn k In w' a l := fun j hj => by
  obtain ⟨b, o, e, hb, hin⟩ := h j hj
  exact ⟨b, o, e, Nat.lt_of_lt_of_le hb hk.1, hi _ _ _ hin⟩
theorem IntIn.keeps {w w' : World} (h : Keeps w w') {b o : Nat} {x : Int} (hx : IntIn w b o x) : IntIn w' b o x := h.2 _ _ hx
theorem VarIn.keeps {w w' : World} (h : Keeps w w') {b o : Nat} {x : FVar} (hx : VarIn w b o x) : VarIn w' b o x :=
  ⟨h.2 _ _ hx.1, h.2 _ _ hx.2.1, h.2 _ _ hx.2.2.1, h.2 _ _ hx.2.2.2.1, hx.2.2.2.2⟩
theorem ProcIn.keeps {w w' : World} (h : Keeps w w') {b o : Nat} {x : FProc} (hx : ProcIn w b o x) : ProcIn w' b o x := by
  obtain ⟨h0, h1, ⟨a, cap, h2, h2i, h2c⟩, h3, h4, h5, h6⟩ := hx
  exact ⟨h.2 _ _ h0, h.2 _ _ h1, ⟨a, cap, h.2 _ _ h2, h2i.keeps h fun _ _ _ => IntIn.keeps h, h2c⟩, h.2 _ _ h3, h.2 _ _ h4, h.2 _ _ h5, h6⟩
theorem FaceAt.keeps {w w' : World} (hk : Keeps w w') {x : FFace} {v : Value} (h : FaceAt w x v) : FaceAt w' x v := by
  obtain ⟨a, m, c, d, rfl, h1, h2, h3⟩ := h
  exact ⟨a, m, c, d, rfl, h1.keeps hk fun _ _ _ => VarIn.keeps hk, h2.keeps hk fun _ _ _ => ProcIn.keeps hk, h3⟩
theorem FaceIn.keeps {w w' : World} (hk : Keeps w w') {b o : Nat} {x : FFace} (h : FaceIn w b o x) : FaceIn w' b o x := by
  obtain ⟨a, m, c, d, h0, h1, h2, h3⟩ := h
  exact ⟨a, m, c, d, hk.2 _ _ h0, hk.2 _ _ h1, hk.2 _ _ h2, FaceAt.keeps hk h3⟩
theorem PlcIn.keeps {w w' : World} (hk : Keeps w w') {b o : Nat} {x : FPlc} (h : PlcIn w b o x) : PlcIn w' b o x := ⟨hk.2 _ _ h.1, hk.2 _ _ h.2.1, h.2.2⟩
theorem InsIn5.keeps {w w' : World} (hk : Keeps w w') {b o : Nat} {x : Ins} (h : InsIn5 w b o x) : InsIn5 w' b o x := ⟨hk.2 _ _ h.1, hk.2 _ _ h.2.1, hk.2 _ _ h.2.2.1, hk.2 _ _ h.2.2.2.1, hk.2 _ _ h.2.2.2.2⟩
theorem RelIn.keeps {w w' : World} (hk : Keeps w w') {b o : Nat} {x : FRel} (h : RelIn w b o x) : RelIn w' b o x := ⟨hk.2 _ _ h.1, hk.2 _ _ h.2.1, hk.2 _ _ h.2.2.1, hk.2 _ _ h.2.2.2⟩
theorem ObjAt.keeps {w w' : World} (hk : Keeps w w') {x : FObj} {v : Value} (h : ObjAt w x v) : ObjAt w' x v := by
  obtain ⟨fa, am, fc, cm, ia, ic, ca, cc, ra, rc, pa, pc, la, lc, ha, hc, rfl, h0, h1, h2, h3, h4, h5, h6⟩ := h.ex
  exact ⟨fa, am, fc, cm, ia, ic, ca, cc, ra, rc, pa, pc, la, lc, ha, hc, rfl, FaceAt.keeps hk h0, h1.keeps hk fun _ _ _ => FaceIn.keeps hk, h2.keeps hk fun _ _ _ => InsIn5.keeps hk, h3.keeps hk fun _ _ _ => RelIn.keeps hk, h4.keeps hk fun _ _ _ => PlcIn.keeps hk, h5.keeps hk fun _ _ _ => PlcIn.keeps hk, h6.keeps hk fun _ _ _ => PlcIn.keeps hk⟩
/-- a slice whose elements are these -/
def RowAt {α : Type} (k : Nat) (In : World → Nat → Nat → α → Prop) (l : List α) (v : Value) (w : World) : Prop := ∃ a c, v = .slice a l.length c ∧ l.length ≤ c ∧ c ≤ maxLen ∧ AllIn k In w a l
theorem RowAt.keeps {α : Type} {k : Nat} {In : World → Nat → Nat → α → Prop} {l : List α} {v : Value} {w w' : World} (hi : ∀ b o x, In w b o x → In w' b o x) (hk : Keeps w w') (h : RowAt k In l v w) : RowAt k In l v w' := by
  obtain ⟨a, c, e, h1, h2, h3⟩ := h
  exact ⟨a, c, e, h1, h2, h3.keeps hk hi⟩
/-- blocks below B -/
def below (B : Nat) : Nat → Bool := fun i => decide (i < B)
/-- blocks below B, and the block of a row -/
def rowHid (B : Nat) (v : Value) : Nat → Bool := fun i => decide (i < B) || decide (v.ownBlock = some i)
/-- a row of the call's own whose elements' data lie elsewhere, none of it below B -/
structure Grow {α : Type} (k : Nat) (E : TypeId) (V : α → Value → World → Prop) (B : Nat) (w : World) (v : Value) (l : List α) : Prop where
  ex : ∃ us : List Value, us.length = l.length ∧ w.ownsRow B E k v l.length (us.flatMap fun u => u.cells.toList) ∧ ∀ j (h : j < l.length) (h' : j < us.length), V l[j] us[j] (hide (rowHid B v) w) ∧ us[j].cells.size = k
theorem Grow.nil {α : Type} (k : Nat) (E : TypeId) (V : α → Value → World → Prop) (B : Nat) (w : World) : Grow k E V B w (.slice none 0 0) [] :=
  ⟨[], rfl, World.ownsRow_nil _ _ _ _, fun j h => by simp at h⟩
theorem Grow.chg {α : Type} {k : Nat} {E : TypeId} {V : α → Value → World → Prop} {B : Nat} {w w' : World} {v : Value} {l : List α} (h : Grow k E V B w v l) (hV : ∀ x u w w', Keeps w w' → V x u w → V x u w')
    {S : Nat → Prop} (hc : Chg S w w') (hS : ∀ i, S i → i < B) : Grow k E V B w' v l := by
  obtain ⟨us, h1, h2, h3⟩ := h.ex
  refine ⟨us, h1, ownsRow_chg h2 hc fun i hi hs => by have := hS i hs; omega, fun j hj hj' => ?_⟩
  obtain ⟨h4, h5⟩ := h3 j hj hj'
  exact ⟨hV _ _ _ _ (keeps_chg hc fun i _ hs => by simp [rowHid, hS i hs]) h4, h5⟩
theorem Grow.own {α : Type} {k : Nat} {E : TypeId} {V : α → Value → World → Prop} {B : Nat} {w : World} {v : Value} {l : List α} (h : Grow k E V B w v l) : ∃ xs, w.ownsRow B E k v l.length xs := by
  obtain ⟨us, h1, h2, h3⟩ := h.ex
  exact ⟨_, h2⟩
/-- one more, behind an append -/
theorem Grow.push {α : Type} {k : Nat} {E : TypeId} {V : α → Value → World → Prop} {B : Nat} {w w' : World} {v v' : Value} {l : List α} {x : α} {u : Value} {us : List Value}
    (hV : ∀ x u w w', Keeps w w' → V x u w → V x u w')
    (h1 : us.length = l.length) (h3 : ∀ j (h : j < l.length) (h' : j < us.length), V l[j] us[j] (hide (rowHid B v) w) ∧ us[j].cells.size = k)
    (hu : V x u (hide (rowHid B v) w)) (huk : u.cells.size = k)
    (ho : w'.ownsRow B E k v' (l.length + 1) (us.flatMap (fun u => u.cells.toList) ++ u.cells.toList))
    (hs : w.heap.size ≤ w'.heap.size) (hb : ∀ i, i < w.heap.size → v.ownBlock ≠ some i → w'.heap[i]? = w.heap[i]?)
    (hv : ∀ i, v'.ownBlock = some i → v.ownBlock = some i ∨ w.heap.size ≤ i) : Grow k E V B w' v' (l ++ [x]) := by
  have hk : Keeps (hide (rowHid B v) w) (hide (rowHid B v') w') := keeps_hide hs fun i hi hm => by
    simp only [rowHid, Bool.or_eq_false_iff, decide_eq_false_iff_not] at hm ⊢
    refine ⟨⟨hm.1, fun e => ?_⟩, hb i hi hm.2⟩
    rcases hv i e with h | h
    · exact hm.2 h
    · omega
  refine ⟨us ++ [u], by simp [h1], by simpa using ho, fun j hj hj' => ?_⟩
  by_cases hl : j < l.length
  · have hl' : j < us.length := by omega
    rw [List.getElem_append_left hl, List.getElem_append_left hl']
    obtain ⟨h4, h5⟩ := h3 j hl hl'
    exact ⟨hV _ _ _ _ hk h4, h5⟩
  · rw [List.length_append, List.length_singleton] at hj
    obtain rfl : j = l.length := by omega
    rw [List.getElem_append_right (Nat.le_refl _), List.getElem_append_right (by omega)]
    simp only [Nat.sub_self, h1, List.getElem_singleton]
    exact ⟨hV _ _ _ _ hk hu, huk⟩
theorem flat_at (k : Nat) (us : List Value) (hk : ∀ u ∈ us, u.cells.size = k) (j : Nat) (hj : j < us.length) (i : Nat) (hi : i < k) : (us.flatMap fun u => u.cells.toList)[j * k + i]? = us[j].cells[i]? := by
  induction us generalizing j with
  | nil => simp at hj
  | cons u r ih =>
    have hu : u.cells.toList.length = k := by rw [Array.length_toList]; exact hk u (by simp)
    rw [List.flatMap_cons]
    cases j with
    | zero =>
      rw [Nat.zero_mul, Nat.zero_add, List.getElem?_append_left (by omega)]
      simp
    | succ j =>
      rw [Nat.succ_mul, List.getElem?_append_right (by omega), show j * k + k + i - u.cells.toList.length = j * k + i by omega]
      exact ih (fun u hu => hk u (by simp [hu])) j (by simpa using hj)
theorem Grow.row {α : Type} {k : Nat} {E : TypeId} {V : α → Value → World → Prop} {In : World → Nat → Nat → α → Prop} {B : Nat} {w : World} {v : Value} {l : List α} (h : Grow k E V B w v l)
    (hV : ∀ x u w w', Keeps w w' → V x u w → V x u w')
    (hI : ∀ (w : World) b o x u, V x u w → u.cells.size = k → (∀ i, i < k → w.cell? ⟨b, o + i, none⟩ = u.cells[i]?) → In w b o x) : RowAt k In l v (hide (below B) w) := by
  obtain ⟨us, h1, h2, h3⟩ := h.ex
  rcases h2.2 with ⟨rfl, h0⟩ | ⟨g, cap, cur, rfl, hB, hg, hc1, hc2, hc3, hc4⟩
  · refine ⟨none, 0, by rw [h0], by omega, by decide, fun j hj => by omega⟩
  · refine ⟨_, cap, rfl, hc1, hc2, fun j hj => ⟨g, 0, rfl, ?_, ?_⟩⟩
    · rw [hide_size]; exact (Array.getElem?_eq_some_iff.1 hg).1
    · have hj' : j < us.length := by omega
      obtain ⟨h4, h5⟩ := h3 j hj hj'
      refine hI _ _ _ _ us[j] (hV _ _ _ _ (keeps_hide (Nat.le_refl _) fun i hi hm => ?_) h4) h5 fun i hi => ?_
      · simp only [rowHid, below, Bool.or_eq_false_iff, decide_eq_false_iff_not] at hm ⊢
        exact ⟨hm.1, trivial⟩
      · rw [hide_cell _ _ _ (by simp [below]; omega)]
        have hall : ∀ u ∈ us, u.cells.size = k := fun u hu => by
          obtain ⟨q, hq, rfl⟩ := List.getElem_of_mem hu
          exact (h3 q (by omega) hq).2
        rw [← flat_at k us hall j hj' i hi, ← hc4, List.getElem?_take, if_pos (by
          have : (j + 1) * k ≤ l.length * k := Nat.mul_le_mul_right _ (by omega)
          rw [Nat.succ_mul] at this; omega)]
        rw [cell_of_row w g _ cur E (0, 0) hg]
        simp
end Go.Proofs.YtpcihajmcejliabDoor
namespace Go.Proofs.YtpcihajmcejliabDoor
open Go.RowKit
def VInt (x : Int) (v : Value) (_ : World) : Prop := v = .int .i64 x ∧ inI x
def VVar (x : FVar) (v : Value) (_ : World) : Prop := v = .agg #[.string x.name, .bool x.pub, .int .i64 x.label, .int .i64 x.size] ∧ x.name.size ≤ maxLen
def VProc (x : FProc) (v : Value) (w : World) : Prop := ∃ a c, v = .agg #[.string x.name, .bool x.pub, .slice a x.params.length c, .int .i64 x.writes, .bool x.gives, .int .i64 x.given] ∧ AllIn 1 IntIn w a x.params ∧ x.params.length ≤ c ∧ c ≤ maxLen ∧ x.name.size ≤ maxLen
def VFace (x : FFace) (v : Value) (w : World) : Prop := FaceAt w x v
def VPlc (x : FPlc) (v : Value) (_ : World) : Prop := v = .agg #[.string x.name, .int .i64 x.at_] ∧ x.name.size ≤ maxLen ∧ inI x.at_
def VIns (x : Ins) (v : Value) (_ : World) : Prop := v = .agg #[.int .i64 x.op, .int .i64 x.a, .int .i64 x.b, .int .i64 x.c, .int .i64 x.n]
def VRel (x : FRel) (v : Value) (_ : World) : Prop := v = .agg #[.int .i64 x.at_, .int .i64 x.kind, .string x.modn, .string x.name]
namespace getv
theorem int_keeps (x : Int) (u : Value) (w w' : World) (_ : Keeps w w') (h : VInt x u w) : VInt x u w' := h
theorem var_keeps (x : FVar) (u : Value) (w w' : World) (_ : Keeps w w') (h : VVar x u w) : VVar x u w' := h
theorem proc_keeps (x : FProc) (u : Value) (w w' : World) (hk : Keeps w w') (h : VProc x u w) : VProc x u w' := by
  obtain ⟨a, c, e, h1, h2⟩ := h
  exact ⟨a, c, e, h1.keeps hk fun _ _ _ => IntIn.keeps hk, h2⟩
theorem face_keeps (x : FFace) (u : Value) (w w' : World) (hk : Keeps w w') (h : VFace x u w) : VFace x u w' := FaceAt.keeps hk h
theorem plc_keeps (x : FPlc) (u : Value) (w w' : World) (_ : Keeps w w') (h : VPlc x u w) : VPlc x u w' := h
theorem ins_keeps (x : Ins) (u : Value) (w w' : World) (_ : Keeps w w') (h : VIns x u w) : VIns x u w' := h
theorem rel_keeps (x : FRel) (u : Value) (w w' : World) (_ : Keeps w w') (h : VRel x u w) : VRel x u w' := h
theorem int_lies (w : World) (b o : Nat) (x : Int) (u : Value) (h : VInt x u w) (_ : u.cells.size = 1) (hc : ∀ i, i < 1 → w.cell? ⟨b, o + i, none⟩ = u.cells[i]?) : IntIn w b o x := by
  obtain ⟨rfl, -⟩ := h
  exact hc 0 (by decide)
theorem var_lies (w : World) (b o : Nat) (x : FVar) (u : Value) (h : VVar x u w) (_ : u.cells.size = 4) (hc : ∀ i, i < 4 → w.cell? ⟨b, o + i, none⟩ = u.cells[i]?) : VarIn w b o x := by
  obtain ⟨rfl, h1⟩ := h
  exact ⟨hc 0 (by decide), hc 1 (by decide), hc 2 (by decide), hc 3 (by decide), h1⟩
theorem proc_lies (w : World) (b o : Nat) (x : FProc) (u : Value) (h : VProc x u w) (_ : u.cells.size = 6) (hc : ∀ i, i < 6 → w.cell? ⟨b, o + i, none⟩ = u.cells[i]?) : ProcIn w b o x := by
  obtain ⟨a, c, rfl, h1, h2, h3, h4⟩ := h
  exact ⟨hc 0 (by decide), hc 1 (by decide), ⟨a, c, hc 2 (by decide), h1, h2, h3⟩, hc 3 (by decide), hc 4 (by decide), hc 5 (by decide), h4⟩
theorem face_lies (w : World) (b o : Nat) (x : FFace) (u : Value) (h : VFace x u w) (_ : u.cells.size = 3) (hc : ∀ i, i < 3 → w.cell? ⟨b, o + i, none⟩ = u.cells[i]?) : FaceIn w b o x := by
  obtain ⟨a, m, c, d, rfl, h1⟩ := h
  exact ⟨a, m, c, d, hc 0 (by decide), hc 1 (by decide), hc 2 (by decide), a, m, c, d, rfl, h1⟩
theorem plc_lies (w : World) (b o : Nat) (x : FPlc) (u : Value) (h : VPlc x u w) (_ : u.cells.size = 2) (hc : ∀ i, i < 2 → w.cell? ⟨b, o + i, none⟩ = u.cells[i]?) : PlcIn w b o x := by
  obtain ⟨rfl, h1, h2⟩ := h
  exact ⟨hc 0 (by decide), hc 1 (by decide), h1, h2⟩
theorem ins_lies (w : World) (b o : Nat) (x : Ins) (u : Value) (h : VIns x u w) (_ : u.cells.size = 5) (hc : ∀ i, i < 5 → w.cell? ⟨b, o + i, none⟩ = u.cells[i]?) : InsIn5 w b o x := by
  subst h
  exact ⟨hc 0 (by decide), hc 1 (by decide), hc 2 (by decide), hc 3 (by decide), hc 4 (by decide)⟩
theorem rel_lies (w : World) (b o : Nat) (x : FRel) (u : Value) (h : VRel x u w) (_ : u.cells.size = 4) (hc : ∀ i, i < 4 → w.cell? ⟨b, o + i, none⟩ = u.cells[i]?) : RelIn w b o x := by
  subst h
  exact ⟨hc 0 (by decide), hc 1 (by decide), hc 2 (by decide), hc 3 (by decide)⟩
end getv
end Go.Proofs.YtpcihajmcejliabDoor
