/- The walk of the program's writer: texts and truths. -/
import Derived.Test.YtpcihajmcejliaaGreatDoorObjW
import Derived.Test.YtpcihajmcejliaaGreatDoorFaceDefs
import Derived.Lib.AppendStr
namespace Go.Proofs.YtpcihajmcejliaaGreatDoor
open Go.RowKit
namespace objw
open Go.Lib in
/-- a text appended to a row of bytes: where the new row lies -/
theorem append_lies {P : Program} {w : World} (base : Nat) (t u ty e : TypeId) (i : TypeInfo) (ht : P.underlying t = some (.slice e)) (hu : P.underlying u = some .string) (hi : P.info? e = some i) (hz : i.zero = some (.int .u8 0))
    (hsize : i.size = 1) (hby : i.bytes = 1) (v : Value) (n : Nat) (xs : List Value) (hown : w.ownsRow base e 1 v n xs) (s : ByteArray)
    (h63 : n + s.size ≤ maxLen) (hbytes : n + s.size ≤ 140737488355328) (hbase : base ≤ w.heap.size) :
    ∃ v' w', (Builtin.append_ #[t, u] ty #[v, .string s]).run P w = .ok v' w' ∧ w'.ownsRow base e 1 v' (n + s.size) (xs ++ strCells s) ∧ w.grownBy w' v.ownBlock ∧ ∀ k, v'.ownBlock = some k → v.ownBlock = some k ∨ w.heap.size ≤ k := by
  obtain ⟨v', w', hr, h1, h2, h3⟩ := run_append_own_string (P := P) w base t u ty e i ht hu hi hz hsize hby v n xs hown s h63 hbytes hbase
  refine ⟨v', w', hr, h1, h2, fun k hk => ?_⟩
  have hsmall : n + s.size ≤ 9223372036854775807 := by simp only [maxLen] at h63; omega
  rcases hown.2 with ⟨rfl, rfl⟩ | ⟨g, cap, cur, rfl, hbg, hg, hnc, hcm, hcs, htake⟩
  · obtain ⟨v2, w2, hr2, h4, -, -⟩ := run_append_own_string (P := P) w w.heap.size t u ty e i ht hu hi hz hsize hby (.slice none 0 0) 0 [] (World.ownsRow_nil _ _ _ _) s h63 hbytes (Nat.le_refl _)
    have he := hr.symm.trans hr2
    simp only [Result.ok.injEq] at he
    obtain ⟨rfl, rfl⟩ := he
    exact .inr (h4.lt k hk).1
  · by_cases hroom : n + s.size ≤ cap
    · have hr2 := run_append_room_string (P := P) w t u ty e i ht hu hi hsize g n cap cur hg s hroom (by simp at hcs; omega)
      have he := hr.symm.trans hr2
      simp only [Result.ok.injEq] at he
      obtain ⟨rfl, -⟩ := he
      exact .inl hk
    · have hr2 := run_append_grow_string (P := P) w t u ty e i (.int .u8 0) ht hu hi hz ⟨g, 0, none⟩ n cap xs (by rw [hsize]; simpa using hown.1) (hown.cells (g := g) rfl) s (by omega) (by omega) (by rw [hby]; exact growslice_fits (by omega) (by omega))
      have he := hr.symm.trans hr2
      simp only [Result.ok.injEq] at he
      obtain ⟨rfl, -⟩ := he
      exact .inr (by simp [Value.ownBlock] at hk; omega)
theorem owns_slice {w : World} {B : Nat} {e : TypeId} {v : Value} {n : Nat} {xs : List Value} (h : w.ownsRow B e 1 v n xs) : ∃ p m c, v = .slice p m c := by
  rcases h.2 with ⟨rfl, rfl⟩ | ⟨g, cap, cur, rfl, -⟩
  · exact ⟨_, _, _, rfl⟩
  · exact ⟨_, _, _, rfl⟩
theorem strCells_bytes (s : ByteArray) : Lib.strCells s = bytesV s.data.toList := rfl
theorem wpList_append_text {P : Program} {w : World} {ops : Array Oper} {rest : List Oper} {o : Oper} {a : Act} {Q : Exit → Act → World → Prop} (hgd : o.guard = none) (sl x : Operand) (t u : TypeId)
    (ho : o.op = .call { callee := .builtin .append, args := #[sl, x], argTypes := #[t, u] })
    (base : Nat) (e : TypeId) (i : TypeInfo) (ht : P.underlying t = some (.slice e)) (hu : P.underlying u = some .string) (hi : P.info? e = some i) (hz : i.zero = some (.int .u8 0))
    (hsize : i.size = 1) (hby : i.bytes = 1)
    (v : Value) (n : Nat) (xs : List Value) (hs : a.eval sl = v) (hown : w.ownsRow base e 1 v n xs) (s : ByteArray) (hx : a.eval x = .string s)
    (h63 : n + s.size ≤ maxLen) (hbytes : n + s.size ≤ 140737488355328) (hbase : base ≤ w.heap.size)
    (h : ∀ v' w', w'.ownsRow base e 1 v' (n + s.size) (xs ++ Lib.strCells s) → w.grownBy w' v.ownBlock → (∀ k, v'.ownBlock = some k → v.ownBlock = some k ∨ w.heap.size ≤ k) → wpList P ops Q rest (a.put o.dst v') w') : wpList P ops Q (o :: rest) a w := by
  refine wpList_plain hgd fun K hK => ?_
  obtain ⟨v', w', hr, h2, h3, h4⟩ := append_lies (P := P) base t u o.type e i ht hu hi hz hsize hby v n xs hown s h63 hbytes hbase
  unfold Oper.wp execOp
  simp only [ho, resolve, invoke, builtin, Sem.run_bind, Sem.run_pure, Result.andThen_ok, List.map_toArray, List.map_cons, List.map_nil, hs, hx, hr]
  exact hK _ _ (h v' w' h2 h3 h4)
def StrIn (w : World) (b o : Nat) (s : ByteArray) : Prop := w.cell? ⟨b, o, none⟩ = some (.string s)
theorem texts_take (l : List ByteArray) (k : Nat) (h : k < l.length) : (l.take (k + 1)).flatMap textL = (l.take k).flatMap textL ++ (num8 l[k].size ++ l[k].data.toList) := by
  rw [List.take_succ_eq_append_getElem h, List.flatMap_append, List.flatMap_cons, List.flatMap_nil, List.append_nil]
  rfl
theorem texts_len (l : List ByteArray) (k : Nat) : ((l.take k).flatMap textL).length ≤ (l.flatMap textL).length := by
  conv => rhs; rw [← List.take_append_drop k l, List.flatMap_append, List.length_append]
  omega
set_option maxRecDepth 100000 in
set_option maxHeartbeats 4000000 in
theorem text_any {w : World} {B S : Nat} {v : Value} {bs : List UInt8} (a : Option Addr) (l : List ByteArray) (n cap : Nat) (hn : l.length = n) (h : Wr w B S v bs) (hl : AllIn 1 StrIn w a l) (hfar : FarFrom v S a) (hs : bs.length + (l.flatMap textL).length ≤ 100000000000000) :
    Calls Tryz.prog 31 #[.pointer (some ⟨S, 0, none⟩), .slice a n cap] w fun e w' => e = .returned (.tuple #[]) ∧ Wrote w B S v (bs ++ l.flatMap textL) w' := by
  obtain ⟨i0_, hi, hz0, hz1, hz2⟩ := info_parts infoU8
  have HN := Lib.hid hn
  have HL := Lib.hid hl
  have HFR := Lib.hid hfar
  have HBS := Lib.hid h.hS
  have hnl : n ≤ (l.flatMap textL).length := by
    have : ∀ m : List ByteArray, m.length ≤ (m.flatMap textL).length := by
      intro m
      induction m with
      | nil => exact Nat.le_refl _
      | cons x r ih => rw [List.flatMap_cons, List.length_append, List.length_cons]; unfold textL at *; rw [List.length_append, obj.num8_len]; omega
    have := this l
    omega
  clear hn hl hfar
  go_enter Tryz.func31, Tryz.ntmps31
  go_wp2_with fail
  go_loopw [8] (fun s8 wr => ∃ k : Nat, k ≤ n ∧ s8 = .int .i64 k ∧ Wrote w B S v (bs ++ (l.take k).flatMap textL) wr) (fun s8 _ => n - (intOf s8).toNat)
  case atStart => exact ⟨0, Nat.zero_le _, rfl, Wrote.refl (by simpa using h)⟩
  case round =>
    obtain ⟨k, hk, rfl, v1, hW, hC, hO⟩ := hrel
    by_cases hlt : k < n
    · have hkl : k < l.length := by rw [HN.out]; exact hlt
      obtain ⟨b, o, rfl, hb, hc⟩ := HL.out k hkl
      obtain ⟨f1, f2⟩ := HFR.out b o rfl
      have hc2 : wr.cell? ⟨b, o + k, none⟩ = some (.string l[k]) := by
        unfold StrIn at hc
        rw [Nat.mul_one] at hc
        exact (hC.cell (p := ⟨b, o + k, none⟩) hb (fun e => e.elim f1 f2)).trans hc
      have HT := Lib.hid (texts_take l k hkl)
      have hlen : ((l.take k).flatMap textL).length + (8 + l[k].size) ≤ (l.flatMap textL).length := by
        have := texts_len l (k + 1)
        rw [HT.out, List.length_append, List.length_append, obj.num8_len] at this
        exact this
      have hki : (k : Int) < (n : Int) := by omega
      clear hc f1 f2
      generalize l[k] = x at *
      have hlen : (bs ++ (l.take k).flatMap textL).length + 8 + x.size ≤ 100000000000000 := by
        rw [List.length_append]; omega
      generalize hb1 : bs ++ (l.take k).flatMap textL = b1 at *
      have HW := Lib.hid (nums_new [(x.size : Int)] 1 3 rfl hW (fun z hz => by simp at hz; subst hz; omega) (by omega))
      have hnL : numsL [(x.size : Int)] = num8 x.size := by simp [numsL]
      rw [hnL] at HW
      clear hnL
      go_wp2_with (first | (go_at_call 27; refine HW.out.mono ?_; rintro e w2 ⟨rfl, hw2⟩; obtain ⟨v2, hW2, hC2, hO2⟩ := hw2; have hWc := hW2.blk.cell 0; simp only [List.getElem?_toArray, List.getElem?_cons_zero] at hWc; have hWf := hW2.blk.frozen 0; have hWl := hW2.blk.lt; have HNE := Lib.hid hW2.ne) | (at_builtin; refine wpList_append_text rfl _ _ 33 9 rfl B 5 i0_ rfl rfl hi hz0 hz1 hz2 v2 _ _ rfl hW2.own x rfl (by unfold maxLen; rw [List.length_append, obj.num8_len]; omega) (by rw [List.length_append, obj.num8_len]; omega) (by have := HBS.out; omega) ?_; intro v3 w3 h3 hg3 ho3; obtain ⟨p3, m3, c3, rfl⟩ := owns_slice h3; have f1' := (hg3.frozen_far ⟨S, 0, none⟩ hWl (Ne.symm HNE.out)).trans hWf; have c1' := (hg3.cell_far ⟨S, 0, none⟩ hWl (Ne.symm HNE.out)).trans hWc))
      have hb3 : Blk w3 S #[v2] 68 := (hg3.block S hWl (Ne.symm HNE.out)).trans hW2.blk
      have hgS : (Value.slice p3 m3 c3).ownBlock ≠ some S := fun e => by
        rcases ho3 S e with h1 | h1
        · exact HNE.out h1
        · omega
      have hchg : Chg (fun i => v2.ownBlock = some i) w2 w3 := ⟨hg3.os, hg3.tape, hg3.output, hg3.size, fun i hi hn => hg3.block i hi (by first | exact hn | exact fun e => hn e.symm)⟩
      have hC3 : WChg v1 S wr w3 := hC2.trans hchg (fun i hi e => by
        rcases hO2 i e with h1 | h1
        · exact .inr h1
        · omega)
      have hO3 : ∀ k, (Value.slice p3 m3 c3).ownBlock = some k → v1.ownBlock = some k ∨ wr.heap.size ≤ k := fun k hk => by
        rcases ho3 k hk with h1 | h1
        · exact hO2 k h1
        · exact .inr (Nat.le_trans hC2.size h1)
      go_roundw
      case rel =>
        refine ⟨k + 1, by omega, by go_num, Wrote.then hC hO ⟨_, ⟨hb3.set 0 _, ?_, hgS, HBS.out⟩, hC3.setCell (fun _ => .inl rfl) _, hO3⟩⟩
        rw [HT.out, ← List.append_assoc, hb1, ← List.append_assoc, List.length_append (bs := x.data.toList)]
        refine ownsRow_set (p := ⟨S, 0, none⟩) ?_ (fun i hi e => hgS (hi.trans (congrArg some e))) _
        have h3' := h3
        rw [strCells_bytes, show bytesV (b1 ++ num8 x.size) ++ bytesV x.data.toList = bytesV (b1 ++ num8 x.size ++ x.data.toList) by simp [bytesV]] at h3'
        exact h3'
      case measure => simp [intOf]; omega
    · obtain rfl : n = k := by omega
      have e : l.take n = l := List.take_of_length_le (by rw [HN.out]; exact Nat.le_refl _)
      rw [e] at hW
      go_wp2_with fail
      go_end0
      exact ⟨rfl, v1, hW, hC, hO⟩
/-- from a writer's world to a later one: what it may have turned, and where its row lies -/
structure Since (w : World) (v : Value) (S : Nat) (w' : World) (v' : Value) : Prop where
  chg : WChg v S w w'
  own : ∀ k, v'.ownBlock = some k → v.ownBlock = some k ∨ w.heap.size ≤ k
theorem Since.refl (w : World) (v : Value) (S : Nat) : Since w v S w v := ⟨Chg.refl _ _, fun _ h => .inl h⟩
theorem Since.trans {w w1 w2 : World} {v v1 v2 : Value} {S : Nat} (h : Since w v S w1 v1) (k : Since w1 v1 S w2 v2) : Since w v S w2 v2 := by
  refine ⟨h.chg.trans k.chg (fun i hi e => ?_), fun j hj => ?_⟩
  · rcases e with e | e
    · exact .inl e
    · rcases h.own i e with h1 | h1
      · exact .inr h1
      · omega
  · rcases k.own j hj with e | e
    · exact h.own j e
    · exact .inr (Nat.le_trans h.chg.size e)
theorem Since.alloc {w w1 : World} {v v1 : Value} {S : Nat} (h : Since w v S w1 v1) (o : Obj) : Since w v S (w1.alloc o) v1 := ⟨h.chg.alloc o, h.own⟩
theorem Since.drew {w w1 : World} {v v1 : Value} {S : Nat} (h : Since w v S w1 v1) : Since w v S w1.drew v1 := ⟨h.chg.drew, h.own⟩
theorem Since.ext {w w1 w2 : World} {v v1 : Value} {S : Nat} (h : Since w v S w1 v1) (k : Ext w1 w2) : Since w v S w2 v1 := ⟨h.chg.ext k, h.own⟩
/-- a block that is not the writer's -/
structure Apart (w : World) (v : Value) (S : Nat) (K : Nat) (cells : Array Value) (T : TypeId) : Prop where
  blk : Blk w K cells T
  ne : K ≠ S
  far : v.ownBlock ≠ some K
theorem Apart.since {w w1 : World} {v v1 : Value} {S K : Nat} {cells : Array Value} {T : TypeId} (h : Apart w v S K cells T) (k : Since w v S w1 v1) : Apart w1 v1 S K cells T :=
  ⟨h.blk.chg k.chg (fun e => e.elim h.ne h.far), h.ne, fun e => (k.own K e).elim h.far (fun e => by have := h.blk.lt; omega)⟩
theorem Apart.made {w : World} {B S : Nat} {v : Value} {bs : List UInt8} (h : Wr w B S v bs) (cells : Array Value) (T : TypeId) : Apart (w.alloc (.cells cells T)) v S w.heap.size cells T :=
  ⟨Blk.made _ _ _, fun e => (by have := h.blk.lt; omega), fun e => (by have := (h.own.lt _ e).2; omega)⟩
theorem Apart.alloc {w : World} {v : Value} {S K : Nat} {cells : Array Value} {T : TypeId} (h : Apart w v S K cells T) (o : Obj) : Apart (w.alloc o) v S K cells T := ⟨h.blk.alloc o, h.ne, h.far⟩
theorem Wrote.out {w w' : World} {B S : Nat} {v : Value} {bs : List UInt8} (h : Wrote w B S v bs w') : ∃ v', Wr w' B S v' bs ∧ Since w v S w' v' := by
  obtain ⟨v', h1, h2, h3⟩ := h
  exact ⟨v', h1, h2, h3⟩
theorem Wrote.mk {w w' : World} {B S : Nat} {v v' : Value} {bs : List UInt8} (h : Wr w' B S v' bs) (k : Since w v S w' v') : Wrote w B S v bs w' := ⟨v', h, k.chg, k.own⟩
/-- what lay below the writer's all stays -/
theorem ext_since {w0 w w' : World} {B S : Nat} {v v' : Value} {bs : List UInt8} (hE : Ext w0 w) (hB : w0.heap.size ≤ B) (h : Wr w B S v bs) (k : Since w v S w' v') : Ext w0 w' :=
  hE.trans k.chg (fun i hi e => by
    rcases e with e | e
    · have := h.hS; omega
    · have := (h.own.lt _ e).1; omega)
def BoolIn (w : World) (b o : Nat) (x : Bool) : Prop := w.cell? ⟨b, o, none⟩ = some (.bool x)
theorem truths_take (l : List Bool) (k : Nat) (h : k < l.length) : (l.take (k + 1)).flatMap truthL = (l.take k).flatMap truthL ++ truthL l[k] := by
  rw [List.take_succ_eq_append_getElem h, List.flatMap_append, List.flatMap_cons, List.flatMap_nil, List.append_nil]
theorem truths_len (l : List Bool) : (l.flatMap truthL).length = 8 * l.length := by
  induction l with
  | nil => rfl
  | cons x r ih => rw [List.flatMap_cons, List.length_append, ih, List.length_cons]; show 8 + _ = _; omega
set_option maxRecDepth 100000 in
set_option maxHeartbeats 4000000 in
theorem truth_any {w : World} {B S : Nat} {v : Value} {bs : List UInt8} (a : Option Addr) (l : List Bool) (n cap : Nat) (hn : l.length = n) (h : Wr w B S v bs) (hl : AllIn 1 BoolIn w a l) (hfar : FarFrom v S a) (hs : bs.length + (l.flatMap truthL).length ≤ 100000000000000) :
    Calls Tryz.prog 82 #[.pointer (some ⟨S, 0, none⟩), .slice a n cap] w fun e w' => e = .returned (.tuple #[]) ∧ Wrote w B S v (bs ++ l.flatMap truthL) w' := by
  have HN := Lib.hid hn
  have HL := Lib.hid hl
  have HFR := Lib.hid hfar
  have hs2 := truths_len l
  rw [hs2, hn] at hs
  clear hn hl hfar hs2
  go_enter Tryz.func82, Tryz.ntmps82
  go_wp2_with fail
  go_loopw [9] (fun s9 wr => ∃ k : Nat, k ≤ n ∧ s9 = .int .i64 k ∧ Wrote w B S v (bs ++ (l.take k).flatMap truthL) wr) (fun s9 _ => n - (intOf s9).toNat)
  case atStart => exact ⟨0, Nat.zero_le _, rfl, Wrote.refl (by simpa using h)⟩
  case round =>
    obtain ⟨k, hk, rfl, v1, hW, hC, hO⟩ := hrel
    by_cases hlt : k < n
    · have hkl : k < l.length := by rw [HN.out]; exact hlt
      obtain ⟨b, o, rfl, hb, hc⟩ := HL.out k hkl
      obtain ⟨f1, f2⟩ := HFR.out b o rfl
      have hc2 : wr.cell? ⟨b, o + k, none⟩ = some (.bool l[k]) := by
        unfold BoolIn at hc
        rw [Nat.mul_one] at hc
        exact (hC.cell (p := ⟨b, o + k, none⟩) hb (fun e => e.elim f1 f2)).trans hc
      have HT := Lib.hid (truths_take l k hkl)
      have hlen : (bs ++ (l.take k).flatMap truthL).length + 8 ≤ 100000000000000 := by
        rw [List.length_append, truths_len, List.length_take]; omega
      have hki : (k : Int) < (n : Int) := by omega
      clear hc f1 f2
      generalize l[k] = x at *
      generalize hb1 : bs ++ (l.take k).flatMap truthL = b1 at *
      have HW := fun z : Int => fun hz => Lib.hid (nums_new [z] 1 3 rfl hW hz (by omega))
      cases x with
      | true =>
        have HW1 := HW 1 (fun z hz => by simp at hz; subst hz; omega)
        clear HW
        go_wp2_with (go_at_call 27; refine HW1.out.mono ?_; rintro e w2 ⟨rfl, hw2⟩)
        go_roundw
        case rel => exact ⟨k + 1, by omega, by go_num, by rw [HT.out, ← List.append_assoc, hb1]; exact Wrote.then hC hO (by simpa [numsL, truthL] using hw2)⟩
        case measure => simp [intOf]; omega
      | false =>
        have HW1 := HW 0 (fun z hz => by simp at hz; subst hz; omega)
        clear HW
        go_wp2_with (go_at_call 27; refine HW1.out.mono ?_; rintro e w2 ⟨rfl, hw2⟩)
        go_roundw
        case rel => exact ⟨k + 1, by omega, by go_num, by rw [HT.out, ← List.append_assoc, hb1]; exact Wrote.then hC hO (by simpa [numsL, truthL] using hw2)⟩
        case measure => simp [intOf]; omega
    · obtain rfl : n = k := by omega
      have e : l.take n = l := List.take_of_length_le (by rw [HN.out]; exact Nat.le_refl _)
      rw [e] at hW
      go_wp2_with fail
      go_end0
      exact ⟨rfl, v1, hW, hC, hO⟩
theorem in_blk1 {α : Type} (f : α → Value) {In : World → Nat → Nat → α → Prop} (hin : ∀ w b o x, w.cell? ⟨b, o, none⟩ = some (f x) → In w b o x) (w : World) (l : List α) (T : TypeId) : AllIn 1 In (w.alloc (.cells (l.map f).toArray T)) (some ⟨w.heap.size, 0, none⟩) l := fun j hj =>
  ⟨w.heap.size, 0, rfl, by simp, hin _ _ _ _ (by rw [(Blk.made w (l.map f).toArray T).cell]; simp [hj])⟩
/-- truths, laid in a new row and written -/
theorem truths_new {w : World} {B S : Nat} {v : Value} {bs : List UInt8} (l : List Bool) (n : Nat) (T : TypeId) (hn : l.length = n) (h : Wr w B S v bs) (hs : bs.length + (l.flatMap truthL).length ≤ 100000000000000) :
    Calls Tryz.prog 82 #[.pointer (some ⟨S, 0, none⟩), .slice (some ⟨w.heap.size, 0, none⟩) n n] (w.alloc (.cells (l.map Value.bool).toArray T)) fun e w' => e = .returned (.tuple #[]) ∧ Wrote w B S v (bs ++ l.flatMap truthL) w' := by
  refine (truth_any (some ⟨w.heap.size, 0, none⟩) l n n hn (Wr.alloc h _) (in_blk1 Value.bool (fun _ _ _ _ h => h) w l T) (far_new h) hs).mono ?_
  rintro e w' ⟨rfl, hw⟩
  exact ⟨rfl, Wrote.then ((Chg.refl _ _).alloc _) (fun _ hk => .inl hk) hw⟩
theorem texts_new {w : World} {B S : Nat} {v : Value} {bs : List UInt8} (l : List ByteArray) (n : Nat) (T : TypeId) (hn : l.length = n) (h : Wr w B S v bs) (hs : bs.length + (l.flatMap textL).length ≤ 100000000000000) :
    Calls Tryz.prog 31 #[.pointer (some ⟨S, 0, none⟩), .slice (some ⟨w.heap.size, 0, none⟩) n n] (w.alloc (.cells (l.map Value.string).toArray T)) fun e w' => e = .returned (.tuple #[]) ∧ Wrote w B S v (bs ++ l.flatMap textL) w' := by
  refine (text_any (some ⟨w.heap.size, 0, none⟩) l n n hn (Wr.alloc h _) (in_blk1 Value.string (fun _ _ _ _ h => h) w l T) (far_new h) hs).mono ?_
  rintro e w' ⟨rfl, hw⟩
  exact ⟨rfl, Wrote.then ((Chg.refl _ _).alloc _) (fun _ hk => .inl hk) hw⟩
end objw
end Go.Proofs.YtpcihajmcejliaaGreatDoor
