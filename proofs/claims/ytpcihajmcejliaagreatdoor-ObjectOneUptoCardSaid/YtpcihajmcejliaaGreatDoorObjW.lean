/- The walk of the program's writer: a number's eight bytes. -/
import Derived.Test.YtpcihajmcejliaaGreatDoorObjRB
import Derived.Test.YtpcihajmcejliaaGreatDoorProg
import Derived.WalkKit
import Derived.Deep.AppendLies
import Derived.Deep.RegionLaw
import Derived.Deep.OwnRows
namespace Go.Proofs.YtpcihajmcejliaaGreatDoor
open Go.RowKit
def bytesV (l : List UInt8) : List Value := l.map fun b => .int .u8 (b.toNat : Int)
/-- a writer: its one cell, and the row of bytes that it owns -/
structure Wr (w : World) (B S : Nat) (v : Value) (bs : List UInt8) : Prop where
  blk : Blk w S #[v] 68
  own : w.ownsRow B 5 1 v bs.length (bytesV bs)
  ne : v.ownBlock ≠ some S
  hS : B ≤ S
/-- what a writer may have turned -/
abbrev WChg (v : Value) (S : Nat) (w w' : World) : Prop := Chg (fun k => k = S ∨ v.ownBlock = some k) w w'
/-- behind a call that writes -/
def Wrote (w : World) (B S : Nat) (v : Value) (bs : List UInt8) (w' : World) : Prop := ∃ v', Wr w' B S v' bs ∧ WChg v S w w' ∧ ∀ k, v'.ownBlock = some k → v.ownBlock = some k ∨ w.heap.size ≤ k
namespace objw
theorem infoU8 : (Tryz.prog.info? 5).map (fun i => (i.zero, i.size, i.bytes)) = some (some (.int .u8 0), 1, 1) := by kernel_rfl
theorem news1 {w : World} {x : Value} {t : TypeId} {k : Nat} (hs : w.heap.size = k) : ∀ j u, [x][j]? = some u → (w.alloc (.cells #[x] t)).cell? ((⟨k, 0, none⟩ : Addr).add j) = some u := by
  subst hs; exact cell_one_new w x t
theorem Wr.alloc {w : World} {B S : Nat} {v : Value} {bs : List UInt8} (h : Wr w B S v bs) (o : Obj) : Wr (w.alloc o) B S v bs := ⟨h.blk.alloc o, h.own.alloc o, h.ne, h.hS⟩
theorem Wr.drew {w : World} {B S : Nat} {v : Value} {bs : List UInt8} (h : Wr w B S v bs) : Wr w.drew B S v bs := ⟨h.blk.drew, h.own.drew, h.ne, h.hS⟩
theorem num8_step (n : Int) (j : Nat) (h : j < 8) : (num8 n).take (j + 1) = (num8 n).take j ++ [byteAt n (56 - 8 * j)] := by
  have h8 : j < (num8 n).length := h
  rw [List.take_succ_eq_append_getElem h8, obj.num8_at]
set_option maxRecDepth 100000 in
set_option maxHeartbeats 4000000 in
theorem wide_any {w : World} {B S : Nat} {v : Value} {bs : List UInt8} (n : Int) (h : Wr w B S v bs) (hs : bs.length + 8 ≤ 100000000000000) :
    Calls Tryz.prog 28 #[.pointer (some ⟨S, 0, none⟩), .int .i64 n] w fun e w' => e = .returned (.tuple #[]) ∧ Wrote w B S v (bs ++ num8 n) w' := by
  obtain ⟨i0_, hi, hz0, hz1, hz2⟩ := info_parts infoU8
  have hBS := h.hS
  go_enter Tryz.func28, Tryz.ntmps28
  go_wp2_with fail
  go_loopw [4] (fun s4 wr => ∃ k j : Nat, k + j = 8 ∧ s4 = .int .i64 (8 * (k : Int) - 8) ∧ Wrote w B S v (bs ++ (num8 n).take j) wr) (fun s4 _ => (intOf s4 + 8).toNat)
  case atStart => exact ⟨8, 0, rfl, rfl, v, by simpa using h, Chg.refl _ _, fun _ hk => .inl hk⟩
  case round =>
    obtain ⟨k, j, hkj, rfl, v1, hW, hC, hO⟩ := hrel
    cases k with
    | zero =>
      obtain rfl : j = 8 := by omega
      go_wp2_with fail
      go_end0
      rw [show (num8 n).take 8 = num8 n from rfl] at hW
      exact ⟨rfl, v1, hW, hC, hO⟩
    | succ k =>
      rw [show 8 * ((k + 1 : Nat) : Int) - 8 = 8 * (k : Int) by omega]
      have hkb : (k : Int) < 8 := by omega
      have hc := hW.blk.cell 0
      simp only [List.getElem?_toArray, List.getElem?_cons_zero] at hc
      have hf := hW.blk.frozen 0
      have hl := hW.blk.lt
      have hne := hW.ne
      have HNE := Lib.hid hne
      have HST := Lib.hid (num8_step n j (by omega))
      have hlen : (bs ++ (num8 n).take j).length ≤ 100000000000000 := by
        rw [List.length_append, List.length_take, obj.num8_len]; omega
      generalize hbs : bs ++ (num8 n).take j = b1 at *
      clear hne
      go_upto_region 3 with (fail)
      go_region_law ((refine step_append_lies _ (by rfl) _ _ 33 (by rfl) B 5 i0_ (.int .u8 0) 1 1 Tryz.underlying33 hi hz0 hz1 hz2 rfl (by decide) _ _ _ (by rfl) ((Wr.alloc (Wr.drew hW) _).own) ⟨wr.heap.size, 0, none⟩ 1 1 [.int .u8 (IntKind.u8.wrap (n / 2 ^ (8 * (k : Int)).toNat))] (by rfl) (by rfl) (news1 (by simp)) (by intro u hu; simp at hu; subst hu; rfl) (by decide) (by unfold maxLen; omega) (by omega) (by simp; omega) (wr.heap.size + 1) (by simp) ?_; intro g cap' w1 hown hgrow hat hlt1; have f1' := (hgrow.frozen_far ⟨S, 0, none⟩ (by simp; omega) (Ne.symm HNE.out)).trans ((Wr.alloc (Wr.drew hW) _).blk.frozen 0); have c1' := (hgrow.cell_far ⟨S, 0, none⟩ (by simp; omega) (Ne.symm HNE.out)).trans ((Wr.alloc (Wr.drew hW) _).blk.cell 0)))
      all_goals
        have hb1 : Blk w1 S #[v1] 68 := (hgrow.block S (by simp; omega) (by first | exact HNE.out | exact Ne.symm HNE.out)).trans (Wr.alloc (Wr.drew hW) _).blk
        have hgS : g ≠ S := by
          rcases hat with e | e
          · intro e2; subst e2; exact HNE.out e
          · omega
        have hx : (Value.int .u8 (IntKind.u8.wrap (n / 2 ^ (8 * (k : Int)).toNat))) = .int .u8 ((byteAt n (56 - 8 * j)).toNat : Int) := by
          rw [obj.byteAt_nat, IntKind.wrap_u8, show (8 * (k : Int)).toNat = 56 - 8 * j by omega]
        have hchg : Chg (fun i => v1.ownBlock = some i) wr w1 := ((Chg.refl _ wr).drew.alloc _).then ⟨hgrow.os, hgrow.tape, hgrow.output, hgrow.size, fun i hi hn => hgrow.block i hi (by first | exact hn | exact fun e => hn e.symm)⟩
        have hC1 : WChg v S w w1 := hC.trans hchg (fun i hi e => by
          rcases hO i e with h1 | h1
          · exact .inr h1
          · omega)
        have hsz := hchg.size
        go_wp2_with fail
        go_roundw
        case rel =>
          refine ⟨k, j + 1, by omega, rfl, .slice (some ⟨g, 0, none⟩) (b1.length + 1) cap', ⟨hb1.set 0 _, ?_, ?_, hBS⟩, hC1.setCell (fun _ => .inl rfl) _, fun i hi => ?_⟩
          · rw [HST.out, ← List.append_assoc, hbs, List.length_append]
            refine ownsRow_set (p := ⟨S, 0, none⟩) ?_ (fun i hi => by simp [Value.ownBlock] at hi; show i ≠ S; omega) _
            rw [hx] at hown
            simpa [bytesV] using hown
          · simp [Value.ownBlock]; exact hgS
          · have : i = g := by simp [Value.ownBlock] at hi; omega
            subst this
            rcases hat with e | e
            · exact hO _ e
            · exact .inr (by have := hC.size; omega)
        case measure => simp [intOf]; omega
theorem Wrote.then {w wr w2 : World} {B S : Nat} {v v1 : Value} {b2 : List UInt8} (hC : WChg v S w wr) (hO : ∀ k, v1.ownBlock = some k → v.ownBlock = some k ∨ w.heap.size ≤ k) (h : Wrote wr B S v1 b2 w2) : Wrote w B S v b2 w2 := by
  obtain ⟨v2, hW, hC2, hO2⟩ := h
  refine ⟨v2, hW, hC.trans hC2 (fun i hi e => ?_), fun k hk => ?_⟩
  · rcases e with e | e
    · exact .inl e
    · rcases hO i e with h1 | h1
      · exact .inr h1
      · omega
  · rcases hO2 k hk with e | e
    · exact hO k e
    · exact .inr (Nat.le_trans hC.size e)
theorem Wrote.refl {w : World} {B S : Nat} {v : Value} {bs : List UInt8} (h : Wr w B S v bs) : Wrote w B S v bs w := ⟨v, h, Chg.refl _ _, fun _ hk => .inl hk⟩
theorem Wrote.alloc {w wr : World} {B S : Nat} {v : Value} {bs : List UInt8} (h : Wrote w B S v bs wr) (o : Obj) : Wrote w B S v bs (wr.alloc o) := by
  obtain ⟨v1, hW, hC, hO⟩ := h
  exact ⟨v1, Wr.alloc hW o, hC.alloc o, hO⟩
/-- a row that a writer does not turn -/
def FarFrom (v : Value) (S : Nat) (a : Option Addr) : Prop := ∀ b o, a = some ⟨b, o, none⟩ → b ≠ S ∧ v.ownBlock ≠ some b
set_option maxRecDepth 100000 in
set_option maxHeartbeats 4000000 in
theorem num_any {w : World} {B S : Nat} {v : Value} {bs : List UInt8} (a : Option Addr) (l : List Int) (n cap : Nat) (hn : l.length = n) (h : Wr w B S v bs) (hl : obj.NumsAt w a l) (hfar : FarFrom v S a) (hs : bs.length + 8 * n ≤ 100000000000000) :
    Calls Tryz.prog 27 #[.pointer (some ⟨S, 0, none⟩), .slice a n cap] w fun e w' => e = .returned (.tuple #[]) ∧ Wrote w B S v (bs ++ numsL l) w' := by
  have HN := Lib.hid hn
  have HL := Lib.hid hl
  have HFR := Lib.hid hfar
  clear hn hl hfar
  go_enter Tryz.func27, Tryz.ntmps27
  go_wp2_with fail
  go_loopw [8] (fun s8 wr => ∃ k : Nat, k ≤ n ∧ s8 = .int .i64 k ∧ Wrote w B S v (bs ++ numsL (l.take k)) wr) (fun s8 _ => n - (intOf s8).toNat)
  case atStart => exact ⟨0, Nat.zero_le _, rfl, Wrote.refl (by simpa [numsL] using h)⟩
  case round =>
    obtain ⟨k, hk, rfl, v1, hW, hC, hO⟩ := hrel
    by_cases hlt : k < n
    · have hkl : k < l.length := by rw [HN.out]; exact hlt
      obtain ⟨b, o, rfl, hb, hc⟩ := HL.out.1 k hkl
      obtain ⟨f1, f2⟩ := HFR.out b o rfl
      have hc2 : wr.cell? ⟨b, o + k, none⟩ = some (.int .i64 l[k]) := by
        unfold IntIn at hc
        rw [Nat.mul_one] at hc
        exact (hC.cell (p := ⟨b, o + k, none⟩) hb (fun e => e.elim f1 f2)).trans hc
      have HT := Lib.hid (obj.numsL_take l k hkl)
      have hlen : (bs ++ numsL (l.take k)).length + 8 ≤ 100000000000000 := by
        rw [List.length_append, obj.numsL_len, List.length_take]; omega
      have HW := Lib.hid (wide_any l[k] hW hlen)
      have hki : (k : Int) < (n : Int) := by omega
      clear hc f1 f2
      generalize l[k] = x at *
      go_wp2_with (go_at_call 28; refine HW.out.mono ?_; rintro e w2 ⟨rfl, hw2⟩)
      go_roundw
      case rel => exact ⟨k + 1, by omega, by go_num, by rw [HT.out, ← List.append_assoc]; exact Wrote.then hC hO hw2⟩
      case measure => simp [intOf]; omega
    · obtain rfl : n = k := by omega
      have e : l.take n = l := List.take_of_length_le (by rw [HN.out]; exact Nat.le_refl _)
      rw [e] at hW
      go_wp2_with fail
      go_end0
      exact ⟨rfl, v1, hW, hC, hO⟩
theorem far_new {w : World} {B S : Nat} {v : Value} {bs : List UInt8} (h : Wr w B S v bs) : FarFrom v S (some ⟨w.heap.size, 0, none⟩) := by
  intro b o e
  cases e
  refine ⟨fun e => ?_, fun e => ?_⟩
  · have := h.blk.lt; omega
  · have := (h.own.lt _ e).2; omega
/-- numbers, laid in a new row and written -/
theorem nums_new {w : World} {B S : Nat} {v : Value} {bs : List UInt8} (l : List Int) (n : Nat) (T : TypeId) (hn : l.length = n) (h : Wr w B S v bs) (hb : ∀ x ∈ l, -9223372036854775808 ≤ x ∧ x ≤ 9223372036854775807) (hs : bs.length + 8 * n ≤ 100000000000000) :
    Calls Tryz.prog 27 #[.pointer (some ⟨S, 0, none⟩), .slice (some ⟨w.heap.size, 0, none⟩) n n] (w.alloc (.cells (l.map (Value.int .i64)).toArray T)) fun e w' => e = .returned (.tuple #[]) ∧ Wrote w B S v (bs ++ numsL l) w' := by
  refine (num_any (some ⟨w.heap.size, 0, none⟩) l n n hn (Wr.alloc h _) (obj.NumsAt.ofBlk (Blk.made w _ _) hb) (far_new h) hs).mono ?_
  rintro e w' ⟨rfl, hw⟩
  exact ⟨rfl, Wrote.then ((Chg.refl _ _).alloc _) (fun _ hk => .inl hk) hw⟩
end objw
end Go.Proofs.YtpcihajmcejliaaGreatDoor
