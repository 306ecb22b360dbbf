/- The walk of the program's writer: a number's eight bytes. The walk of the program's writer: texts and truths. The walk of the program's writer: one of a list. The walk of the program's writer: its lists. -/
import Derived.Test.YtpcihajmcejliabGreatDoorObjDefs
import Derived.Test.YtpcihajmcejliabGreatDoorProg
import Derived.WalkKit
import Derived.Deep.AppendLies
import Derived.Deep.RegionLaw
import Derived.Deep.OwnRows
import Derived.Test.YtpcihajmcejliabGreatDoorFaceDefs
import Derived.Lib.AppendStr
namespace Go.Proofs.YtpcihajmcejliabGreatDoor
open Go.RowKit
def bytesV (l : List UInt8) : List Value := l.map fun b => .int .u8 (b.toNat : Int)
/-- a writer: its one cell, and the row of bytes that it owns -/
structure Wr (w : World) (B S : Nat) (v : Value) (bs : List UInt8) : Prop where
  blk : Blk w S #[v] 117
  own : w.ownsRow B 5 1 v bs.length (bytesV bs)
  ne : v.ownBlock ≠ some S
  hS : B ≤ S
/-- what a writer may have turned -/
abbrev WChg (v : Value) (S : Nat) (w w' : World) : Prop := Chg (fun k => k = S ∨ v.ownBlock = some k) w w'
/-- behind a call that writes -/
def Wrote (w : World) (B S : Nat) (v : Value) (bs : List UInt8) (w' : World) : Prop := ∃ v', Wr w' B S v' bs ∧ WChg v S w w' ∧ ∀ k, v'.ownBlock = some k → v.ownBlock = some k ∨ w.heap.size ≤ k
namespace objw
theorem infoU8 : (Tryz.prog.info? 5).map (fun i => (i.zero, i.size, i.bytes)) = some (some (.int .u8 0), 1, 1) := by kernel_rfl
theorem news1 {w : World} {x : Value} {t : TypeId} {k : Nat} (hs : w.heap.size = k) : ∀ j u, [x][j]? = some u → (w.alloc (.cells #[x] t)).cell? ((⟨k, 0, none⟩ : Addr).add j) = some u := by
  subst hs; exact cell_one_new w x t
theorem Wr.alloc {w : World} {B S : Nat} {v : Value} {bs : List UInt8} (h : Wr w B S v bs) (o : Obj) : Wr (w.alloc o) B S v bs := ⟨h.blk.alloc o, h.own.alloc o, h.ne, h.hS⟩
theorem Wr.drew {w : World} {B S : Nat} {v : Value} {bs : List UInt8} (h : Wr w B S v bs) : Wr w.drew B S v bs := ⟨h.blk.drew, h.own.drew, h.ne, h.hS⟩
theorem num8_step (n : Int) (j : Nat) (h : j < 8) : (num8 n).take (j + 1) = (num8 n).take j ++ [byteAt n (56 - 8 * j)] := by
  have h8 : j < (num8 n).length := h
  rw [List.take_succ_eq_append_getElem h8, obj.num8_at]
set_option maxRecDepth 100000 in
set_option maxHeartbeats 4000000 in
theorem wide_any {w : World} {B S : Nat} {v : Value} {bs : List UInt8} (n : Int) (h : Wr w B S v bs) (hs : bs.length + 8 ≤ 100000000000000) :
    Calls Tryz.prog 65 #[.pointer (some ⟨S, 0, none⟩), .int .i64 n] w fun e w' => e = .returned (.tuple #[]) ∧ Wrote w B S v (bs ++ num8 n) w' := by
  obtain ⟨i0_, hi, hz0, hz1, hz2⟩ := info_parts infoU8
  have hBS := h.hS
  go_enter Tryz.func65, Tryz.ntmps65
  go_wp2_with fail
  go_loopw [4] (fun s4 wr => ∃ k j : Nat, k + j = 8 ∧ s4 = .int .i64 (8 * (k : Int) - 8) ∧ Wrote w B S v (bs ++ (num8 n).take j) wr) (fun s4 _ => (intOf s4 + 8).toNat)
  case atStart => exact ⟨8, 0, rfl, rfl, v, by simpa using h, Chg.refl _ _, fun _ hk => .inl hk⟩
  case round =>
    obtain ⟨k, j, hkj, rfl, v1, hW, hC, hO⟩ := hrel
    cases k with
    | zero =>
      obtain rfl : j = 8 := by omega
      go_wp2_with fail
      go_end0
      rw [show (num8 n).take 8 = num8 n from rfl] at hW
      exact ⟨rfl, v1, hW, hC, hO⟩
    | succ k =>
      rw [show 8 * ((k + 1 : Nat) : Int) - 8 = 8 * (k : Int) by omega]
      have hkb : (k : Int) < 8 := by omega
      have hc := hW.blk.cell 0
      simp only [List.getElem?_toArray, List.getElem?_cons_zero] at hc
      have hf := hW.blk.frozen 0
      have hl := hW.blk.lt
      have hne := hW.ne
      have HNE := Lib.hid hne
      have HST := Lib.hid (num8_step n j (by omega))
      have hlen : (bs ++ (num8 n).take j).length ≤ 100000000000000 := by
        rw [List.length_append, List.length_take, obj.num8_len]; omega
      generalize hbs : bs ++ (num8 n).take j = b1 at *
      clear hne
      go_upto_region 3 with (fail)
      go_region_law ((refine step_append_lies _ (by rfl) _ _ 59 (by rfl) B 5 i0_ (.int .u8 0) 1 1 Tryz.underlying59 hi hz0 hz1 hz2 rfl (by decide) _ _ _ (by rfl) ((Wr.alloc (Wr.drew hW) _).own) ⟨wr.heap.size, 0, none⟩ 1 1 [.int .u8 (IntKind.u8.wrap (n / 2 ^ (8 * (k : Int)).toNat))] (by rfl) (by rfl) (news1 (by simp)) (by intro u hu; simp at hu; subst hu; rfl) (by decide) (by unfold maxLen; omega) (by omega) (by simp; omega) (wr.heap.size + 1) (by simp) ?_; intro g cap' w1 hown hgrow hat hlt1; have f1' := (hgrow.frozen_far ⟨S, 0, none⟩ (by simp; omega) (Ne.symm HNE.out)).trans ((Wr.alloc (Wr.drew hW) _).blk.frozen 0); have c1' := (hgrow.cell_far ⟨S, 0, none⟩ (by simp; omega) (Ne.symm HNE.out)).trans ((Wr.alloc (Wr.drew hW) _).blk.cell 0)))
      all_goals
        have hb1 : Blk w1 S #[v1] 117 := (hgrow.block S (by simp; omega) (by first | exact HNE.out | exact Ne.symm HNE.out)).trans (Wr.alloc (Wr.drew hW) _).blk
        have hgS : g ≠ S := by
          rcases hat with e | e
          · intro e2; subst e2; exact HNE.out e
          · omega
        have hx : (Value.int .u8 (IntKind.u8.wrap (n / 2 ^ (8 * (k : Int)).toNat))) = .int .u8 ((byteAt n (56 - 8 * j)).toNat : Int) := by
          rw [obj.byteAt_nat, IntKind.wrap_u8, show (8 * (k : Int)).toNat = 56 - 8 * j by omega]
        have hchg : Chg (fun i => v1.ownBlock = some i) wr w1 := ((Chg.refl _ wr).drew.alloc _).then ⟨hgrow.os, hgrow.tape, hgrow.output, hgrow.size, fun i hi hn => hgrow.block i hi (by first | exact hn | exact fun e => hn e.symm)⟩
        have hC1 : WChg v S w w1 := hC.trans hchg (fun i hi e => by
          rcases hO i e with h1 | h1
          · exact .inr h1
          · omega)
        have hsz := hchg.size
        go_wp2_with fail
        go_roundw
        case rel =>
          refine ⟨k, j + 1, by omega, rfl, .slice (some ⟨g, 0, none⟩) (b1.length + 1) cap', ⟨hb1.set 0 _, ?_, ?_, hBS⟩, hC1.setCell (fun _ => .inl rfl) _, fun i hi => ?_⟩
          · rw [HST.out, ← List.append_assoc, hbs, List.length_append]
            refine ownsRow_set (p := ⟨S, 0, none⟩) ?_ (fun i hi => by simp [Value.ownBlock] at hi; show i ≠ S; omega) _
            rw [hx] at hown
            simpa [bytesV] using hown
          · simp [Value.ownBlock]; exact hgS
          · have : i = g := by simp [Value.ownBlock] at hi; omega
            subst this
            rcases hat with e | e
            · exact hO _ e
            · exact .inr (by have := hC.size; omega)
        case measure => simp [intOf]; omega
theorem Wrote.then {w wr w2 : World} {B S : Nat} {v v1 : Value} {b2 : List UInt8} (hC : WChg v S w wr) (hO : ∀ k, v1.ownBlock = some k → v.ownBlock = some k ∨ w.heap.size ≤ k) (h : Wrote wr B S v1 b2 w2) : Wrote w B S v b2 w2 := by
  obtain ⟨v2, hW, hC2, hO2⟩ := h
  refine ⟨v2, hW, hC.trans hC2 (fun i hi e => ?_), fun k hk => ?_⟩
  · rcases e with e | e
    · exact .inl e
    · rcases hO i e with h1 | h1
      · exact .inr h1
      · omega
  · rcases hO2 k hk with e | e
    · exact hO k e
    · exact .inr (Nat.le_trans hC.size e)
theorem Wrote.refl {w : World} {B S : Nat} {v : Value} {bs : List UInt8} (h : Wr w B S v bs) : Wrote w B S v bs w := ⟨v, h, Chg.refl _ _, fun _ hk => .inl hk⟩
theorem Wrote.alloc {w wr : World} {B S : Nat} {v : Value} {bs : List UInt8} (h : Wrote w B S v bs wr) (o : Obj) : Wrote w B S v bs (wr.alloc o) := by
  obtain ⟨v1, hW, hC, hO⟩ := h
  exact ⟨v1, Wr.alloc hW o, hC.alloc o, hO⟩
/-- a row that a writer does not turn -/
def FarFrom (v : Value) (S : Nat) (a : Option Addr) : Prop := ∀ b o, a = some ⟨b, o, none⟩ → b ≠ S ∧ v.ownBlock ≠ some b
set_option maxRecDepth 100000 in
set_option maxHeartbeats 4000000 in
theorem num_any {w : World} {B S : Nat} {v : Value} {bs : List UInt8} (a : Option Addr) (l : List Int) (n cap : Nat) (hn : l.length = n) (h : Wr w B S v bs) (hl : obj.NumsAt w a l) (hfar : FarFrom v S a) (hs : bs.length + 8 * n ≤ 100000000000000) :
    Calls Tryz.prog 64 #[.pointer (some ⟨S, 0, none⟩), .slice a n cap] w fun e w' => e = .returned (.tuple #[]) ∧ Wrote w B S v (bs ++ numsL l) w' := by
  have HN := Lib.hid hn
  have HL := Lib.hid hl
  have HFR := Lib.hid hfar
  clear hn hl hfar
  go_enter Tryz.func64, Tryz.ntmps64
  go_wp2_with fail
  go_loopw [8] (fun s8 wr => ∃ k : Nat, k ≤ n ∧ s8 = .int .i64 k ∧ Wrote w B S v (bs ++ numsL (l.take k)) wr) (fun s8 _ => n - (intOf s8).toNat)
  case atStart => exact ⟨0, Nat.zero_le _, rfl, Wrote.refl (by simpa [numsL] using h)⟩
  case round =>
    obtain ⟨k, hk, rfl, v1, hW, hC, hO⟩ := hrel
    by_cases hlt : k < n
    · have hkl : k < l.length := by rw [HN.out]; exact hlt
      obtain ⟨b, o, rfl, hb, hc⟩ := HL.out.1 k hkl
      obtain ⟨f1, f2⟩ := HFR.out b o rfl
      have hc2 : wr.cell? ⟨b, o + k, none⟩ = some (.int .i64 l[k]) := by
        unfold IntIn at hc
        rw [Nat.mul_one] at hc
        exact (hC.cell (p := ⟨b, o + k, none⟩) hb (fun e => e.elim f1 f2)).trans hc
      have HT := Lib.hid (obj.numsL_take l k hkl)
      have hlen : (bs ++ numsL (l.take k)).length + 8 ≤ 100000000000000 := by
        rw [List.length_append, obj.numsL_len, List.length_take]; omega
      have HW := Lib.hid (wide_any l[k] hW hlen)
      have hki : (k : Int) < (n : Int) := by omega
      clear hc f1 f2
      generalize l[k] = x at *
      go_wp2_with (go_at_call 65; refine HW.out.mono ?_; rintro e w2 ⟨rfl, hw2⟩)
      go_roundw
      case rel => exact ⟨k + 1, by omega, by go_num, by rw [HT.out, ← List.append_assoc]; exact Wrote.then hC hO hw2⟩
      case measure => simp [intOf]; omega
    · obtain rfl : n = k := by omega
      have e : l.take n = l := List.take_of_length_le (by rw [HN.out]; exact Nat.le_refl _)
      rw [e] at hW
      go_wp2_with fail
      go_end0
      exact ⟨rfl, v1, hW, hC, hO⟩
theorem far_new {w : World} {B S : Nat} {v : Value} {bs : List UInt8} (h : Wr w B S v bs) : FarFrom v S (some ⟨w.heap.size, 0, none⟩) := by
  intro b o e
  cases e
  refine ⟨fun e => ?_, fun e => ?_⟩
  · have := h.blk.lt; omega
  · have := (h.own.lt _ e).2; omega
/-- numbers, laid in a new row and written -/
theorem nums_new {w : World} {B S : Nat} {v : Value} {bs : List UInt8} (l : List Int) (n : Nat) (T : TypeId) (hn : l.length = n) (h : Wr w B S v bs) (hb : ∀ x ∈ l, -9223372036854775808 ≤ x ∧ x ≤ 9223372036854775807) (hs : bs.length + 8 * n ≤ 100000000000000) :
    Calls Tryz.prog 64 #[.pointer (some ⟨S, 0, none⟩), .slice (some ⟨w.heap.size, 0, none⟩) n n] (w.alloc (.cells (l.map (Value.int .i64)).toArray T)) fun e w' => e = .returned (.tuple #[]) ∧ Wrote w B S v (bs ++ numsL l) w' := by
  refine (num_any (some ⟨w.heap.size, 0, none⟩) l n n hn (Wr.alloc h _) (obj.NumsAt.ofBlk (Blk.made w _ _) hb) (far_new h) hs).mono ?_
  rintro e w' ⟨rfl, hw⟩
  exact ⟨rfl, Wrote.then ((Chg.refl _ _).alloc _) (fun _ hk => .inl hk) hw⟩
end objw
end Go.Proofs.YtpcihajmcejliabGreatDoor
namespace Go.Proofs.YtpcihajmcejliabGreatDoor
open Go.RowKit
namespace objw
open Go.Lib in
/-- a text appended to a row of bytes: where the new row lies -/
theorem append_lies {P : Program} {w : World} (base : Nat) (t u ty e : TypeId) (i : TypeInfo) (ht : P.underlying t = some (.slice e)) (hu : P.underlying u = some .string) (hi : P.info? e = some i) (hz : i.zero = some (.int .u8 0))
    (hsize : i.size = 1) (hby : i.bytes = 1) (v : Value) (n : Nat) (xs : List Value) (hown : w.ownsRow base e 1 v n xs) (s : ByteArray)
    (h63 : n + s.size ≤ maxLen) (hbytes : n + s.size ≤ 140737488355328) (hbase : base ≤ w.heap.size) :
    ∃ v' w', (Builtin.append_ #[t, u] ty #[v, .string s]).run P w = .ok v' w' ∧ w'.ownsRow base e 1 v' (n + s.size) (xs ++ strCells s) ∧ w.grownBy w' v.ownBlock ∧ ∀ k, v'.ownBlock = some k → v.ownBlock = some k ∨ w.heap.size ≤ k := by
  obtain ⟨v', w', hr, h1, h2, h3⟩ := run_append_own_string (P := P) w base t u ty e i ht hu hi hz hsize hby v n xs hown s h63 hbytes hbase
  refine ⟨v', w', hr, h1, h2, fun k hk => ?_⟩
  have hsmall : n + s.size ≤ 9223372036854775807 := by simp only [maxLen] at h63; omega
  rcases hown.2 with ⟨rfl, rfl⟩ | ⟨g, cap, cur, rfl, hbg, hg, hnc, hcm, hcs, htake⟩
  · obtain ⟨v2, w2, hr2, h4, -, -⟩ := run_append_own_string (P := P) w w.heap.size t u ty e i ht hu hi hz hsize hby (.slice none 0 0) 0 [] (World.ownsRow_nil _ _ _ _) s h63 hbytes (Nat.le_refl _)
    have he := hr.symm.trans hr2
    simp only [Result.ok.injEq] at he
    obtain ⟨rfl, rfl⟩ := he
    exact .inr (h4.lt k hk).1
  · by_cases hroom : n + s.size ≤ cap
    · have hr2 := run_append_room_string (P := P) w t u ty e i ht hu hi hsize g n cap cur hg s hroom (by simp at hcs; omega)
      have he := hr.symm.trans hr2
      simp only [Result.ok.injEq] at he
      obtain ⟨rfl, -⟩ := he
      exact .inl hk
    · have hr2 := run_append_grow_string (P := P) w t u ty e i (.int .u8 0) ht hu hi hz ⟨g, 0, none⟩ n cap xs (by rw [hsize]; simpa using hown.1) (hown.cells (g := g) rfl) s (by omega) (by omega) (by rw [hby]; exact growslice_fits (by omega) (by omega))
      have he := hr.symm.trans hr2
      simp only [Result.ok.injEq] at he
      obtain ⟨rfl, -⟩ := he
      exact .inr (by simp [Value.ownBlock] at hk; omega)
theorem owns_slice {w : World} {B : Nat} {e : TypeId} {v : Value} {n : Nat} {xs : List Value} (h : w.ownsRow B e 1 v n xs) : ∃ p m c, v = .slice p m c := by
  rcases h.2 with ⟨rfl, rfl⟩ | ⟨g, cap, cur, rfl, -⟩
  · exact ⟨_, _, _, rfl⟩
  · exact ⟨_, _, _, rfl⟩
theorem strCells_bytes (s : ByteArray) : Lib.strCells s = bytesV s.data.toList := rfl
theorem wpList_append_text {P : Program} {w : World} {ops : Array Oper} {rest : List Oper} {o : Oper} {a : Act} {Q : Exit → Act → World → Prop} (hgd : o.guard = none) (sl x : Operand) (t u : TypeId)
    (ho : o.op = .call { callee := .builtin .append, args := #[sl, x], argTypes := #[t, u] })
    (base : Nat) (e : TypeId) (i : TypeInfo) (ht : P.underlying t = some (.slice e)) (hu : P.underlying u = some .string) (hi : P.info? e = some i) (hz : i.zero = some (.int .u8 0))
    (hsize : i.size = 1) (hby : i.bytes = 1)
    (v : Value) (n : Nat) (xs : List Value) (hs : a.eval sl = v) (hown : w.ownsRow base e 1 v n xs) (s : ByteArray) (hx : a.eval x = .string s)
    (h63 : n + s.size ≤ maxLen) (hbytes : n + s.size ≤ 140737488355328) (hbase : base ≤ w.heap.size)
    (h : ∀ v' w', w'.ownsRow base e 1 v' (n + s.size) (xs ++ Lib.strCells s) → w.grownBy w' v.ownBlock → (∀ k, v'.ownBlock = some k → v.ownBlock = some k ∨ w.heap.size ≤ k) → wpList P ops Q rest (a.put o.dst v') w') : wpList P ops Q (o :: rest) a w := by
  refine wpList_plain hgd fun K hK => ?_
  obtain ⟨v', w', hr, h2, h3, h4⟩ := append_lies (P := P) base t u o.type e i ht hu hi hz hsize hby v n xs hown s h63 hbytes hbase
  unfold Oper.wp execOp
  simp only [ho, resolve, invoke, builtin, Sem.run_bind, Sem.run_pure, Result.andThen_ok, List.map_toArray, List.map_cons, List.map_nil, hs, hx, hr]
  exact hK _ _ (h v' w' h2 h3 h4)
def StrIn (w : World) (b o : Nat) (s : ByteArray) : Prop := w.cell? ⟨b, o, none⟩ = some (.string s)
theorem texts_take (l : List ByteArray) (k : Nat) (h : k < l.length) : (l.take (k + 1)).flatMap textL = (l.take k).flatMap textL ++ (num8 l[k].size ++ l[k].data.toList) := by
  rw [List.take_succ_eq_append_getElem h, List.flatMap_append, List.flatMap_cons, List.flatMap_nil, List.append_nil]
  rfl
theorem texts_len (l : List ByteArray) (k : Nat) : ((l.take k).flatMap textL).length ≤ (l.flatMap textL).length := by
  conv => rhs; rw [← List.take_append_drop k l, List.flatMap_append, List.length_append]
  omega
set_option maxRecDepth 100000 in
set_option maxHeartbeats 4000000 in
theorem text_any {w : World} {B S : Nat} {v : Value} {bs : List UInt8} (a : Option Addr) (l : List ByteArray) (n cap : Nat) (hn : l.length = n) (h : Wr w B S v bs) (hl : AllIn 1 StrIn w a l) (hfar : FarFrom v S a) (hs : bs.length + (l.flatMap textL).length ≤ 100000000000000) :
    Calls Tryz.prog 68 #[.pointer (some ⟨S, 0, none⟩), .slice a n cap] w fun e w' => e = .returned (.tuple #[]) ∧ Wrote w B S v (bs ++ l.flatMap textL) w' := by
  obtain ⟨i0_, hi, hz0, hz1, hz2⟩ := info_parts infoU8
  have HN := Lib.hid hn
  have HL := Lib.hid hl
  have HFR := Lib.hid hfar
  have HBS := Lib.hid h.hS
  have hnl : n ≤ (l.flatMap textL).length := by
    have : ∀ m : List ByteArray, m.length ≤ (m.flatMap textL).length := by
      intro m
      induction m with
      | nil => exact Nat.le_refl _
      | cons x r ih => rw [List.flatMap_cons, List.length_append, List.length_cons]; unfold textL at *; rw [List.length_append, obj.num8_len]; omega
    have := this l
    omega
  clear hn hl hfar
  go_enter Tryz.func68, Tryz.ntmps68
  go_wp2_with fail
  go_loopw [8] (fun s8 wr => ∃ k : Nat, k ≤ n ∧ s8 = .int .i64 k ∧ Wrote w B S v (bs ++ (l.take k).flatMap textL) wr) (fun s8 _ => n - (intOf s8).toNat)
  case atStart => exact ⟨0, Nat.zero_le _, rfl, Wrote.refl (by simpa using h)⟩
  case round =>
    obtain ⟨k, hk, rfl, v1, hW, hC, hO⟩ := hrel
    by_cases hlt : k < n
    · have hkl : k < l.length := by rw [HN.out]; exact hlt
      obtain ⟨b, o, rfl, hb, hc⟩ := HL.out k hkl
      obtain ⟨f1, f2⟩ := HFR.out b o rfl
      have hc2 : wr.cell? ⟨b, o + k, none⟩ = some (.string l[k]) := by
        unfold StrIn at hc
        rw [Nat.mul_one] at hc
        exact (hC.cell (p := ⟨b, o + k, none⟩) hb (fun e => e.elim f1 f2)).trans hc
      have HT := Lib.hid (texts_take l k hkl)
      have hlen : ((l.take k).flatMap textL).length + (8 + l[k].size) ≤ (l.flatMap textL).length := by
        have := texts_len l (k + 1)
        rw [HT.out, List.length_append, List.length_append, obj.num8_len] at this
        exact this
      have hki : (k : Int) < (n : Int) := by omega
      clear hc f1 f2
      generalize l[k] = x at *
      have hlen : (bs ++ (l.take k).flatMap textL).length + 8 + x.size ≤ 100000000000000 := by
        rw [List.length_append]; omega
      generalize hb1 : bs ++ (l.take k).flatMap textL = b1 at *
      have HW := Lib.hid (nums_new [(x.size : Int)] 1 3 rfl hW (fun z hz => by simp at hz; subst hz; omega) (by omega))
      have hnL : numsL [(x.size : Int)] = num8 x.size := by simp [numsL]
      rw [hnL] at HW
      clear hnL
      go_wp2_with (first | (go_at_call 64; refine HW.out.mono ?_; rintro e w2 ⟨rfl, hw2⟩; obtain ⟨v2, hW2, hC2, hO2⟩ := hw2; have hWc := hW2.blk.cell 0; simp only [List.getElem?_toArray, List.getElem?_cons_zero] at hWc; have hWf := hW2.blk.frozen 0; have hWl := hW2.blk.lt; have HNE := Lib.hid hW2.ne) | (at_builtin; refine wpList_append_text rfl _ _ 59 9 rfl B 5 i0_ rfl rfl hi hz0 hz1 hz2 v2 _ _ rfl hW2.own x rfl (by unfold maxLen; rw [List.length_append, obj.num8_len]; omega) (by rw [List.length_append, obj.num8_len]; omega) (by have := HBS.out; omega) ?_; intro v3 w3 h3 hg3 ho3; obtain ⟨p3, m3, c3, rfl⟩ := owns_slice h3; have f1' := (hg3.frozen_far ⟨S, 0, none⟩ hWl (Ne.symm HNE.out)).trans hWf; have c1' := (hg3.cell_far ⟨S, 0, none⟩ hWl (Ne.symm HNE.out)).trans hWc))
      have hb3 : Blk w3 S #[v2] 117 := (hg3.block S hWl (Ne.symm HNE.out)).trans hW2.blk
      have hgS : (Value.slice p3 m3 c3).ownBlock ≠ some S := fun e => by
        rcases ho3 S e with h1 | h1
        · exact HNE.out h1
        · omega
      have hchg : Chg (fun i => v2.ownBlock = some i) w2 w3 := ⟨hg3.os, hg3.tape, hg3.output, hg3.size, fun i hi hn => hg3.block i hi (by first | exact hn | exact fun e => hn e.symm)⟩
      have hC3 : WChg v1 S wr w3 := hC2.trans hchg (fun i hi e => by
        rcases hO2 i e with h1 | h1
        · exact .inr h1
        · omega)
      have hO3 : ∀ k, (Value.slice p3 m3 c3).ownBlock = some k → v1.ownBlock = some k ∨ wr.heap.size ≤ k := fun k hk => by
        rcases ho3 k hk with h1 | h1
        · exact hO2 k h1
        · exact .inr (Nat.le_trans hC2.size h1)
      go_roundw
      case rel =>
        refine ⟨k + 1, by omega, by go_num, Wrote.then hC hO ⟨_, ⟨hb3.set 0 _, ?_, hgS, HBS.out⟩, hC3.setCell (fun _ => .inl rfl) _, hO3⟩⟩
        rw [HT.out, ← List.append_assoc, hb1, ← List.append_assoc, List.length_append (bs := x.data.toList)]
        refine ownsRow_set (p := ⟨S, 0, none⟩) ?_ (fun i hi e => hgS (hi.trans (congrArg some e))) _
        have h3' := h3
        rw [strCells_bytes, show bytesV (b1 ++ num8 x.size) ++ bytesV x.data.toList = bytesV (b1 ++ num8 x.size ++ x.data.toList) by simp [bytesV]] at h3'
        exact h3'
      case measure => simp [intOf]; omega
    · obtain rfl : n = k := by omega
      have e : l.take n = l := List.take_of_length_le (by rw [HN.out]; exact Nat.le_refl _)
      rw [e] at hW
      go_wp2_with fail
      go_end0
      exact ⟨rfl, v1, hW, hC, hO⟩
/-- from a writer's world to a later one: what it may have turned, and where its row lies -/
structure Since (w : World) (v : Value) (S : Nat) (w' : World) (v' : Value) : Prop where
  chg : WChg v S w w'
  own : ∀ k, v'.ownBlock = some k → v.ownBlock = some k ∨ w.heap.size ≤ k
theorem Since.refl (w : World) (v : Value) (S : Nat) : Since w v S w v := ⟨Chg.refl _ _, fun _ h => .inl h⟩
theorem Since.trans {w w1 w2 : World} {v v1 v2 : Value} {S : Nat} (h : Since w v S w1 v1) (k : Since w1 v1 S w2 v2) : Since w v S w2 v2 := by
  refine ⟨h.chg.trans k.chg (fun i hi e => ?_), fun j hj => ?_⟩
  · rcases e with e | e
    · exact .inl e
    · rcases h.own i e with h1 | h1
      · exact .inr h1
      · omega
  · rcases k.own j hj with e | e
    · exact h.own j e
    · exact .inr (Nat.le_trans h.chg.size e)
theorem Since.alloc {w w1 : World} {v v1 : Value} {S : Nat} (h : Since w v S w1 v1) (o : Obj) : Since w v S (w1.alloc o) v1 := ⟨h.chg.alloc o, h.own⟩
theorem Since.drew {w w1 : World} {v v1 : Value} {S : Nat} (h : Since w v S w1 v1) : Since w v S w1.drew v1 := ⟨h.chg.drew, h.own⟩
theorem Since.ext {w w1 w2 : World} {v v1 : Value} {S : Nat} (h : Since w v S w1 v1) (k : Ext w1 w2) : Since w v S w2 v1 := ⟨h.chg.ext k, h.own⟩
/-- a block that is not the writer's -/
structure Apart (w : World) (v : Value) (S : Nat) (K : Nat) (cells : Array Value) (T : TypeId) : Prop where
  blk : Blk w K cells T
  ne : K ≠ S
  far : v.ownBlock ≠ some K
theorem Apart.since {w w1 : World} {v v1 : Value} {S K : Nat} {cells : Array Value} {T : TypeId} (h : Apart w v S K cells T) (k : Since w v S w1 v1) : Apart w1 v1 S K cells T :=
  ⟨h.blk.chg k.chg (fun e => e.elim h.ne h.far), h.ne, fun e => (k.own K e).elim h.far (fun e => by have := h.blk.lt; omega)⟩
theorem Apart.made {w : World} {B S : Nat} {v : Value} {bs : List UInt8} (h : Wr w B S v bs) (cells : Array Value) (T : TypeId) : Apart (w.alloc (.cells cells T)) v S w.heap.size cells T :=
  ⟨Blk.made _ _ _, fun e => (by have := h.blk.lt; omega), fun e => (by have := (h.own.lt _ e).2; omega)⟩
theorem Apart.alloc {w : World} {v : Value} {S K : Nat} {cells : Array Value} {T : TypeId} (h : Apart w v S K cells T) (o : Obj) : Apart (w.alloc o) v S K cells T := ⟨h.blk.alloc o, h.ne, h.far⟩
theorem Wrote.out {w w' : World} {B S : Nat} {v : Value} {bs : List UInt8} (h : Wrote w B S v bs w') : ∃ v', Wr w' B S v' bs ∧ Since w v S w' v' := by
  obtain ⟨v', h1, h2, h3⟩ := h
  exact ⟨v', h1, h2, h3⟩
theorem Wrote.mk {w w' : World} {B S : Nat} {v v' : Value} {bs : List UInt8} (h : Wr w' B S v' bs) (k : Since w v S w' v') : Wrote w B S v bs w' := ⟨v', h, k.chg, k.own⟩
/-- what lay below the writer's all stays -/
theorem ext_since {w0 w w' : World} {B S : Nat} {v v' : Value} {bs : List UInt8} (hE : Ext w0 w) (hB : w0.heap.size ≤ B) (h : Wr w B S v bs) (k : Since w v S w' v') : Ext w0 w' :=
  hE.trans k.chg (fun i hi e => by
    rcases e with e | e
    · have := h.hS; omega
    · have := (h.own.lt _ e).1; omega)
def BoolIn (w : World) (b o : Nat) (x : Bool) : Prop := w.cell? ⟨b, o, none⟩ = some (.bool x)
theorem truths_take (l : List Bool) (k : Nat) (h : k < l.length) : (l.take (k + 1)).flatMap truthL = (l.take k).flatMap truthL ++ truthL l[k] := by
  rw [List.take_succ_eq_append_getElem h, List.flatMap_append, List.flatMap_cons, List.flatMap_nil, List.append_nil]
theorem truths_len (l : List Bool) : (l.flatMap truthL).length = 8 * l.length := by
  induction l with
  | nil => rfl
  | cons x r ih => rw [List.flatMap_cons, List.length_append, ih, List.length_cons]; show 8 + _ = _; omega
set_option maxRecDepth 100000 in
set_option maxHeartbeats 4000000 in
theorem truth_any {w : World} {B S : Nat} {v : Value} {bs : List UInt8} (a : Option Addr) (l : List Bool) (n cap : Nat) (hn : l.length = n) (h : Wr w B S v bs) (hl : AllIn 1 BoolIn w a l) (hfar : FarFrom v S a) (hs : bs.length + (l.flatMap truthL).length ≤ 100000000000000) :
    Calls Tryz.prog 134 #[.pointer (some ⟨S, 0, none⟩), .slice a n cap] w fun e w' => e = .returned (.tuple #[]) ∧ Wrote w B S v (bs ++ l.flatMap truthL) w' := by
  have HN := Lib.hid hn
  have HL := Lib.hid hl
  have HFR := Lib.hid hfar
  have hs2 := truths_len l
  rw [hs2, hn] at hs
  clear hn hl hfar hs2
  go_enter Tryz.func134, Tryz.ntmps134
  go_wp2_with fail
  go_loopw [9] (fun s9 wr => ∃ k : Nat, k ≤ n ∧ s9 = .int .i64 k ∧ Wrote w B S v (bs ++ (l.take k).flatMap truthL) wr) (fun s9 _ => n - (intOf s9).toNat)
  case atStart => exact ⟨0, Nat.zero_le _, rfl, Wrote.refl (by simpa using h)⟩
  case round =>
    obtain ⟨k, hk, rfl, v1, hW, hC, hO⟩ := hrel
    by_cases hlt : k < n
    · have hkl : k < l.length := by rw [HN.out]; exact hlt
      obtain ⟨b, o, rfl, hb, hc⟩ := HL.out k hkl
      obtain ⟨f1, f2⟩ := HFR.out b o rfl
      have hc2 : wr.cell? ⟨b, o + k, none⟩ = some (.bool l[k]) := by
        unfold BoolIn at hc
        rw [Nat.mul_one] at hc
        exact (hC.cell (p := ⟨b, o + k, none⟩) hb (fun e => e.elim f1 f2)).trans hc
      have HT := Lib.hid (truths_take l k hkl)
      have hlen : (bs ++ (l.take k).flatMap truthL).length + 8 ≤ 100000000000000 := by
        rw [List.length_append, truths_len, List.length_take]; omega
      have hki : (k : Int) < (n : Int) := by omega
      clear hc f1 f2
      generalize l[k] = x at *
      generalize hb1 : bs ++ (l.take k).flatMap truthL = b1 at *
      have HW := fun z : Int => fun hz => Lib.hid (nums_new [z] 1 3 rfl hW hz (by omega))
      cases x with
      | true =>
        have HW1 := HW 1 (fun z hz => by simp at hz; subst hz; omega)
        clear HW
        go_wp2_with (go_at_call 64; refine HW1.out.mono ?_; rintro e w2 ⟨rfl, hw2⟩)
        go_roundw
        case rel => exact ⟨k + 1, by omega, by go_num, by rw [HT.out, ← List.append_assoc, hb1]; exact Wrote.then hC hO (by simpa [numsL, truthL] using hw2)⟩
        case measure => simp [intOf]; omega
      | false =>
        have HW1 := HW 0 (fun z hz => by simp at hz; subst hz; omega)
        clear HW
        go_wp2_with (go_at_call 64; refine HW1.out.mono ?_; rintro e w2 ⟨rfl, hw2⟩)
        go_roundw
        case rel => exact ⟨k + 1, by omega, by go_num, by rw [HT.out, ← List.append_assoc, hb1]; exact Wrote.then hC hO (by simpa [numsL, truthL] using hw2)⟩
        case measure => simp [intOf]; omega
    · obtain rfl : n = k := by omega
      have e : l.take n = l := List.take_of_length_le (by rw [HN.out]; exact Nat.le_refl _)
      rw [e] at hW
      go_wp2_with fail
      go_end0
      exact ⟨rfl, v1, hW, hC, hO⟩
theorem in_blk1 {α : Type} (f : α → Value) {In : World → Nat → Nat → α → Prop} (hin : ∀ w b o x, w.cell? ⟨b, o, none⟩ = some (f x) → In w b o x) (w : World) (l : List α) (T : TypeId) : AllIn 1 In (w.alloc (.cells (l.map f).toArray T)) (some ⟨w.heap.size, 0, none⟩) l := fun j hj =>
  ⟨w.heap.size, 0, rfl, by simp, hin _ _ _ _ (by rw [(Blk.made w (l.map f).toArray T).cell]; simp [hj])⟩
/-- truths, laid in a new row and written -/
theorem truths_new {w : World} {B S : Nat} {v : Value} {bs : List UInt8} (l : List Bool) (n : Nat) (T : TypeId) (hn : l.length = n) (h : Wr w B S v bs) (hs : bs.length + (l.flatMap truthL).length ≤ 100000000000000) :
    Calls Tryz.prog 134 #[.pointer (some ⟨S, 0, none⟩), .slice (some ⟨w.heap.size, 0, none⟩) n n] (w.alloc (.cells (l.map Value.bool).toArray T)) fun e w' => e = .returned (.tuple #[]) ∧ Wrote w B S v (bs ++ l.flatMap truthL) w' := by
  refine (truth_any (some ⟨w.heap.size, 0, none⟩) l n n hn (Wr.alloc h _) (in_blk1 Value.bool (fun _ _ _ _ h => h) w l T) (far_new h) hs).mono ?_
  rintro e w' ⟨rfl, hw⟩
  exact ⟨rfl, Wrote.then ((Chg.refl _ _).alloc _) (fun _ hk => .inl hk) hw⟩
theorem texts_new {w : World} {B S : Nat} {v : Value} {bs : List UInt8} (l : List ByteArray) (n : Nat) (T : TypeId) (hn : l.length = n) (h : Wr w B S v bs) (hs : bs.length + (l.flatMap textL).length ≤ 100000000000000) :
    Calls Tryz.prog 68 #[.pointer (some ⟨S, 0, none⟩), .slice (some ⟨w.heap.size, 0, none⟩) n n] (w.alloc (.cells (l.map Value.string).toArray T)) fun e w' => e = .returned (.tuple #[]) ∧ Wrote w B S v (bs ++ l.flatMap textL) w' := by
  refine (text_any (some ⟨w.heap.size, 0, none⟩) l n n hn (Wr.alloc h _) (in_blk1 Value.string (fun _ _ _ _ h => h) w l T) (far_new h) hs).mono ?_
  rintro e w' ⟨rfl, hw⟩
  exact ⟨rfl, Wrote.then ((Chg.refl _ _).alloc _) (fun _ hk => .inl hk) hw⟩
end objw
end Go.Proofs.YtpcihajmcejliabGreatDoor
namespace Go.Proofs.YtpcihajmcejliabGreatDoor
open Go.RowKit
namespace objw
theorem text_new {w : World} {B S : Nat} {v : Value} {bs : List UInt8} (x : ByteArray) {g : Nat} (hg : w.heap.size = g) (h : Wr w B S v bs) (hs : bs.length + (textL x).length ≤ 100000000000000) :
    Calls Tryz.prog 68 #[.pointer (some ⟨S, 0, none⟩), .slice (some ⟨g, 0, none⟩) 1 1] (w.alloc (.cells #[.string x] 9)) fun e w' => e = .returned (.tuple #[]) ∧ Wrote w B S v (bs ++ textL x) w' := by
  subst hg
  have e : [x].flatMap textL = textL x := by simp
  have := texts_new [x] 1 9 rfl h (by rw [e]; exact hs)
  rw [e] at this
  exact this
theorem truth_new {w : World} {B S : Nat} {v : Value} {bs : List UInt8} (x : Bool) {g : Nat} (hg : w.heap.size = g) (h : Wr w B S v bs) (hs : bs.length + (truthL x).length ≤ 100000000000000) :
    Calls Tryz.prog 134 #[.pointer (some ⟨S, 0, none⟩), .slice (some ⟨g, 0, none⟩) 1 1] (w.alloc (.cells #[.bool x] 4)) fun e w' => e = .returned (.tuple #[]) ∧ Wrote w B S v (bs ++ truthL x) w' := by
  subst hg
  have e : [x].flatMap truthL = truthL x := by simp
  have := truths_new [x] 1 4 rfl h (by rw [e]; exact hs)
  rw [e] at this
  exact this
theorem num_new {w : World} {B S : Nat} {v : Value} {bs : List UInt8} (x : Int) {g : Nat} (hg : w.heap.size = g) (h : Wr w B S v bs) (hx : -9223372036854775808 ≤ x ∧ x ≤ 9223372036854775807) (hs : bs.length + (num8 x).length ≤ 100000000000000) :
    Calls Tryz.prog 64 #[.pointer (some ⟨S, 0, none⟩), .slice (some ⟨g, 0, none⟩) 1 1] (w.alloc (.cells #[.int .i64 x] 3)) fun e w' => e = .returned (.tuple #[]) ∧ Wrote w B S v (bs ++ num8 x) w' := by
  subst hg
  have e : numsL [x] = num8 x := by simp [numsL]
  have := nums_new [x] 1 3 rfl h (fun z hz => by simp at hz; subst hz; exact hx) hs
  rw [e] at this
  exact this
theorem nums_at {w : World} {B S : Nat} {v : Value} {bs : List UInt8} (l : List Int) (n : Nat) {g : Nat} (hg : w.heap.size = g) (hn : l.length = n) (h : Wr w B S v bs) (hb : ∀ x ∈ l, inI x) (hs : bs.length + (numsL l).length ≤ 100000000000000) :
    Calls Tryz.prog 64 #[.pointer (some ⟨S, 0, none⟩), .slice (some ⟨g, 0, none⟩) n n] (w.alloc (.cells (l.map (Value.int .i64)).toArray 3)) fun e w' => e = .returned (.tuple #[]) ∧ Wrote w B S v (bs ++ numsL l) w' := by
  subst hg
  exact nums_new l n 3 hn h hb (by rw [obj.numsL_len, hn] at hs; exact hs)
theorem texts_at {w : World} {B S : Nat} {v : Value} {bs : List UInt8} (l : List ByteArray) (n : Nat) {g : Nat} (hg : w.heap.size = g) (hn : l.length = n) (h : Wr w B S v bs) (hs : bs.length + (l.flatMap textL).length ≤ 100000000000000) :
    Calls Tryz.prog 68 #[.pointer (some ⟨S, 0, none⟩), .slice (some ⟨g, 0, none⟩) n n] (w.alloc (.cells (l.map Value.string).toArray 9)) fun e w' => e = .returned (.tuple #[]) ∧ Wrote w B S v (bs ++ l.flatMap textL) w' := by
  subst hg
  exact texts_new l n 9 hn h hs
set_option maxRecDepth 100000 in
set_option maxHeartbeats 16000000 in
theorem place_any {w : World} {B S : Nat} {v : Value} {bs : List UInt8} (x : FPlc) (h : Wr w B S v bs) (hx : inI x.at_) (hs : bs.length + (plcL x).length ≤ 100000000000000) :
    Calls Tryz.prog 70 #[.pointer (some ⟨S, 0, none⟩), .agg #[.string x.name, .int .i64 x.at_]] w fun e w' => e = .returned (.tuple #[]) ∧ Wrote w B S v (bs ++ plcL x) w' := by
  obtain ⟨nm, va⟩ := x
  simp only at hx ⊢
  replace hs : bs.length + (textL nm ++ num8 va).length ≤ 100000000000000 := hs
  repeat rw [List.length_append] at hs
  have e1 : (textL nm).length = 8 + nm.size := obj.text_len nm
  have e2 : (num8 va).length = 8 := obj.num8_len _
  have hW0 := Wr.alloc h (.cells #[.string nm, .int .i64 va] 129)
  have hS0 := (Since.refl w v S).alloc (.cells #[.string nm, .int .i64 va] 129)
  have hN0 := Apart.made h #[.string nm, .int .i64 va] 129
  have hNc0 := hN0.blk.cell
  have hNf0 := hN0.blk.frozen
  have hNl0 := hN0.blk.lt
  go_enter Tryz.func70, Tryz.ntmps70
  go_wp2_with (first | (go_at_call 68; refine (text_new nm (by first | rfl | simp) hW0 (by (repeat rw [List.length_append]); omega)).mono ?_; rintro e w1 ⟨rfl, hw1⟩; obtain ⟨v1, hW1, hs1⟩ := Wrote.out hw1; clear hw1; have hS1 := hS0.trans hs1; have hN1 := hN0.since hs1; have hNc1 := hN1.blk.cell; have hNf1 := hN1.blk.frozen; have hNl1 := hN1.blk.lt; clear hs1) | (go_at_call 64; refine (num_new va (by first | rfl | simp) hW1 hx (by (repeat rw [List.length_append]); omega)).mono ?_; rintro e w2 ⟨rfl, hw2⟩; obtain ⟨v2, hW2, hs2⟩ := Wrote.out hw2; clear hw2; have hS2 := hS1.trans hs2; have hN2 := hN1.since hs2; have hNc2 := hN2.blk.cell; have hNf2 := hN2.blk.frozen; have hNl2 := hN2.blk.lt; clear hs2))
  go_end0
  exact ⟨rfl, Wrote.mk (by first | exact hW2 | (rw [plcL]; rw [List.append_assoc] at hW2; exact hW2)) hS2⟩
set_option maxRecDepth 100000 in
set_option maxHeartbeats 16000000 in
theorem varF_any {w : World} {B S : Nat} {v : Value} {bs : List UInt8} (x : FVar) (h : Wr w B S v bs) {K : Nat} (hK : Apart w v S K #[.pointer (some ⟨S, 0, none⟩)] 115) (hx : inI x.label ∧ inI x.size) (hs : bs.length + (varL x).length ≤ 100000000000000) :
    Calls Tryz.prog 133 #[.agg #[.string x.name, .bool x.pub, .int .i64 x.label, .int .i64 x.size], .pointer (some ⟨K, 0, none⟩)] w fun e w' => e = .returned (.tuple #[]) ∧ Wrote w B S v (bs ++ varL x) w' := by
  obtain ⟨nm, vp, vl, vs⟩ := x
  obtain ⟨hx1, hx2⟩ := hx
  simp only at hx1 hx2 ⊢
  replace hs : bs.length + (textL nm ++ truthL vp ++ numsL [vl, vs]).length ≤ 100000000000000 := hs
  repeat rw [List.length_append] at hs
  have e1 : (textL nm).length = 8 + nm.size := obj.text_len nm
  have e2 : (truthL vp).length = 8 := obj.truth_len vp
  have e3 : (numsL [vl, vs]).length = 16 := obj.numsL_len _
  have hW0 := Wr.alloc h (.cells #[.string nm, .bool vp, .int .i64 vl, .int .i64 vs] 82)
  have hS0 := (Since.refl w v S).alloc (.cells #[.string nm, .bool vp, .int .i64 vl, .int .i64 vs] 82)
  have hK0 := hK.alloc (.cells #[.string nm, .bool vp, .int .i64 vl, .int .i64 vs] 82)
  have hN0 := Apart.made h #[.string nm, .bool vp, .int .i64 vl, .int .i64 vs] 82
  have hKc0 := hK0.blk.cell
  have hKf0 := hK0.blk.frozen
  have hKl0 := hK0.blk.lt
  have hNc0 := hN0.blk.cell
  have hNf0 := hN0.blk.frozen
  have hNl0 := hN0.blk.lt
  go_enter Tryz.func133, Tryz.ntmps133
  go_wp2_with (first | (go_at_call 68; refine (text_new nm (by first | rfl | simp) hW0 (by (repeat rw [List.length_append]); omega)).mono ?_; rintro e w1 ⟨rfl, hw1⟩; obtain ⟨v1, hW1, hs1⟩ := Wrote.out hw1; clear hw1; have hS1 := hS0.trans hs1; have hK1 := hK0.since hs1; have hKc1 := hK1.blk.cell; have hKf1 := hK1.blk.frozen; have hKl1 := hK1.blk.lt; have hN1 := hN0.since hs1; have hNc1 := hN1.blk.cell; have hNf1 := hN1.blk.frozen; have hNl1 := hN1.blk.lt; clear hs1) | (go_at_call 134; refine (truth_new vp (by first | rfl | simp) hW1 (by (repeat rw [List.length_append]); omega)).mono ?_; rintro e w2 ⟨rfl, hw2⟩; obtain ⟨v2, hW2, hs2⟩ := Wrote.out hw2; clear hw2; have hS2 := hS1.trans hs2; have hK2 := hK1.since hs2; have hKc2 := hK2.blk.cell; have hKf2 := hK2.blk.frozen; have hKl2 := hK2.blk.lt; have hN2 := hN1.since hs2; have hNc2 := hN2.blk.cell; have hNf2 := hN2.blk.frozen; have hNl2 := hN2.blk.lt; clear hs2) | (go_at_call 64; refine (nums_at [vl, vs] 2 (by first | rfl | simp) rfl hW2 (fun z hz => by simp at hz; rcases hz with rfl | rfl; exact hx1; exact hx2) (by (repeat rw [List.length_append]); omega)).mono ?_; rintro e w3 ⟨rfl, hw3⟩; obtain ⟨v3, hW3, hs3⟩ := Wrote.out hw3; clear hw3; have hS3 := hS2.trans hs3; have hK3 := hK2.since hs3; have hKc3 := hK3.blk.cell; have hKf3 := hK3.blk.frozen; have hKl3 := hK3.blk.lt; have hN3 := hN2.since hs3; have hNc3 := hN3.blk.cell; have hNf3 := hN3.blk.frozen; have hNl3 := hN3.blk.lt; clear hs3))
  go_end0
  exact ⟨rfl, Wrote.mk (by first | exact hW3 | (simpa only [varL, List.append_assoc] using hW3)) hS3⟩
set_option maxRecDepth 100000 in
set_option maxHeartbeats 16000000 in
theorem intF_any {w : World} {B S : Nat} {v : Value} {bs : List UInt8} (x : Int) (h : Wr w B S v bs) {K : Nat} (hK : Apart w v S K #[.pointer (some ⟨S, 0, none⟩)] 115) (hx : inI x) (hs : bs.length + (num8 x).length ≤ 100000000000000) :
    Calls Tryz.prog 138 #[.int .i64 x, .pointer (some ⟨K, 0, none⟩)] w fun e w' => e = .returned (.tuple #[]) ∧ Wrote w B S v (bs ++ num8 x) w' := by
  have e1 : (num8 x).length = 8 := obj.num8_len _
  have hW0 := h
  have hS0 := Since.refl w v S
  have hK0 := hK
  have hKc0 := hK0.blk.cell
  have hKf0 := hK0.blk.frozen
  have hKl0 := hK0.blk.lt
  go_enter Tryz.func138, Tryz.ntmps138
  go_wp2_with (first | (go_at_call 64; refine (num_new x (by first | rfl | simp) hW0 hx (by (repeat rw [List.length_append]); omega)).mono ?_; rintro e w1 ⟨rfl, hw1⟩; obtain ⟨v1, hW1, hs1⟩ := Wrote.out hw1; clear hw1; have hS1 := hS0.trans hs1; have hK1 := hK0.since hs1; have hKc1 := hK1.blk.cell; have hKf1 := hK1.blk.frozen; have hKl1 := hK1.blk.lt; clear hs1))
  go_end0
  exact ⟨rfl, Wrote.mk hW1 hS1⟩
set_option maxRecDepth 100000 in
set_option maxHeartbeats 16000000 in
theorem insF_any {w : World} {B S : Nat} {v : Value} {bs : List UInt8} (x : Ins) (h : Wr w B S v bs) {K : Nat} (hK : Apart w v S K #[.pointer (some ⟨S, 0, none⟩)] 115) (hx : ∀ y ∈ [x.op, x.a, x.b, x.c], inI y) (hs : bs.length + (insL x).length ≤ 100000000000000) :
    Calls Tryz.prog 63 #[.agg #[.int .i64 x.op, .int .i64 x.a, .int .i64 x.b, .int .i64 x.c, .int .i64 x.n], .pointer (some ⟨K, 0, none⟩)] w fun e w' => e = .returned (.tuple #[]) ∧ Wrote w B S v (bs ++ insL x) w' := by
  obtain ⟨i0, i1, i2, i3, i4⟩ := x
  simp only at hx ⊢
  replace hs : bs.length + (numsL [i0, i1, i2, i3] ++ num8 i4).length ≤ 100000000000000 := hs
  repeat rw [List.length_append] at hs
  have e1 : (numsL [i0, i1, i2, i3]).length = 32 := obj.numsL_len _
  have e2 : (num8 i4).length = 8 := obj.num8_len _
  have hW0 := Wr.alloc h (.cells #[.int .i64 i0, .int .i64 i1, .int .i64 i2, .int .i64 i3, .int .i64 i4] 98)
  have hS0 := (Since.refl w v S).alloc (.cells #[.int .i64 i0, .int .i64 i1, .int .i64 i2, .int .i64 i3, .int .i64 i4] 98)
  have hK0 := hK.alloc (.cells #[.int .i64 i0, .int .i64 i1, .int .i64 i2, .int .i64 i3, .int .i64 i4] 98)
  have hN0 := Apart.made h #[.int .i64 i0, .int .i64 i1, .int .i64 i2, .int .i64 i3, .int .i64 i4] 98
  have hKc0 := hK0.blk.cell
  have hKf0 := hK0.blk.frozen
  have hKl0 := hK0.blk.lt
  have hNc0 := hN0.blk.cell
  have hNf0 := hN0.blk.frozen
  have hNl0 := hN0.blk.lt
  go_enter Tryz.func63, Tryz.ntmps63
  go_wp2_with (first | (go_at_call 64; refine (nums_at [i0, i1, i2, i3] 4 (by first | rfl | simp) rfl hW0 hx (by (repeat rw [List.length_append]); omega)).mono ?_; rintro e w1 ⟨rfl, hw1⟩; obtain ⟨v1, hW1, hs1⟩ := Wrote.out hw1; clear hw1; have hS1 := hS0.trans hs1; have hK1 := hK0.since hs1; have hKc1 := hK1.blk.cell; have hKf1 := hK1.blk.frozen; have hKl1 := hK1.blk.lt; have hN1 := hN0.since hs1; have hNc1 := hN1.blk.cell; have hNf1 := hN1.blk.frozen; have hNl1 := hN1.blk.lt; clear hs1) | (go_at_call 65; refine (wide_any i4 hW1 (by (repeat rw [List.length_append]); omega)).mono ?_; rintro e w2 ⟨rfl, hw2⟩; obtain ⟨v2, hW2, hs2⟩ := Wrote.out hw2; clear hw2; have hS2 := hS1.trans hs2; have hK2 := hK1.since hs2; have hKc2 := hK2.blk.cell; have hKf2 := hK2.blk.frozen; have hKl2 := hK2.blk.lt; have hN2 := hN1.since hs2; have hNc2 := hN2.blk.cell; have hNf2 := hN2.blk.frozen; have hNl2 := hN2.blk.lt; clear hs2))
  go_end0
  exact ⟨rfl, Wrote.mk (by first | exact hW2 | (simpa only [insL, List.append_assoc] using hW2)) hS2⟩
set_option maxRecDepth 100000 in
set_option maxHeartbeats 16000000 in
theorem relF_any {w : World} {B S : Nat} {v : Value} {bs : List UInt8} (x : FRel) (h : Wr w B S v bs) {K : Nat} (hK : Apart w v S K #[.pointer (some ⟨S, 0, none⟩)] 115) (hx : ∀ y ∈ [x.at_, x.kind], inI y) (hs : bs.length + (relL x).length ≤ 100000000000000) :
    Calls Tryz.prog 67 #[.agg #[.int .i64 x.at_, .int .i64 x.kind, .string x.modn, .string x.name], .pointer (some ⟨K, 0, none⟩)] w fun e w' => e = .returned (.tuple #[]) ∧ Wrote w B S v (bs ++ relL x) w' := by
  obtain ⟨ra, rk, rm, rn⟩ := x
  simp only at hx ⊢
  replace hs : bs.length + (numsL [ra, rk] ++ textL rm ++ textL rn).length ≤ 100000000000000 := hs
  repeat rw [List.length_append] at hs
  have e1 : (numsL [ra, rk]).length = 16 := obj.numsL_len _
  have e2 : (textL rm).length = 8 + rm.size := obj.text_len rm
  have e3 : (textL rn).length = 8 + rn.size := obj.text_len rn
  have e4 : [rm, rn].flatMap textL = textL rm ++ textL rn := by simp
  have hW0 := Wr.alloc h (.cells #[.int .i64 ra, .int .i64 rk, .string rm, .string rn] 100)
  have hS0 := (Since.refl w v S).alloc (.cells #[.int .i64 ra, .int .i64 rk, .string rm, .string rn] 100)
  have hK0 := hK.alloc (.cells #[.int .i64 ra, .int .i64 rk, .string rm, .string rn] 100)
  have hN0 := Apart.made h #[.int .i64 ra, .int .i64 rk, .string rm, .string rn] 100
  have hKc0 := hK0.blk.cell
  have hKf0 := hK0.blk.frozen
  have hKl0 := hK0.blk.lt
  have hNc0 := hN0.blk.cell
  have hNf0 := hN0.blk.frozen
  have hNl0 := hN0.blk.lt
  go_enter Tryz.func67, Tryz.ntmps67
  go_wp2_with (first | (go_at_call 64; refine (nums_at [ra, rk] 2 (by first | rfl | simp) rfl hW0 hx (by (repeat rw [List.length_append]); omega)).mono ?_; rintro e w1 ⟨rfl, hw1⟩; obtain ⟨v1, hW1, hs1⟩ := Wrote.out hw1; clear hw1; have hS1 := hS0.trans hs1; have hK1 := hK0.since hs1; have hKc1 := hK1.blk.cell; have hKf1 := hK1.blk.frozen; have hKl1 := hK1.blk.lt; have hN1 := hN0.since hs1; have hNc1 := hN1.blk.cell; have hNf1 := hN1.blk.frozen; have hNl1 := hN1.blk.lt; clear hs1) | (go_at_call 68; refine (texts_at [rm, rn] 2 (by first | rfl | simp) rfl hW1 (by rw [e4]; (repeat rw [List.length_append]); omega)).mono ?_; rintro e w2 ⟨rfl, hw2⟩; obtain ⟨v2, hW2, hs2⟩ := Wrote.out hw2; clear hw2; have hS2 := hS1.trans hs2; have hK2 := hK1.since hs2; have hKc2 := hK2.blk.cell; have hKf2 := hK2.blk.frozen; have hKl2 := hK2.blk.lt; have hN2 := hN1.since hs2; have hNc2 := hN2.blk.cell; have hNf2 := hN2.blk.frozen; have hNl2 := hN2.blk.lt; clear hs2))
  go_end0
  exact ⟨rfl, Wrote.mk (by first | exact hW2 | (rw [e4] at hW2; simpa only [relL, List.append_assoc] using hW2)) hS2⟩
end objw
end Go.Proofs.YtpcihajmcejliabGreatDoor
namespace Go.Proofs.YtpcihajmcejliabGreatDoor
open Go.RowKit
namespace objw
theorem flat_ge {α : Type} (f : α → List UInt8) (hf : ∀ x, 1 ≤ (f x).length) (l : List α) : l.length ≤ (l.flatMap f).length := by
  induction l with
  | nil => exact Nat.le_refl _
  | cons x r ih => rw [List.flatMap_cons, List.length_append, List.length_cons]; have := hf x; omega
theorem num8_pos (n : Int) : 1 ≤ (num8 n).length := by rw [obj.num8_len]; decide
theorem textL_pos (n : ByteArray) : 1 ≤ (textL n).length := by rw [obj.text_len]; omega
set_option maxRecDepth 100000 in
set_option maxHeartbeats 16000000 in
theorem list_var {w0 w : World} {B S : Nat} {v : Value} {bs : List UInt8} (hE : Ext w0 w) (hB : w0.heap.size ≤ B) (a : Option Addr) (l : List FVar) (n cap : Nat) (hn : l.length = n) (hl : AllIn 4 VarIn w0 a l) (hx : ∀ y ∈ l, inI y.label ∧ inI y.size) (h : Wr w B S v bs) {K : Nat} (hK : Apart w v S K #[.pointer (some ⟨S, 0, none⟩)] 115) (hs : bs.length + (8 + (l.flatMap varL).length) ≤ 100000000000000) :
    Calls Tryz.prog 132 #[.pointer (some ⟨S, 0, none⟩), .slice a n cap, .func (.func 133) #[] #[.pointer (some ⟨K, 0, none⟩)]] w fun e w' => e = .returned (.tuple #[]) ∧ Wrote w B S v (bs ++ (num8 n ++ l.flatMap varL)) w' := by
  have HN := Lib.hid hn
  have HL := Lib.hid hl
  have HE := Lib.hid hE
  have HB := Lib.hid hB
  have HX := Lib.hid hx
  have HW := Lib.hid h
  have hnl : n ≤ (l.flatMap varL).length := by
    have := flat_ge varL (fun x => by unfold varL; (repeat rw [List.length_append]); have := textL_pos x.name; omega) l
    omega
  have HC0 := Lib.hid (num_new (n : Int) rfl h (by omega) (by rw [obj.num8_len]; omega))
  have e8 : (num8 (n : Int)).length = 8 := obj.num8_len _
  have HK := Lib.hid hK
  clear hn hl hE hB hx h hK
  go_enter Tryz.func132, Tryz.ntmps132
  go_wp2_with (go_at_call 64; refine HC0.out.mono ?_; rintro e w1 ⟨rfl, hw1⟩)
  obtain ⟨v1, hW1, hS1⟩ := Wrote.out hw1
  clear HC0
  go_loopw [15] (fun s15 wr => ∃ k : Nat, k ≤ n ∧ s15 = .int .i64 k ∧ Wrote w B S v (bs ++ (num8 n ++ (l.take k).flatMap varL)) wr) (fun s15 _ => n - (intOf s15).toNat)
  case atStart => exact ⟨0, Nat.zero_le _, rfl, by simpa using hw1⟩
  case round =>
    obtain ⟨k, hk, rfl, hrel⟩ := hrel
    clear hw1 hW1 hS1
    by_cases hlt : k < n
    · have hkl : k < l.length := by rw [HN.out]; exact hlt
      obtain ⟨v2, hW, hSr⟩ := Wrote.out hrel
      clear hrel
      have hEr := ext_since HE.out HB.out HW.out hSr
      obtain ⟨b, o, rfl, hb, hcv⟩ := HL.out k hkl
      have hb' := Nat.lt_of_lt_of_le hb hEr.size
      obtain ⟨c0, c1, c2, c3, -⟩ := VarIn.ext hEr hb hcv
      have HT := Lib.hid (obj.flat_take varL l k hkl)
      have hfl := obj.flat_len varL l (k + 1)
      rw [HT.out, List.length_append] at hfl
      have hxk := HX.out _ (List.getElem_mem hkl)
      have hki : (k : Int) < (n : Int) := by omega
      clear hcv
      generalize l[k] = x at *
      have HSR := Lib.hid hSr
      obtain ⟨b1, hb1⟩ : ∃ y, bs ++ (num8 n ++ (l.take k).flatMap varL) = y := ⟨_, rfl⟩
      have hlen : b1.length + (varL x).length ≤ 100000000000000 := by
        rw [← hb1, List.length_append, List.length_append]; omega
      have HB1 := Lib.hid hb1
      rw [hb1] at hW
      clear hb1 hfl hSr hEr
      obtain ⟨nm, vp, vl, vs⟩ := x
      simp only at c0 c1 c2 c3 hxk
      have hKr := HK.out.since HSR.out
      have HC := Lib.hid (varF_any ⟨nm, vp, vl, vs⟩ (Wr.alloc hW (.cells #[.string nm, .bool vp, .int .i64 vl, .int .i64 vs] 82)) (hKr.alloc (.cells #[.string nm, .bool vp, .int .i64 vl, .int .i64 vs] 82)) hxk hlen)
      clear hW hKr hlen
      go_wp2_with (go_at_call 133; refine HC.out.mono ?_; rintro e w3 ⟨rfl, hw3⟩)
      obtain ⟨v3, hW3, hS3⟩ := Wrote.out hw3
      have hSf := HSR.out.alloc (.cells #[.string nm, .bool vp, .int .i64 vl, .int .i64 vs] 82)
      go_roundw
      case rel => exact ⟨k + 1, by omega, by go_num, Wrote.mk (by rw [HT.out, ← List.append_assoc, ← List.append_assoc, List.append_assoc bs, HB1.out]; exact hW3) (hSf.trans hS3)⟩
      case measure => simp [intOf]; omega
    · obtain rfl : n = k := by omega
      have e : l.take n = l := List.take_of_length_le (by rw [HN.out]; exact Nat.le_refl _)
      rw [e] at hrel
      go_wp2_with fail
      go_end0
      exact ⟨rfl, hrel⟩
set_option maxRecDepth 100000 in
set_option maxHeartbeats 16000000 in
theorem list_int {w0 w : World} {B S : Nat} {v : Value} {bs : List UInt8} (hE : Ext w0 w) (hB : w0.heap.size ≤ B) (a : Option Addr) (l : List Int) (n cap : Nat) (hn : l.length = n) (hl : AllIn 1 IntIn w0 a l) (hx : ∀ y ∈ l, inI y) (h : Wr w B S v bs) {K : Nat} (hK : Apart w v S K #[.pointer (some ⟨S, 0, none⟩)] 115) (hs : bs.length + (8 + (l.flatMap num8).length) ≤ 100000000000000) :
    Calls Tryz.prog 137 #[.pointer (some ⟨S, 0, none⟩), .slice a n cap, .func (.func 138) #[] #[.pointer (some ⟨K, 0, none⟩)]] w fun e w' => e = .returned (.tuple #[]) ∧ Wrote w B S v (bs ++ (num8 n ++ l.flatMap num8)) w' := by
  have HN := Lib.hid hn
  have HL := Lib.hid hl
  have HE := Lib.hid hE
  have HB := Lib.hid hB
  have HX := Lib.hid hx
  have HW := Lib.hid h
  have hnl : n ≤ (l.flatMap num8).length := by
    have := flat_ge num8 num8_pos l
    omega
  have HC0 := Lib.hid (num_new (n : Int) rfl h (by omega) (by rw [obj.num8_len]; omega))
  have e8 : (num8 (n : Int)).length = 8 := obj.num8_len _
  have HK := Lib.hid hK
  clear hn hl hE hB hx h hK
  go_enter Tryz.func137, Tryz.ntmps137
  go_wp2_with (go_at_call 64; refine HC0.out.mono ?_; rintro e w1 ⟨rfl, hw1⟩)
  obtain ⟨v1, hW1, hS1⟩ := Wrote.out hw1
  clear HC0
  go_loopw [15] (fun s15 wr => ∃ k : Nat, k ≤ n ∧ s15 = .int .i64 k ∧ Wrote w B S v (bs ++ (num8 n ++ (l.take k).flatMap num8)) wr) (fun s15 _ => n - (intOf s15).toNat)
  case atStart => exact ⟨0, Nat.zero_le _, rfl, by simpa using hw1⟩
  case round =>
    obtain ⟨k, hk, rfl, hrel⟩ := hrel
    clear hw1 hW1 hS1
    by_cases hlt : k < n
    · have hkl : k < l.length := by rw [HN.out]; exact hlt
      obtain ⟨v2, hW, hSr⟩ := Wrote.out hrel
      clear hrel
      have hEr := ext_since HE.out HB.out HW.out hSr
      obtain ⟨b, o, rfl, hb, hcv⟩ := HL.out k hkl
      have hb' := Nat.lt_of_lt_of_le hb hEr.size
      have c0 := IntIn.ext hEr hb hcv
      have HT := Lib.hid (obj.flat_take num8 l k hkl)
      have hfl := obj.flat_len num8 l (k + 1)
      rw [HT.out, List.length_append] at hfl
      have hxk := HX.out _ (List.getElem_mem hkl)
      have hki : (k : Int) < (n : Int) := by omega
      clear hcv
      generalize l[k] = x at *
      have HSR := Lib.hid hSr
      obtain ⟨b1, hb1⟩ : ∃ y, bs ++ (num8 n ++ (l.take k).flatMap num8) = y := ⟨_, rfl⟩
      have hlen : b1.length + (num8 x).length ≤ 100000000000000 := by
        rw [← hb1, List.length_append, List.length_append]; omega
      have HB1 := Lib.hid hb1
      rw [hb1] at hW
      clear hb1 hfl hSr hEr
      unfold IntIn at c0
      rw [Nat.mul_one] at c0
      have hKr := HK.out.since HSR.out
      have HC := Lib.hid (intF_any x hW hKr hxk hlen)
      clear hW hKr hlen
      go_wp2_with (go_at_call 138; refine HC.out.mono ?_; rintro e w3 ⟨rfl, hw3⟩)
      obtain ⟨v3, hW3, hS3⟩ := Wrote.out hw3
      have hSf := HSR.out
      go_roundw
      case rel => exact ⟨k + 1, by omega, by go_num, Wrote.mk (by rw [HT.out, ← List.append_assoc, ← List.append_assoc, List.append_assoc bs, HB1.out]; exact hW3) (hSf.trans hS3)⟩
      case measure => simp [intOf]; omega
    · obtain rfl : n = k := by omega
      have e : l.take n = l := List.take_of_length_le (by rw [HN.out]; exact Nat.le_refl _)
      rw [e] at hrel
      go_wp2_with fail
      go_end0
      exact ⟨rfl, hrel⟩
set_option maxRecDepth 100000 in
set_option maxHeartbeats 16000000 in
theorem list_ins {w0 w : World} {B S : Nat} {v : Value} {bs : List UInt8} (hE : Ext w0 w) (hB : w0.heap.size ≤ B) (a : Option Addr) (l : List Ins) (n cap : Nat) (hn : l.length = n) (hl : AllIn 5 InsIn5 w0 a l) (hx : ∀ y ∈ l, ∀ z ∈ [y.op, y.a, y.b, y.c], inI z) (h : Wr w B S v bs) {K : Nat} (hK : Apart w v S K #[.pointer (some ⟨S, 0, none⟩)] 115) (hs : bs.length + (8 + (l.flatMap insL).length) ≤ 100000000000000) :
    Calls Tryz.prog 62 #[.pointer (some ⟨S, 0, none⟩), .slice a n cap, .func (.func 63) #[] #[.pointer (some ⟨K, 0, none⟩)]] w fun e w' => e = .returned (.tuple #[]) ∧ Wrote w B S v (bs ++ (num8 n ++ l.flatMap insL)) w' := by
  have HN := Lib.hid hn
  have HL := Lib.hid hl
  have HE := Lib.hid hE
  have HB := Lib.hid hB
  have HX := Lib.hid hx
  have HW := Lib.hid h
  have hnl : n ≤ (l.flatMap insL).length := by
    have := flat_ge insL (fun x => by unfold insL; (repeat rw [List.length_append]); have := num8_pos x.n; omega) l
    omega
  have HC0 := Lib.hid (num_new (n : Int) rfl h (by omega) (by rw [obj.num8_len]; omega))
  have e8 : (num8 (n : Int)).length = 8 := obj.num8_len _
  have HK := Lib.hid hK
  clear hn hl hE hB hx h hK
  go_enter Tryz.func62, Tryz.ntmps62
  go_wp2_with (go_at_call 64; refine HC0.out.mono ?_; rintro e w1 ⟨rfl, hw1⟩)
  obtain ⟨v1, hW1, hS1⟩ := Wrote.out hw1
  clear HC0
  go_loopw [15] (fun s15 wr => ∃ k : Nat, k ≤ n ∧ s15 = .int .i64 k ∧ Wrote w B S v (bs ++ (num8 n ++ (l.take k).flatMap insL)) wr) (fun s15 _ => n - (intOf s15).toNat)
  case atStart => exact ⟨0, Nat.zero_le _, rfl, by simpa using hw1⟩
  case round =>
    obtain ⟨k, hk, rfl, hrel⟩ := hrel
    clear hw1 hW1 hS1
    by_cases hlt : k < n
    · have hkl : k < l.length := by rw [HN.out]; exact hlt
      obtain ⟨v2, hW, hSr⟩ := Wrote.out hrel
      clear hrel
      have hEr := ext_since HE.out HB.out HW.out hSr
      obtain ⟨b, o, rfl, hb, hcv⟩ := HL.out k hkl
      have hb' := Nat.lt_of_lt_of_le hb hEr.size
      obtain ⟨c0, c1, c2, c3, c4⟩ := InsIn5.ext hEr hb hcv
      have HT := Lib.hid (obj.flat_take insL l k hkl)
      have hfl := obj.flat_len insL l (k + 1)
      rw [HT.out, List.length_append] at hfl
      have hxk := HX.out _ (List.getElem_mem hkl)
      have hki : (k : Int) < (n : Int) := by omega
      clear hcv
      generalize l[k] = x at *
      have HSR := Lib.hid hSr
      obtain ⟨b1, hb1⟩ : ∃ y, bs ++ (num8 n ++ (l.take k).flatMap insL) = y := ⟨_, rfl⟩
      have hlen : b1.length + (insL x).length ≤ 100000000000000 := by
        rw [← hb1, List.length_append, List.length_append]; omega
      have HB1 := Lib.hid hb1
      rw [hb1] at hW
      clear hb1 hfl hSr hEr
      obtain ⟨i0, i1, i2, i3, i4⟩ := x
      simp only at c0 c1 c2 c3 c4 hxk
      have hKr := HK.out.since HSR.out
      have HC := Lib.hid (insF_any ⟨i0, i1, i2, i3, i4⟩ (Wr.alloc hW (.cells #[.int .i64 i0, .int .i64 i1, .int .i64 i2, .int .i64 i3, .int .i64 i4] 98)) (hKr.alloc (.cells #[.int .i64 i0, .int .i64 i1, .int .i64 i2, .int .i64 i3, .int .i64 i4] 98)) hxk hlen)
      clear hW hKr hlen
      go_wp2_with (go_at_call 63; refine HC.out.mono ?_; rintro e w3 ⟨rfl, hw3⟩)
      obtain ⟨v3, hW3, hS3⟩ := Wrote.out hw3
      have hSf := HSR.out.alloc (.cells #[.int .i64 i0, .int .i64 i1, .int .i64 i2, .int .i64 i3, .int .i64 i4] 98)
      go_roundw
      case rel => exact ⟨k + 1, by omega, by go_num, Wrote.mk (by rw [HT.out, ← List.append_assoc, ← List.append_assoc, List.append_assoc bs, HB1.out]; exact hW3) (hSf.trans hS3)⟩
      case measure => simp [intOf]; omega
    · obtain rfl : n = k := by omega
      have e : l.take n = l := List.take_of_length_le (by rw [HN.out]; exact Nat.le_refl _)
      rw [e] at hrel
      go_wp2_with fail
      go_end0
      exact ⟨rfl, hrel⟩
set_option maxRecDepth 100000 in
set_option maxHeartbeats 16000000 in
theorem list_rel {w0 w : World} {B S : Nat} {v : Value} {bs : List UInt8} (hE : Ext w0 w) (hB : w0.heap.size ≤ B) (a : Option Addr) (l : List FRel) (n cap : Nat) (hn : l.length = n) (hl : AllIn 4 RelIn w0 a l) (hx : ∀ y ∈ l, ∀ z ∈ [y.at_, y.kind], inI z) (h : Wr w B S v bs) {K : Nat} (hK : Apart w v S K #[.pointer (some ⟨S, 0, none⟩)] 115) (hs : bs.length + (8 + (l.flatMap relL).length) ≤ 100000000000000) :
    Calls Tryz.prog 66 #[.pointer (some ⟨S, 0, none⟩), .slice a n cap, .func (.func 67) #[] #[.pointer (some ⟨K, 0, none⟩)]] w fun e w' => e = .returned (.tuple #[]) ∧ Wrote w B S v (bs ++ (num8 n ++ l.flatMap relL)) w' := by
  have HN := Lib.hid hn
  have HL := Lib.hid hl
  have HE := Lib.hid hE
  have HB := Lib.hid hB
  have HX := Lib.hid hx
  have HW := Lib.hid h
  have hnl : n ≤ (l.flatMap relL).length := by
    have := flat_ge relL (fun x => by unfold relL; (repeat rw [List.length_append]); have := textL_pos x.name; omega) l
    omega
  have HC0 := Lib.hid (num_new (n : Int) rfl h (by omega) (by rw [obj.num8_len]; omega))
  have e8 : (num8 (n : Int)).length = 8 := obj.num8_len _
  have HK := Lib.hid hK
  clear hn hl hE hB hx h hK
  go_enter Tryz.func66, Tryz.ntmps66
  go_wp2_with (go_at_call 64; refine HC0.out.mono ?_; rintro e w1 ⟨rfl, hw1⟩)
  obtain ⟨v1, hW1, hS1⟩ := Wrote.out hw1
  clear HC0
  go_loopw [15] (fun s15 wr => ∃ k : Nat, k ≤ n ∧ s15 = .int .i64 k ∧ Wrote w B S v (bs ++ (num8 n ++ (l.take k).flatMap relL)) wr) (fun s15 _ => n - (intOf s15).toNat)
  case atStart => exact ⟨0, Nat.zero_le _, rfl, by simpa using hw1⟩
  case round =>
    obtain ⟨k, hk, rfl, hrel⟩ := hrel
    clear hw1 hW1 hS1
    by_cases hlt : k < n
    · have hkl : k < l.length := by rw [HN.out]; exact hlt
      obtain ⟨v2, hW, hSr⟩ := Wrote.out hrel
      clear hrel
      have hEr := ext_since HE.out HB.out HW.out hSr
      obtain ⟨b, o, rfl, hb, hcv⟩ := HL.out k hkl
      have hb' := Nat.lt_of_lt_of_le hb hEr.size
      obtain ⟨c0, c1, c2, c3⟩ := RelIn.ext hEr hb hcv
      have HT := Lib.hid (obj.flat_take relL l k hkl)
      have hfl := obj.flat_len relL l (k + 1)
      rw [HT.out, List.length_append] at hfl
      have hxk := HX.out _ (List.getElem_mem hkl)
      have hki : (k : Int) < (n : Int) := by omega
      clear hcv
      generalize l[k] = x at *
      have HSR := Lib.hid hSr
      obtain ⟨b1, hb1⟩ : ∃ y, bs ++ (num8 n ++ (l.take k).flatMap relL) = y := ⟨_, rfl⟩
      have hlen : b1.length + (relL x).length ≤ 100000000000000 := by
        rw [← hb1, List.length_append, List.length_append]; omega
      have HB1 := Lib.hid hb1
      rw [hb1] at hW
      clear hb1 hfl hSr hEr
      obtain ⟨ra, rk, rm, rn⟩ := x
      simp only at c0 c1 c2 c3 hxk
      have hKr := HK.out.since HSR.out
      have HC := Lib.hid (relF_any ⟨ra, rk, rm, rn⟩ (Wr.alloc hW (.cells #[.int .i64 ra, .int .i64 rk, .string rm, .string rn] 100)) (hKr.alloc (.cells #[.int .i64 ra, .int .i64 rk, .string rm, .string rn] 100)) hxk hlen)
      clear hW hKr hlen
      go_wp2_with (go_at_call 67; refine HC.out.mono ?_; rintro e w3 ⟨rfl, hw3⟩)
      obtain ⟨v3, hW3, hS3⟩ := Wrote.out hw3
      have hSf := HSR.out.alloc (.cells #[.int .i64 ra, .int .i64 rk, .string rm, .string rn] 100)
      go_roundw
      case rel => exact ⟨k + 1, by omega, by go_num, Wrote.mk (by rw [HT.out, ← List.append_assoc, ← List.append_assoc, List.append_assoc bs, HB1.out]; exact hW3) (hSf.trans hS3)⟩
      case measure => simp [intOf]; omega
    · obtain rfl : n = k := by omega
      have e : l.take n = l := List.take_of_length_le (by rw [HN.out]; exact Nat.le_refl _)
      rw [e] at hrel
      go_wp2_with fail
      go_end0
      exact ⟨rfl, hrel⟩
set_option maxRecDepth 100000 in
set_option maxHeartbeats 16000000 in
theorem list_plc {w0 w : World} {B S : Nat} {v : Value} {bs : List UInt8} (hE : Ext w0 w) (hB : w0.heap.size ≤ B) (a : Option Addr) (l : List FPlc) (n cap : Nat) (hn : l.length = n) (hl : AllIn 2 PlcIn w0 a l) (hx : ∀ y ∈ l, inI y.at_) (h : Wr w B S v bs) (hs : bs.length + (8 + (l.flatMap plcL).length) ≤ 100000000000000) :
    Calls Tryz.prog 69 #[.pointer (some ⟨S, 0, none⟩), .slice a n cap, .func (.func 70) #[.pointer (some ⟨S, 0, none⟩)] #[]] w fun e w' => e = .returned (.tuple #[]) ∧ Wrote w B S v (bs ++ (num8 n ++ l.flatMap plcL)) w' := by
  have HN := Lib.hid hn
  have HL := Lib.hid hl
  have HE := Lib.hid hE
  have HB := Lib.hid hB
  have HX := Lib.hid hx
  have HW := Lib.hid h
  have hnl : n ≤ (l.flatMap plcL).length := by
    have := flat_ge plcL (fun x => by unfold plcL; (repeat rw [List.length_append]); have := textL_pos x.name; omega) l
    omega
  have HC0 := Lib.hid (num_new (n : Int) rfl h (by omega) (by rw [obj.num8_len]; omega))
  have e8 : (num8 (n : Int)).length = 8 := obj.num8_len _
  clear hn hl hE hB hx h
  go_enter Tryz.func69, Tryz.ntmps69
  go_wp2_with (go_at_call 64; refine HC0.out.mono ?_; rintro e w1 ⟨rfl, hw1⟩)
  obtain ⟨v1, hW1, hS1⟩ := Wrote.out hw1
  clear HC0
  go_loopw [15] (fun s15 wr => ∃ k : Nat, k ≤ n ∧ s15 = .int .i64 k ∧ Wrote w B S v (bs ++ (num8 n ++ (l.take k).flatMap plcL)) wr) (fun s15 _ => n - (intOf s15).toNat)
  case atStart => exact ⟨0, Nat.zero_le _, rfl, by simpa using hw1⟩
  case round =>
    obtain ⟨k, hk, rfl, hrel⟩ := hrel
    clear hw1 hW1 hS1
    by_cases hlt : k < n
    · have hkl : k < l.length := by rw [HN.out]; exact hlt
      obtain ⟨v2, hW, hSr⟩ := Wrote.out hrel
      clear hrel
      have hEr := ext_since HE.out HB.out HW.out hSr
      obtain ⟨b, o, rfl, hb, hcv⟩ := HL.out k hkl
      have hb' := Nat.lt_of_lt_of_le hb hEr.size
      obtain ⟨c0, c1, -, -⟩ := PlcIn.ext hEr hb hcv
      have HT := Lib.hid (obj.flat_take plcL l k hkl)
      have hfl := obj.flat_len plcL l (k + 1)
      rw [HT.out, List.length_append] at hfl
      have hxk := HX.out _ (List.getElem_mem hkl)
      have hki : (k : Int) < (n : Int) := by omega
      clear hcv
      generalize l[k] = x at *
      have HSR := Lib.hid hSr
      obtain ⟨b1, hb1⟩ : ∃ y, bs ++ (num8 n ++ (l.take k).flatMap plcL) = y := ⟨_, rfl⟩
      have hlen : b1.length + (plcL x).length ≤ 100000000000000 := by
        rw [← hb1, List.length_append, List.length_append]; omega
      have HB1 := Lib.hid hb1
      rw [hb1] at hW
      clear hb1 hfl hSr hEr
      obtain ⟨nm, va⟩ := x
      simp only at c0 c1 hxk
      have HC := Lib.hid (place_any ⟨nm, va⟩ (Wr.alloc hW (.cells #[.string nm, .int .i64 va] 129)) hxk hlen)
      clear hW hlen
      go_wp2_with (go_at_call 70; refine HC.out.mono ?_; rintro e w3 ⟨rfl, hw3⟩)
      obtain ⟨v3, hW3, hS3⟩ := Wrote.out hw3
      have hSf := HSR.out.alloc (.cells #[.string nm, .int .i64 va] 129)
      go_roundw
      case rel => exact ⟨k + 1, by omega, by go_num, Wrote.mk (by rw [HT.out, ← List.append_assoc, ← List.append_assoc, List.append_assoc bs, HB1.out]; exact hW3) (hSf.trans hS3)⟩
      case measure => simp [intOf]; omega
    · obtain rfl : n = k := by omega
      have e : l.take n = l := List.take_of_length_le (by rw [HN.out]; exact Nat.le_refl _)
      rw [e] at hrel
      go_wp2_with fail
      go_end0
      exact ⟨rfl, hrel⟩
end objw
end Go.Proofs.YtpcihajmcejliabGreatDoor
