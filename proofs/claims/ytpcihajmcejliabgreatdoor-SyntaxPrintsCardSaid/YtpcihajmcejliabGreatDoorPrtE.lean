/- The walk of the printer's expr. -/
import Derived.Defers
import Derived.Lib.AppendIntMem
import Derived.Lib.SmallJoins
import Derived.Recover
import Derived.StillTailTactics
import Derived.Test.YtpcihajmcejliabGreatDoorPrtT
namespace Go.Proofs.YtpcihajmcejliabGreatDoor
open Go.RowKit
namespace prt
open synw
theorem bits_two {m : Int} (h0 : 0 ≤ m) (h1 : m ≤ 11) : bits .and .i64 m 2 = if 2 ≤ m % 4 then 2 else 0 := by
 have h : m = 0 ∨ m = 1 ∨ m = 2 ∨ m = 3 ∨ m = 4 ∨ m = 5 ∨ m = 6 ∨ m = 7 ∨ m = 8 ∨ m = 9 ∨ m = 10 ∨ m = 11 := by omega
 rcases h with rfl | rfl | rfl | rfl | rfl | rfl | rfl | rfl | rfl | rfl | rfl | rfl <;> rfl
theorem then_assoc (a b c : PO) : (a.then b).then c = a.then (b.then c) := by
 obtain ⟨a1, a2⟩ := a; obtain ⟨b1, b2⟩ := b; obtain ⟨c1, c2⟩ := c
 cases a1 <;> cases b1 <;> simp [PO.then]
theorem then_say (ws l : List ByteArray) (R : PO) : PO.then (true, ws) ((sayP l).then R) = PO.then (true, ws ++ l) R := by simp [PO.then, sayP]
theorem then_yes (ws : List ByteArray) (R : PO) : PO.then (true, ws) ((mustP true).then R) = PO.then (true, ws) R := by simp [PO.then, mustP]
theorem then_no (ws : List ByteArray) (R : PO) : PO.then (true, ws) ((mustP false).then R) = (false, ws) := by simp [PO.then, mustP]
theorem then_ok (ws l : List ByteArray) (R : PO) : PO.then (true, ws) (PO.then (true, l) R) = PO.then (true, ws ++ l) R := by simp [PO.then]
theorem then_bad (ws l : List ByteArray) (R : PO) : PO.then (true, ws) (PO.then (false, l) R) = (false, ws ++ l) := by simp [PO.then]
theorem then_nil (ws : List ByteArray) : PO.then (true, ws) (sayP []) = (true, ws) := by simp [PO.then, sayP]
theorem then_one (p : PO) : p = p.then (sayP []) := by
 obtain ⟨a, b⟩ := p; cases a <;> simp [PO.then, sayP]
theorem then_start (p : PO) : p = PO.then (true, []) p := by simp [PO.then]
theorem PB.assoc {W u0 u : World} {S Nb : Nat} {row0 row : Value} {acc a b : List ByteArray} {nc : Array Value} (h : PB W u0 u S Nb row0 row (acc ++ a ++ b) nc) : PB W u0 u S Nb row0 row (acc ++ (a ++ b)) nc := by rw [← List.append_assoc]; exact h
theorem PB.nil {W u0 u : World} {S Nb : Nat} {row0 row : Value} {acc : List ByteArray} {nc : Array Value} (h : PB W u0 u S Nb row0 row acc nc) : PB W u0 u S Nb row0 row (acc ++ []) nc := by rw [List.append_nil]; exact h
set_option maxRecDepth 100000 in
theorem pub_any {W u : World} {S : Nat} {row : Value} {acc : List ByteArray} (h : PW W u S row acc) (k m : Int) (t : ByteArray) (a : Option Addr) (n c : Nat) (h0 : 0 ≤ m) (h1 : m ≤ 11) (hm : acc.length + 1 ≤ 1000000) :
  Calls Tryz.prog 229 #[.pointer (some ⟨S, 0, none⟩), .agg #[.int .i64 k, .string t, .int .i64 m, .slice a n c]] u fun e u' => e = .returned (.tuple #[]) ∧ ∃ row', PF W u u' S row row' (acc ++ pubW m) := by
 have hb := bits_two h0 h1; have HB := Z_ (PB.made h #[.int .i64 k, .string t, .int .i64 m, .slice a n c]); obtain ⟨Nb, hNb⟩ : ∃ Nb, u.heap.size = Nb := ⟨_, rfl⟩; rw [hNb] at HB; have HM := Z_ hm; obtain ⟨z, hz⟩ : ∃ z, bits .and .i64 m 2 = z := ⟨_, rfl⟩; rw [hz] at hb; have hbc := HB.out.nb.cell; clear h h0 h1 hm; unfold pubW; by_cases h2 : 2 ≤ m % 4
 ·rw [if_pos h2] at hb ⊢
  subst hb; clear h2; go_enter Tryz.func229, Tryz.ntmps229
  go_upto_region 1 with (fail)
  try rw [hNb]
  generalize u.alloc (.cells #[.int .i64 k, .string t, .int .i64 m, .slice a n c] 66) = u0 at *; clear hNb; go_wp2_with fail
  refine (say_new HB.out.f.pw [sPub] _ rfl 1 rfl (by decide) HM.out).mono ?_
  rintro e w2 ⟨rfl, row2, hF2⟩; have HB2 := Z_ (HB.out.call hF2); clear hF2 hbc HB; go_wp2_with fail
  go_end0
  exact ⟨rfl, _, HB2.out.f⟩
 ·rw [if_neg h2] at hb ⊢
  subst hb; clear h2; go_enter Tryz.func229, Tryz.ntmps229
  go_wp2_with fail
  go_end0
  exact ⟨rfl, _, HB.out.f.nil⟩
def ExC (W : World) (S : Nat) (x : Nd) : Prop := ∀ (v : Value) (u : World) (row : Value) (acc : List ByteArray) (least : Int), PW W u S row acc → NgAt W x v → acc.length + 12 * szF x ≤ 1000000 → 0 ≤ least → least ≤ 10 →
 Calls Tryz.prog 231 #[.pointer (some ⟨S, 0, none⟩), v, .int .i64 least] u (PPost W u S row acc (exP least x))
theorem kid_at {W w : World} (hE : Ext W w) {a : Option Addr} {l : List Nd} (h : AllIn 4 NgIn W a l) (j : Nat) (hj : j < l.length) : ∃ b o k1 t1 m1 a1 n1 c1, a = some ⟨b, o, none⟩ ∧ NgAt W l[j] (.agg #[.int .i64 k1, .string t1, .int .i64 m1, .slice a1 n1 c1]) ∧
  w.cell? ⟨b, o + j * 4, none⟩ = some (.int .i64 k1) ∧ w.cell? ⟨b, o + j * 4 + 1, none⟩ = some (.string t1) ∧ w.cell? ⟨b, o + j * 4 + 2, none⟩ = some (.int .i64 m1) ∧ w.cell? ⟨b, o + j * 4 + 3, none⟩ = some (.slice a1 n1 c1) := by
 obtain ⟨b, o, rfl, hb, u, hu, hs, hc⟩ := h j hj; have hu2 := hu; obtain ⟨k1, t1, m1, a1, n1, c1, rfl⟩ := ng_form hu2; exact ⟨b, o, k1, t1, m1, a1, n1, c1, rfl, hu, (hE.cell (p := ⟨b, o + j * 4, none⟩) hb id).trans ((hc 0 (by decide)).trans rfl), (hE.cell (p := ⟨b, o + j * 4 + 1, none⟩) hb id).trans ((hc 1 (by decide)).trans rfl), (hE.cell (p := ⟨b, o + j * 4 + 2, none⟩) hb id).trans ((hc 2 (by decide)).trans rfl), (hE.cell (p := ⟨b, o + j * 4 + 3, none⟩) hb id).trans ((hc 3 (by decide)).trans rfl)⟩
theorem plain_n {t : ByteArray} {m : Int} {n : Nat} {a b c : Int} (h : plainB t m n a b c = true) : t = noText ∧ 0 ≤ m ∧ m ≤ c ∧ a ≤ (n : Int) ∧ (b < 0 ∨ (n : Int) ≤ b) := by
 unfold plainB kidsB at h; simpa [and_assoc] using h
theorem whole_n {t : ByteArray} {m : Int} {n : Nat} {a b : Int} (h : wholeB t m n a b = true) : a ≤ (n : Int) ∧ (b < 0 ∨ (n : Int) ≤ b) := by
 unfold wholeB kidsB at h; simp only [Bool.and_eq_true, Bool.or_eq_true, decide_eq_true_eq] at h; exact ⟨h.2.1.2, h.2.2⟩
theorem whole_len (t : ByteArray) : (wholeW t).length ≤ 3 := by unfold wholeW; split <;> simp
theorem po_len (a b : PO) : (a.then b).2.length ≤ a.2.length + b.2.length := by
 unfold PO.then
 split
 ·simp
 ·omega
def sumP (ks : List PO) : Nat := (ks.map fun p => p.2.length + 1).sum
theorem com_len : ∀ (l : List PO) (f : Bool), (comP l f).2.length ≤ sumP l
 | [], f => by simp [comP, sayP, sumP]
 | p :: r, f => by
  have h1 := com_len r false; have h2 := po_len (sayP (if f = true then [] else [sComma])) (p.then (comP r false)); have h3 := po_len p (comP r false); have h4 : (sayP (if f = true then [] else [sComma])).2.length ≤ 1 := by unfold sayP; split <;> simp
  rw [comP]; simp only [sumP, List.map_cons, List.sum_cons] at h1 ⊢; omega
theorem kid_le (ks : List PO) (j : Nat) : (kidP ks j).2.length ≤ sumP ks := by
 unfold kidP sumP; induction ks generalizing j with
 | nil => simp [sayP]
 | cons p r ih =>
  cases j with
  | zero => simp only [List.getD_cons_zero, List.map_cons, List.sum_cons]; omega
  | succ j => have := ih j; simp only [List.getD_cons_succ, List.map_cons, List.sum_cons]; omega
theorem must_then (b : Bool) (p : PO) : ((mustP b).then p).2.length ≤ if b = true then p.2.length else 0 := by
 cases b <;> simp [mustP, PO.then]
theorem say_then (l : List ByteArray) (p : PO) : ((sayP l).then p).2.length = l.length + p.2.length := by simp [sayP, PO.then]
theorem whole_le (t : ByteArray) (m : Int) (n : Nat) (a b : Int) : (wholeP t m n a b).2.length ≤ 3 := by
 unfold wholeP; have h3 := must_then (wholeB t m n a b) (sayP (wholeW t)); have h4 := whole_len t; have h5 : (sayP (wholeW t)).2.length ≤ 3 := h4; split at h3 <;> omega
theorem whole_then (t : ByteArray) (m : Int) (n : Nat) (a b : Int) (p : PO) : ((wholeP t m n a b).then p).2.length ≤ 3 + p.2.length := by
 have h1 := po_len (wholeP t m n a b) p
 have h2 : (wholeP t m n a b).2.length ≤ 3 := by
  unfold wholeP; have h3 := must_then (wholeB t m n a b) (sayP (wholeW t)); have h4 := whole_len t; have h5 : (sayP (wholeW t)).2.length ≤ 3 := h4; split at h3 <;> omega
 omega
theorem wrap_len (b : Bool) (p : PO) : (wrapP b p).2.length ≤ p.2.length + 2 := by
 unfold wrapP; split <;> simp
theorem fin_len (k : Int) (t : ByteArray) (m least : Int) (ks : List PO) : (finP k t m ks.length least ks).2.length ≤ sumP ks + 6 := by
 unfold finP; split
 ·have h1 := must_then (plainB t 0 ks.length 2 2 0) ((mustP (decide (0 ≤ (signF m).2))).then (wrapP (decide ((signF m).2 < least)) ((kidP ks 0).then ((sayP [(signF m).1]).then (kidP ks 1)))))
  split at h1
  ·rename_i hp
   obtain ⟨-, -, -, h2, h3⟩ := plain_n hp; have hl : ks.length = 2 := by omega
   match ks, hl with
   | [p, q], _ =>
    have h4 := must_then (decide (0 ≤ (signF m).2)) (wrapP (decide ((signF m).2 < least)) ((kidP [p, q] 0).then ((sayP [(signF m).1]).then (kidP [p, q] 1)))); have h5 := wrap_len (decide ((signF m).2 < least)) ((kidP [p, q] 0).then ((sayP [(signF m).1]).then (kidP [p, q] 1))); have h6 := po_len (kidP [p, q] 0) ((sayP [(signF m).1]).then (kidP [p, q] 1)); rw [say_then] at h6; have h7 : (kidP [p, q] 0).2.length = p.2.length := rfl; have h8 : (kidP [p, q] 1).2.length = q.2.length := rfl; simp only [sumP, List.map_cons, List.sum_cons, List.map_nil, List.sum_nil, List.length_cons, List.length_nil] at *; split at h4 <;> omega
  ·omega
 ·split
  ·generalize (if k = 20 then sMinus else sNot) = sg
   have h1 := must_then (plainB t m ks.length 1 1 0) ((sayP [sg]).then (kidP ks 0)); have h2 := kid_le ks 0; rw [say_then] at h1; simp only [List.length_cons, List.length_nil] at h1; split at h1 <;> omega
  ·split
   ·have h1 := must_then (decide (t = noText) && decide (0 ≤ m) && decide (ks.length = 0)) (sayP [digW m])
    have h2 : (sayP [digW m]).2.length = 1 := rfl; split at h1 <;> omega
   ·split
    ·have h1 := whole_then t m ks.length 1 1 ((sayP [sBra]).then ((kidP ks 0).then (sayP [sKet])))
     have h2 := kid_le ks 0; have h3 := po_len (kidP ks 0) (sayP [sKet]); have h4 : (sayP [sKet]).2.length = 1 := rfl; rw [say_then] at h1; simp only [List.length_cons, List.length_nil] at h1; omega
    ·split
     ·have h1 := whole_then t m ks.length 0 (-1) ((sayP [sOpen]).then ((comP ks true).then (sayP [sClose])))
      have h2 := com_len ks true; have h3 := po_len (comP ks true) (sayP [sClose]); have h4 : (sayP [sClose]).2.length = 1 := rfl; rw [say_then] at h1; simp only [List.length_cons, List.length_nil] at h1; omega
     ·have h1 := must_then (decide (k = 16)) (wholeP t m ks.length 0 0)
      have h2 := whole_then t m ks.length 0 0 (sayP []); rw [← then_one] at h2; have h3 : (sayP []).2.length = 0 := rfl; split at h1 <;> omega
theorem exK_size (k m : Int) : ∀ (l : List Nd) (j : Nat), (exK k m l j).length = l.length
 | [], _ => rfl
 | x :: r, j => by rw [exK, List.length_cons, List.length_cons, exK_size k m r (j + 1)]
theorem exK_drop (k m : Int) : ∀ (l : List Nd) (i j : Nat) (hj : j < l.length), (exK k m l i).drop j = exP (kidLev k m (i + j)) l[j] :: (exK k m l i).drop (j + 1)
 | x :: r, i, 0, _ => by rw [exK]; rfl
 | x :: r, i, j + 1, hj => by
  rw [exK, List.drop_succ_cons, List.drop_succ_cons, exK_drop k m r (i + 1) j (by simpa using hj), show i + 1 + j = i + (j + 1) by omega]; rfl
theorem exP_len : ∀ (x : Nd) (least : Int), (exP least x).2.length + 1 ≤ 12 * szF x := by
 refine nd_ind fun k t m l ih least => ?_
 have hK : ∀ (r : List Nd) (j : Nat), (∀ x ∈ r, x ∈ l) → sumP (exK k m r j) ≤ 12 * szL r := by
  intro r; induction r with
  | nil => intro j _; simp [exK, sumP]
  | cons x r ih2 =>
   intro j hr; have h1 := ih x (hr x (List.mem_cons_self ..)) (kidLev k m j); have h2 := ih2 (j + 1) (fun y hy => hr y (List.mem_cons_of_mem _ hy)); simp only [exK, sumP, List.map_cons, List.sum_cons, szL] at h2 ⊢; omega
 have h1 := fin_len k t m least (exK k m l 0); rw [exK_size] at h1; have h2 := hK l 0 (fun x hx => hx); rw [exP]; simp only [szF]; omega
structure PG (W u0 u : World) (S Nb G : Nat) (row0 row : Value) (acc : List ByteArray) (nc : Array Value) : Prop where
 b : PB W u0 u S Nb row0 row acc nc
 g : Blk u G #[.string sClose] 9
 hG : S < G
 hX : ∀ i, row.ownBlock = some i → i ≠ G
theorem PG.call {W u0 u u' : World} {S Nb G : Nat} {row0 row row' : Value} {acc acc' : List ByteArray} {nc : Array Value} (h : PG W u0 u S Nb G row0 row acc nc) (k : PF W u u' S row row' acc') : PG W u0 u' S Nb G row0 row' acc' nc :=
 ⟨h.b.call k, h.g.chg k.chg (fun e => by
  have := h.hG; rcases e with e | e
  ·omega
  ·exact h.hX _ e rfl), h.hG, fun i e => by
  rcases k.own i e with f | f
  ·exact h.hX i f
  ·have := h.g.lt; omega⟩
theorem PG.assoc {W u0 u : World} {S Nb G : Nat} {row0 row : Value} {acc a b : List ByteArray} {nc : Array Value} (h : PG W u0 u S Nb G row0 row (acc ++ a ++ b) nc) : PG W u0 u S Nb G row0 row (acc ++ (a ++ b)) nc := by rw [← List.append_assoc]; exact h
theorem PG.made {W u0 u : World} {S Nb : Nat} {row0 row : Value} {acc : List ByteArray} {nc : Array Value} (h : PB W u0 u S Nb row0 row acc nc) : PG W u0 (u.alloc (.cells #[.string sClose] 9)) S Nb u.heap.size row0 row acc nc :=
 ⟨h.extend ((Chg.refl _ _).alloc _), Blk.made u _ _, h.f.pw.s.lt, fun i e => by have := (h.f.pw.own i e).2; omega⟩
theorem wrap_yes (ws : List ByteArray) (R : PO) : PO.then (true, ws) ((wrapP true R).then (sayP [])) = ((PO.then (true, ws ++ [sOpen]) R).1, (PO.then (true, ws ++ [sOpen]) R).2 ++ [sClose]) := by
 obtain ⟨a, b⟩ := R; cases a <;> simp [PO.then, wrapP, sayP]
theorem wrap_no (ws : List ByteArray) (R : PO) : PO.then (true, ws) ((wrapP false R).then (sayP [])) = PO.then (true, ws) R := by
 obtain ⟨a, b⟩ := R; cases a <;> simp [PO.then, wrapP, sayP]
def sgL : List (Int × (ByteArray × Int)) := [(9, (⟨#[61, 61]⟩, 0)), (8, (⟨#[60]⟩, 0)), (1, (⟨#[43]⟩, 1)), (2, (⟨#[45]⟩, 1)), (7, (⟨#[124]⟩, 1)), (3, (⟨#[42]⟩, 2)), (4, (⟨#[47]⟩, 2)), (5, (⟨#[37]⟩, 2)), (6, (⟨#[38]⟩, 2))]
def sgF (m : Int) : List (Int × (ByteArray × Int)) → ByteArray × Int
 | [] => (noText, -1)
 | (c, r) :: l => if m = c then r else sgF m l
theorem sg_i0 (w : World) : (Instr.index 363 (.agg #[.string ⟨#[61, 61]⟩, .string ⟨#[60]⟩, .string ⟨#[43]⟩, .string ⟨#[45]⟩, .string ⟨#[124]⟩, .string ⟨#[42]⟩, .string ⟨#[47]⟩, .string ⟨#[37]⟩, .string ⟨#[38]⟩]) (.int .i64 0)).run Tryz.prog w = .ok (.string ⟨#[61, 61]⟩) w := by kernel_rfl
theorem sg_i1 (w : World) : (Instr.index 363 (.agg #[.string ⟨#[61, 61]⟩, .string ⟨#[60]⟩, .string ⟨#[43]⟩, .string ⟨#[45]⟩, .string ⟨#[124]⟩, .string ⟨#[42]⟩, .string ⟨#[47]⟩, .string ⟨#[37]⟩, .string ⟨#[38]⟩]) (.int .i64 1)).run Tryz.prog w = .ok (.string ⟨#[60]⟩) w := by kernel_rfl
theorem sg_i2 (w : World) : (Instr.index 363 (.agg #[.string ⟨#[61, 61]⟩, .string ⟨#[60]⟩, .string ⟨#[43]⟩, .string ⟨#[45]⟩, .string ⟨#[124]⟩, .string ⟨#[42]⟩, .string ⟨#[47]⟩, .string ⟨#[37]⟩, .string ⟨#[38]⟩]) (.int .i64 2)).run Tryz.prog w = .ok (.string ⟨#[43]⟩) w := by kernel_rfl
theorem sg_i3 (w : World) : (Instr.index 363 (.agg #[.string ⟨#[61, 61]⟩, .string ⟨#[60]⟩, .string ⟨#[43]⟩, .string ⟨#[45]⟩, .string ⟨#[124]⟩, .string ⟨#[42]⟩, .string ⟨#[47]⟩, .string ⟨#[37]⟩, .string ⟨#[38]⟩]) (.int .i64 3)).run Tryz.prog w = .ok (.string ⟨#[45]⟩) w := by kernel_rfl
theorem sg_i4 (w : World) : (Instr.index 363 (.agg #[.string ⟨#[61, 61]⟩, .string ⟨#[60]⟩, .string ⟨#[43]⟩, .string ⟨#[45]⟩, .string ⟨#[124]⟩, .string ⟨#[42]⟩, .string ⟨#[47]⟩, .string ⟨#[37]⟩, .string ⟨#[38]⟩]) (.int .i64 4)).run Tryz.prog w = .ok (.string ⟨#[124]⟩) w := by kernel_rfl
theorem sg_i5 (w : World) : (Instr.index 363 (.agg #[.string ⟨#[61, 61]⟩, .string ⟨#[60]⟩, .string ⟨#[43]⟩, .string ⟨#[45]⟩, .string ⟨#[124]⟩, .string ⟨#[42]⟩, .string ⟨#[47]⟩, .string ⟨#[37]⟩, .string ⟨#[38]⟩]) (.int .i64 5)).run Tryz.prog w = .ok (.string ⟨#[42]⟩) w := by kernel_rfl
theorem sg_i6 (w : World) : (Instr.index 363 (.agg #[.string ⟨#[61, 61]⟩, .string ⟨#[60]⟩, .string ⟨#[43]⟩, .string ⟨#[45]⟩, .string ⟨#[124]⟩, .string ⟨#[42]⟩, .string ⟨#[47]⟩, .string ⟨#[37]⟩, .string ⟨#[38]⟩]) (.int .i64 6)).run Tryz.prog w = .ok (.string ⟨#[47]⟩) w := by kernel_rfl
theorem sg_i7 (w : World) : (Instr.index 363 (.agg #[.string ⟨#[61, 61]⟩, .string ⟨#[60]⟩, .string ⟨#[43]⟩, .string ⟨#[45]⟩, .string ⟨#[124]⟩, .string ⟨#[42]⟩, .string ⟨#[47]⟩, .string ⟨#[37]⟩, .string ⟨#[38]⟩]) (.int .i64 7)).run Tryz.prog w = .ok (.string ⟨#[37]⟩) w := by kernel_rfl
theorem sg_i8 (w : World) : (Instr.index 363 (.agg #[.string ⟨#[61, 61]⟩, .string ⟨#[60]⟩, .string ⟨#[43]⟩, .string ⟨#[45]⟩, .string ⟨#[124]⟩, .string ⟨#[42]⟩, .string ⟨#[47]⟩, .string ⟨#[37]⟩, .string ⟨#[38]⟩]) (.int .i64 8)).run Tryz.prog w = .ok (.string ⟨#[38]⟩) w := by kernel_rfl
theorem sign_range (m : Int) : (signF m).2 = -1 ∨ (0 ≤ (signF m).2 ∧ (signF m).2 ≤ 2) := by
 unfold signF
 repeat' split
 all_goals (simp)
theorem sgF_eq (m : Int) : sgF m sgL = signF m := rfl
set_option maxRecDepth 100000 in
set_option maxHeartbeats 4000000 in
theorem sign_any (m : Int) (w : World) : Calls Tryz.prog 262 #[.int .i64 m] w fun e w' => e = .returned (.tuple #[.string (signF m).1, .int .i64 (signF m).2]) ∧ w' = w := by
 obtain ⟨R, hR⟩ : ∃ R, sgF m sgL = R := ⟨_, rfl⟩; rw [← sgF_eq, hR]; have HR := Z_ hR; clear hR; go_enter Tryz.func262, Tryz.ntmps262
 go_upto_region 2 with (fail)
 go_wp2_with fail
 go_loopw [9] (fun i wr => ∃ j : Nat, j ≤ 9 ∧ i = .int .i64 (j : Nat) ∧ Hid (sgF m (sgL.drop j) = R) ∧ wr = w) (fun i _ => 9 - (intOf i).toNat)
 case atStart => exact ⟨0, by decide, rfl, HR, rfl⟩
 case round =>
  obtain ⟨j, hj, rfl, HT, rfl⟩ := hrel; by_cases hlt : j < 9
  ·have h9 : j = 0 ∨ j = 1 ∨ j = 2 ∨ j = 3 ∨ j = 4 ∨ j = 5 ∨ j = 6 ∨ j = 7 ∨ j = 8 := by omega
   have HOP := Z_ (fun s w => op_any s w); have hq0 : opOf ⟨#[61, 61]⟩ = (9, 0) := by decide
   have hq1 : opOf ⟨#[60]⟩ = (8, 0) := by decide
   have hq2 : opOf ⟨#[43]⟩ = (1, 1) := by decide
   have hq3 : opOf ⟨#[45]⟩ = (2, 1) := by decide
   have hq4 : opOf ⟨#[124]⟩ = (7, 1) := by decide
   have hq5 : opOf ⟨#[42]⟩ = (3, 2) := by decide
   have hq6 : opOf ⟨#[47]⟩ = (4, 2) := by decide
   have hq7 : opOf ⟨#[37]⟩ = (5, 2) := by decide
   have hq8 : opOf ⟨#[38]⟩ = (6, 2) := by decide
   have hi0 := sg_i0; have hi1 := sg_i1; have hi2 := sg_i2; have hi3 := sg_i3; have hi4 := sg_i4; have hi5 := sg_i5; have hi6 := sg_i6; have hi7 := sg_i7; have hi8 := sg_i8; rcases h9 with rfl | rfl | rfl | rfl | rfl | rfl | rfl | rfl | rfl
   all_goals
    go_wp2_with fail
    refine (HOP.out _ _).mono ?_
    rintro e w2 ⟨rfl, rfl⟩; simp only [sgL, List.drop_succ_cons, List.drop_zero, sgF] at HT; split at HT
    ·rename_i hm
     subst hm; have HT2 := Z_ HT.out.symm; clear HT; go_wp2_with fail
     go_ret2
     rw [HT2.out]; exact ⟨rfl, rfl⟩
    ·rename_i hm
     have hmb := beq_eq_false_iff_ne.2 (Ne.symm hm); go_wp2_with fail
     go_roundw
     case rel => exact ⟨_, by decide, rfl, HT, trivial⟩
     case measure => decide
  ·obtain rfl : j = 9 := by omega
   have HT2 := Z_ HT.out.symm; clear HT; go_wp2_with fail
   go_ret2
   rw [HT2.out]; exact ⟨rfl, rfl⟩
theorem tab_ext {w w' : World} (h : Lib.TabIs Tryz.prog w "internal/strconv.uint64pow10" .u64 Lib.pow10Tab) (hE : Ext w w') : Lib.TabIs Tryz.prog w' "internal/strconv.uint64pow10" .u64 Lib.pow10Tab :=
 Joins.tab_stays (g := 3) (by kernel_rfl) h hE.below (Nat.le_refl _)
set_option maxRecDepth 100000 in
set_option maxHeartbeats 16000000 in
theorem expr_any {W : World} {S : Nat} (hv : ErrVar W) (hmv : MaxVar W) (htab : Lib.TabIs Tryz.prog W "internal/strconv.uint64pow10" .u64 Lib.pow10Tab) : ∀ x, ExC W S x := by
 refine nd_ind fun k t m l ih v u row acc least h hnd hm hl0 hl1 => ?_
 rw [ngAt_mk] at hnd; obtain ⟨a, cc, rfl, hc1, hc2, ⟨hts, hmi⟩, hrow⟩ := hnd; obtain ⟨N, hN⟩ : ∃ N, l.length = N := ⟨_, rfl⟩; rw [exP, hN]; rw [hN] at hc1; have hNm : N ≤ 9223372036854775807 := by unfold maxLen at hc2; omega
 have HN := Z_ hN; have HI := Z_ hrow; have HIH := Z_ ih; have HV := Z_ hv; have HMV := Z_ hmv; have HTAB := Z_ htab; have HMI := Z_ hmi; have HLEN := Z_ (show acc.length + 12 * (1 + szL l) ≤ 1000000 from by simp only [szF] at hm; omega); have HTS := Z_ hts; have HB := Z_ (PB.made h #[.int .i64 k, .string t, .int .i64 m, .slice a N cc]).nil; obtain ⟨Nb, hNb⟩ : ∃ Nb, u.heap.size = Nb := ⟨_, rfl⟩; rw [hNb] at HB; obtain ⟨ks, hks⟩ : ∃ ks, exK k m l 0 = ks := ⟨_, rfl⟩; rw [hks]; have HKS := Z_ hks; obtain ⟨T, hT⟩ : ∃ T, finP k t m N least ks = T := ⟨_, rfl⟩; rw [hT]; unfold finP at hT; clear hrow ih hv hmv htab hm hts hmi h hN hks; by_cases k19 : k = 19
 ·subst k19
  rw [if_pos rfl] at hT; obtain ⟨pb0, hpb⟩ : ∃ pb, plainB t 0 N 2 2 0 = pb := ⟨_, rfl⟩; have HPL := Z_ (fun w => plain_any 19 0 t a N cc 2 2 0 w); have HSG := Z_ (fun w => sign_any m w); have hsr := sign_range m; have hkl : ∀ j, kidLev 19 m j = (if j = 0 then (if (signF m).2 = 0 then 1 else (signF m).2) else (signF m).2 + 1) := fun j => rfl
  obtain ⟨sl, hsl⟩ : ∃ sl, signF m = sl := ⟨_, rfl⟩; rw [hsl] at hT HSG hsr hkl; rw [hpb] at hT HPL; obtain ⟨sg, lv⟩ := sl; have HPB := Z_ hpb; have HKL := Z_ hkl; simp only at hT hsr; obtain ⟨lf, hlf⟩ : ∃ lf : Int, (if lv = 0 then 1 else lv) = lf := ⟨_, rfl⟩; have hlfr : 0 ≤ lv → 0 ≤ lf ∧ lf ≤ 10 := by intro h; rw [← hlf]; split <;> omega
  have HLF := Z_ hlf; have HLFR := Z_ hlfr; have HT := Z_ (show PO.then (true, []) ((mustP pb0).then ((mustP (decide (0 ≤ lv))).then ((wrapP (decide (lv < least)) ((kidP ks 0).then ((sayP [sg]).then (kidP ks 1)))).then (sayP [])))) = T by rw [← hT, ← then_one (wrapP _ _), ← then_start]); clear hT hpb hsl hkl hlf hlfr; go_enter_defers Tryz.func231, Tryz.ntmps231
  go_upto_region 1 with (fail)
  try rw [hNb]
  generalize u.alloc (.cells #[.int .i64 19, .string t, .int .i64 m, .slice a N cc] 66) = u0 at *; clear hNb; have HU := Z_ HB.out.hU; have hbc := HB.out.nb.cell; have hbf := HB.out.nb.frozen; have hbl := HB.out.nb.lt; go_wp2_with fail
  refine (HSG.out _).mono ?_
  rintro e w3 ⟨rfl, rfl⟩; go_upto_region 7 with (fail)
  have hst := HB.out.setB 2 (.int .i64 0); clear hbc hbf hbl; replace HB := Z_ (show PB W u (w3.setCell ⟨Nb, 2, none⟩ (.int .i64 0)) S Nb row row (acc ++ []) #[.int .i64 19, .string t, .int .i64 0, .slice a N cc] from hst); clear hst; generalize w3.setCell ⟨Nb, 2, none⟩ (.int .i64 0) = w4 at *; have hbc := HB.out.nb.cell; go_wp2_with fail
  clear hbc; refine (HPL.out _).mono ?_
  rintro e w3 ⟨he, hE3⟩; replace HB := Z_ (HB.out.extend hE3); clear hE3; cases pb0 with
  | false =>
   obtain rfl : e = _ := he; simp only [Bool.false_eq_true, if_false]; go_wp2_with fail
   exact ppost_bad (by rw [← HT.out, then_no]) HB.out.f
  | true =>
   obtain rfl : e = _ := he; rw [then_yes] at HT; simp only [if_true]; have HN2 := Z_ (show N = 2 from by have h := plain_n HPB.out; omega); by_cases hlv : 0 ≤ lv
   ·have hlvd : decide (0 ≤ lv) = true := by simpa using hlv
    rw [hlvd, then_yes] at HT; by_cases hw : lv < least
    ·
     have hwd : decide (lv < least) = true := by simpa using hw
     rw [hwd, wrap_yes] at HT; go_wp2_with fail
     refine (must_any true _).mono ?_
     rintro e w5 ⟨rfl, rfl⟩; simp only [if_true]; go_wp2_with fail
     refine (say_new HB.out.f.pw [sOpen] _ rfl 1 rfl (by decide) (by have h9 := HLEN.out; first | omega | (simp at h9 ⊢; omega))).mono ?_
     rintro e w6 ⟨rfl, row6, hF6⟩; replace HB := Z_ (HB.out.call hF6).assoc; clear hF6; obtain ⟨Q, hQ⟩ : ∃ Q, PO.then (true, [] ++ [sOpen]) ((kidP ks 0).then ((sayP [sg]).then (kidP ks 1))) = Q := ⟨_, rfl⟩
     rw [hQ] at HT; have HTW := Z_ HT.out.symm; clear HT; have HT := Z_ hQ; clear hQ; obtain ⟨G, hG⟩ : ∃ G, w6.heap.size = G := ⟨_, rfl⟩; replace HB := Z_ (PG.made HB.out); rw [hG] at HB; go_upto_region 12 with (fail)
     try rw [hG]
     have hwc : ∃ w7, w6.alloc (.cells #[.string ⟨#[41]⟩] 9) = w7 := ⟨_, rfl⟩; obtain ⟨w7, hw7⟩ := hwc; replace HB := Z_ (show PG W u w7 S Nb G row row6 (acc ++ ([] ++ [sOpen])) #[.int .i64 19, .string t, .int .i64 0, .slice a N cc] from by rw [← hw7]; exact HB.out); rw [hw7]; clear hw7 hG; go_upto_if 44 with (fail)
     go_cut [8] from 44 to 44 (fun s w' => s = .int .i64 lf ∧ w' = w7)
     case first =>
      by_cases hz : lv = 0
      ·subst hz
       obtain rfl : lf = 1 := HLF.out.symm; go_wp2_with fail
       go_meet
       exact ⟨rfl, rfl⟩
      ·have hzb : (lv == 0) = false := beq_eq_false_iff_ne.2 hz
       obtain rfl : lv = lf := by rw [← HLF.out, if_neg hz]
       go_wp2_with fail
       go_meet
       exact ⟨rfl, rfl⟩
     case rest =>
      obtain ⟨rfl, rfl⟩ := hcut; have hN2 : l.length = 2 := by have h1 := HN.out; have h2 := HN2.out; omega
      obtain ⟨x, y, rfl⟩ : ∃ x y, l = [x, y] := by match l, hN2 with | [x, y], _ => exact ⟨x, y, rfl⟩
      have hk0 : kidP ks 0 = exP lf x := by rw [← HKS.out]; show exP (kidLev 19 m 0) x = _; rw [HKL.out, if_pos rfl, HLF.out]
      have hk1 : kidP ks 1 = exP (lv + 1) y := by rw [← HKS.out]; show exP (kidLev 19 m (0 + 1)) y = _; rw [HKL.out]; rfl
      obtain ⟨p, hp⟩ : ∃ p, exP lf x = p := ⟨_, rfl⟩; obtain ⟨q, hq⟩ : ∃ q, exP (lv + 1) y = q := ⟨_, rfl⟩; have hpl := exP_len x lf; have hql := exP_len y (lv + 1); rw [hk0, hk1, hp, hq] at HT; rw [hp] at hpl; rw [hq] at hql; have HPp := Z_ hp; have HPq := Z_ hq; have hN22 : N = 2 := HN2.out; subst hN22; have hsz : szL [x, y] = szF x + szF y := by simp only [szL]; omega
      have hlfr2 := HLFR.out hlv; have hlv2 : lv ≤ 2 := by omega
      have hwl : wrap64 (lv + 1) = lv + 1 := IntWalk.wrap64_in _ (by omega); have hi0 : (0 : Int) < (2 : Int) := by decide
      have hi1 : (1 : Int) < (2 : Int) := by decide
      clear hN2 hk0 hk1 hp hq; obtain ⟨b, o, k1, t1, m1, a1, n1, c1, ha, hu, q0, q1, q2, q3⟩ := kid_at HB.out.b.f.pw.ext HI.out 0 (by simp); subst ha; simp only [Nat.zero_mul, Nat.add_zero] at q0 q1 q2 q3; have HIK := Z_ (HIH.out x (by simp) _ _ _ _ (lf) HB.out.b.f.pw hu (by have h9 := HLEN.out; first | omega | (simp at h9 ⊢; omega)) (by have := hlfr2; omega) (by have := hlfr2; omega)); rw [HPp.out] at HIK; have hbc := HB.out.b.nb.cell; clear hu; go_wp2_with fail
      clear hbc q0 q1 q2 q3; refine HIK.out.mono ?_
      rintro e w3 ⟨⟨row3, hF3⟩, he⟩; replace HB := Z_ (HB.out.call hF3).assoc; clear hF3 HIK; obtain ⟨pb, pw⟩ := p; cases pb with
      | false =>
       obtain rfl : e = _ := he; simp only [Bool.false_eq_true, if_false]; go_wp2_with fail
       refine leaves_cons (f := 166) (args := #[.pointer (some ⟨S, 0, none⟩), .slice (some ⟨G, 0, none⟩) 1 1]) (by simp) (by simp [go_sem]) ?_
       refine (say_anyD HB.out.b.f.pw [sClose] G HB.out.g (by have := HB.out.hG; omega) (fun e => HB.out.hX _ e rfl) (by decide) (by have h9 := HLEN.out; first | omega | (simp at h9 ⊢; omega)) _).mono ?_
       rintro e md w9 ⟨rfl, rfl, row9, hF9⟩; exact ppost_bad (by rw [HTW.out, ← HT.out, then_bad]) (HB.out.call hF9).assoc.b.f
      | true =>
       obtain rfl : e = _ := he; rw [then_ok] at HT; simp only [if_true]; go_wp2_with fail
       refine (say_new HB.out.b.f.pw [sg] _ rfl 1 rfl (by decide) (by have h9 := HLEN.out; first | omega | (simp at h9 ⊢; omega))).mono ?_
       rintro e w8 ⟨rfl, row8, hF8⟩; replace HB := Z_ (HB.out.call hF8).assoc; clear hF8; rw [then_say] at HT; obtain ⟨b, o, k1, t1, m1, a1, n1, c1, ha, hu, q0, q1, q2, q3⟩ := kid_at HB.out.b.f.pw.ext HI.out 1 (by simp); cases ha
       simp only [Nat.one_mul] at q0 q1 q2 q3; have HIK := Z_ (HIH.out y (by simp) _ _ _ _ (lv + 1) HB.out.b.f.pw hu (by have h9 := HLEN.out; first | omega | (simp at h9 ⊢; omega)) (by have := hlfr2; omega) (by have := hlfr2; omega)); rw [HPq.out] at HIK; have hbc := HB.out.b.nb.cell; clear hu; go_wp2_with fail
       clear hbc q0 q1 q2 q3; refine HIK.out.mono ?_
       rintro e w3 ⟨⟨row3, hF3⟩, he⟩; replace HB := Z_ (HB.out.call hF3).assoc; clear hF3 HIK; obtain ⟨qb, qw⟩ := q; cases qb with
       | false =>
        obtain rfl : e = _ := he; simp only [Bool.false_eq_true, if_false]; rw [then_one (false, qw)] at HT; go_wp2_with fail
        refine leaves_cons (f := 166) (args := #[.pointer (some ⟨S, 0, none⟩), .slice (some ⟨G, 0, none⟩) 1 1]) (by simp) (by simp [go_sem]) ?_
        refine (say_anyD HB.out.b.f.pw [sClose] G HB.out.g (by have := HB.out.hG; omega) (fun e => HB.out.hX _ e rfl) (by decide) (by have h9 := HLEN.out; first | omega | (simp at h9 ⊢; omega)) _).mono ?_
        rintro e md w9 ⟨rfl, rfl, row9, hF9⟩; exact ppost_bad (by rw [HTW.out, ← HT.out, then_bad]) (HB.out.call hF9).assoc.b.f
       | true =>
        obtain rfl : e = _ := he; rw [then_one (true, qw)] at HT; rw [then_ok] at HT; simp only [if_true]; go_wp2_with fail
        refine leaves_cons (f := 166) (args := #[.pointer (some ⟨S, 0, none⟩), .slice (some ⟨G, 0, none⟩) 1 1]) (by simp) (by simp [go_sem]) ?_
        refine (say_anyD HB.out.b.f.pw [sClose] G HB.out.g (by have := HB.out.hG; omega) (fun e => HB.out.hX _ e rfl) (by decide) (by have h9 := HLEN.out; first | omega | (simp at h9 ⊢; omega)) _).mono ?_
        rintro e md w9 ⟨rfl, rfl, row9, hF9⟩; exact ⟨_, results_none rfl _ _ _, ppost_ok (by rw [HTW.out, ← HT.out, then_nil]) (HB.out.call hF9).assoc.b.f⟩
    ·
     have hwd : decide (lv < least) = false := by simpa using hw
     rw [hwd, wrap_no] at HT; go_wp2_with fail
     refine (must_any true _).mono ?_
     rintro e w5 ⟨rfl, rfl⟩; simp only [if_true]; go_upto_if 44 with (fail)
     go_cut [8] from 44 to 44 (fun s w' => s = .int .i64 lf ∧ w' = w5)
     case first =>
      by_cases hz : lv = 0
      ·subst hz
       obtain rfl : lf = 1 := HLF.out.symm; go_wp2_with fail
       go_meet
       exact ⟨rfl, rfl⟩
      ·have hzb : (lv == 0) = false := beq_eq_false_iff_ne.2 hz
       obtain rfl : lv = lf := by rw [← HLF.out, if_neg hz]
       go_wp2_with fail
       go_meet
       exact ⟨rfl, rfl⟩
     case rest =>
      obtain ⟨rfl, rfl⟩ := hcut; have hN2 : l.length = 2 := by have h1 := HN.out; have h2 := HN2.out; omega
      obtain ⟨x, y, rfl⟩ : ∃ x y, l = [x, y] := by match l, hN2 with | [x, y], _ => exact ⟨x, y, rfl⟩
      have hk0 : kidP ks 0 = exP lf x := by rw [← HKS.out]; show exP (kidLev 19 m 0) x = _; rw [HKL.out, if_pos rfl, HLF.out]
      have hk1 : kidP ks 1 = exP (lv + 1) y := by rw [← HKS.out]; show exP (kidLev 19 m (0 + 1)) y = _; rw [HKL.out]; rfl
      obtain ⟨p, hp⟩ : ∃ p, exP lf x = p := ⟨_, rfl⟩; obtain ⟨q, hq⟩ : ∃ q, exP (lv + 1) y = q := ⟨_, rfl⟩; have hpl := exP_len x lf; have hql := exP_len y (lv + 1); rw [hk0, hk1, hp, hq] at HT; rw [hp] at hpl; rw [hq] at hql; have HPp := Z_ hp; have HPq := Z_ hq; have hN22 : N = 2 := HN2.out; subst hN22; have hsz : szL [x, y] = szF x + szF y := by simp only [szL]; omega
      have hlfr2 := HLFR.out hlv; have hlv2 : lv ≤ 2 := by omega
      have hwl : wrap64 (lv + 1) = lv + 1 := IntWalk.wrap64_in _ (by omega); have hi0 : (0 : Int) < (2 : Int) := by decide
      have hi1 : (1 : Int) < (2 : Int) := by decide
      clear hN2 hk0 hk1 hp hq; obtain ⟨b, o, k1, t1, m1, a1, n1, c1, ha, hu, q0, q1, q2, q3⟩ := kid_at HB.out.f.pw.ext HI.out 0 (by simp); subst ha; simp only [Nat.zero_mul, Nat.add_zero] at q0 q1 q2 q3; have HIK := Z_ (HIH.out x (by simp) _ _ _ _ (lf) HB.out.f.pw hu (by have h9 := HLEN.out; first | omega | (simp at h9 ⊢; omega)) (by have := hlfr2; omega) (by have := hlfr2; omega)); rw [HPp.out] at HIK; have hbc := HB.out.nb.cell; clear hu; go_wp2_with fail
      clear hbc q0 q1 q2 q3; refine HIK.out.mono ?_
      rintro e w3 ⟨⟨row3, hF3⟩, he⟩; replace HB := Z_ (HB.out.call hF3).assoc; clear hF3 HIK; obtain ⟨pb, pw⟩ := p; cases pb with
      | false =>
       obtain rfl : e = _ := he; simp only [Bool.false_eq_true, if_false]; go_wp2_with fail
       exact ppost_bad (by rw [← HT.out, then_bad]) HB.out.f
      | true =>
       obtain rfl : e = _ := he; rw [then_ok] at HT; simp only [if_true]; go_wp2_with fail
       refine (say_new HB.out.f.pw [sg] _ rfl 1 rfl (by decide) (by have h9 := HLEN.out; first | omega | (simp at h9 ⊢; omega))).mono ?_
       rintro e w8 ⟨rfl, row8, hF8⟩; replace HB := Z_ (HB.out.call hF8).assoc; clear hF8; rw [then_say] at HT; obtain ⟨b, o, k1, t1, m1, a1, n1, c1, ha, hu, q0, q1, q2, q3⟩ := kid_at HB.out.f.pw.ext HI.out 1 (by simp); cases ha
       simp only [Nat.one_mul] at q0 q1 q2 q3; have HIK := Z_ (HIH.out y (by simp) _ _ _ _ (lv + 1) HB.out.f.pw hu (by have h9 := HLEN.out; first | omega | (simp at h9 ⊢; omega)) (by have := hlfr2; omega) (by have := hlfr2; omega)); rw [HPq.out] at HIK; have hbc := HB.out.nb.cell; clear hu; go_wp2_with fail
       clear hbc q0 q1 q2 q3; refine HIK.out.mono ?_
       rintro e w3 ⟨⟨row3, hF3⟩, he⟩; replace HB := Z_ (HB.out.call hF3).assoc; clear hF3 HIK; obtain ⟨qb, qw⟩ := q; cases qb with
       | false =>
        obtain rfl : e = _ := he; simp only [Bool.false_eq_true, if_false]; rw [then_one (false, qw)] at HT; go_wp2_with fail
        exact ppost_bad (by rw [← HT.out, then_bad]) HB.out.f
       | true =>
        obtain rfl : e = _ := he; rw [then_one (true, qw)] at HT; rw [then_ok] at HT; simp only [if_true]; go_wp2_with fail
        exact ⟨_, results_none rfl _ _ _, ppost_ok (by rw [← HT.out, then_nil]) HB.out.f⟩
   ·have hlvd : decide (0 ≤ lv) = false := by simpa using hlv
    rw [hlvd, then_no] at HT; go_wp2_with fail
    refine (must_any false _).mono ?_
    rintro e w5 ⟨rfl, rfl⟩; simp only [Bool.false_eq_true, if_false]; go_wp2_with fail
    exact ppost_bad (by rw [← HT.out]) HB.out.f
 by_cases k20 : k = 20 ∨ k = 21
 ·rw [if_neg k19, if_pos k20] at hT
  rcases k20 with rfl | rfl
  ·clear k19
   obtain ⟨pb0, hpb⟩ : ∃ pb, plainB t m N 1 1 0 = pb := ⟨_, rfl⟩; have HT := Z_ (show PO.then (true, []) ((mustP pb0).then ((sayP [sMinus]).then ((kidP ks 0).then (sayP [])))) = T by rw [← hT, hpb, ← then_one (kidP ks 0), ← then_start]; rfl); have HPL := Z_ (fun w => plain_any 20 m t a N cc 1 1 0 w); rw [hpb] at HPL; have HPB := Z_ hpb; clear hT hpb; go_enter_defers Tryz.func231, Tryz.ntmps231
   go_upto_region 1 with (fail)
   try rw [hNb]
   generalize u.alloc (.cells #[.int .i64 20, .string t, .int .i64 m, .slice a N cc] 66) = u0 at *; clear hNb; have hbc := HB.out.nb.cell; go_wp2_with fail
   try clear hbc
   refine (HPL.out _).mono ?_
   rintro e w3 ⟨he, hE3⟩; replace HB := Z_ (HB.out.extend hE3); clear hE3; cases pb0 with
   | false =>
    obtain rfl : e = _ := he; simp only [Bool.false_eq_true, if_false]; go_wp2_with fail
    exact ppost_bad (by rw [← HT.out, then_no]) HB.out.f
   | true =>
    obtain rfl : e = _ := he; rw [then_yes] at HT; simp only [if_true]; have HN1 := Z_ (show N = 1 from by have h := plain_n HPB.out; omega); have hbc := HB.out.nb.cell; go_wp2_with fail
    try clear hbc
    refine (say_new HB.out.f.pw [sMinus] _ rfl 1 rfl (by decide) (by have h9 := HLEN.out; first | omega | (simp at h9 ⊢; omega))).mono ?_
    rintro e w3 ⟨rfl, row3, hF3⟩; replace HB := Z_ (HB.out.call hF3).assoc; clear hF3; rw [then_say] at HT; have hN1 : l.length = 1 := by have h1 := HN.out; have h2 := HN1.out; omega
    obtain ⟨x, rfl⟩ : ∃ x, l = [x] := by match l, hN1 with | [x], _ => exact ⟨x, rfl⟩
    have hk0 : kidP ks 0 = exP 3 x := by rw [← HKS.out]; rfl
    obtain ⟨p, hp⟩ : ∃ p, exP 3 x = p := ⟨_, rfl⟩; have hpl := exP_len x (3); rw [hk0, hp] at HT; rw [hp] at hpl; have HPK := Z_ hp; have hN2 : N = 1 := by rw [← HN.out]; rfl
    subst hN2; have hsz : szL [x] = szF x := by simp only [szL]; omega
    clear hN1 hk0 hp; obtain ⟨b, o, k1, t1, m1, a1, n1, c1, ha, hu, q0, q1, q2, q3⟩ := kid_at HB.out.f.pw.ext HI.out 0 (by simp); subst ha; simp only [Nat.zero_mul, Nat.add_zero] at q0 q1 q2 q3; have HIK := Z_ (HIH.out x (by simp) _ _ _ _ 3 HB.out.f.pw hu (by have h9 := HLEN.out; first | omega | (simp at h9 ⊢; omega)) (by decide) (by decide)); rw [HPK.out] at HIK; have hbc := HB.out.nb.cell; clear hu; go_wp2_with fail
    try clear hbc
    clear q0 q1 q2 q3; obtain ⟨pb, pw⟩ := p; refine HIK.out.mono ?_
    rintro e w3 ⟨⟨row3, hF3⟩, he⟩; replace HB := Z_ (HB.out.call hF3).assoc; clear hF3; cases pb with
    | false =>
     obtain rfl : e = _ := he; simp only [Bool.false_eq_true, if_false]; go_wp2_with fail
     exact ppost_bad (by rw [← HT.out, then_bad]) HB.out.f
    | true =>
     obtain rfl : e = _ := he; rw [then_ok] at HT; simp only [if_true]; go_wp2_with fail
     exact ⟨_, results_none rfl _ _ _, ppost_ok (by rw [← HT.out, then_nil]) HB.out.f⟩
  ·clear k19
   obtain ⟨pb0, hpb⟩ : ∃ pb, plainB t m N 1 1 0 = pb := ⟨_, rfl⟩; have HT := Z_ (show PO.then (true, []) ((mustP pb0).then ((sayP [sNot]).then ((kidP ks 0).then (sayP [])))) = T by rw [← hT, hpb, ← then_one (kidP ks 0), ← then_start]; rfl); have HPL := Z_ (fun w => plain_any 21 m t a N cc 1 1 0 w); rw [hpb] at HPL; have HPB := Z_ hpb; clear hT hpb; go_enter_defers Tryz.func231, Tryz.ntmps231
   go_upto_region 1 with (fail)
   try rw [hNb]
   generalize u.alloc (.cells #[.int .i64 21, .string t, .int .i64 m, .slice a N cc] 66) = u0 at *; clear hNb; have hbc := HB.out.nb.cell; go_wp2_with fail
   try clear hbc
   refine (HPL.out _).mono ?_
   rintro e w3 ⟨he, hE3⟩; replace HB := Z_ (HB.out.extend hE3); clear hE3; cases pb0 with
   | false =>
    obtain rfl : e = _ := he; simp only [Bool.false_eq_true, if_false]; go_wp2_with fail
    exact ppost_bad (by rw [← HT.out, then_no]) HB.out.f
   | true =>
    obtain rfl : e = _ := he; rw [then_yes] at HT; simp only [if_true]; have HN1 := Z_ (show N = 1 from by have h := plain_n HPB.out; omega); have hbc := HB.out.nb.cell; go_wp2_with fail
    try clear hbc
    refine (say_new HB.out.f.pw [sNot] _ rfl 1 rfl (by decide) (by have h9 := HLEN.out; first | omega | (simp at h9 ⊢; omega))).mono ?_
    rintro e w3 ⟨rfl, row3, hF3⟩; replace HB := Z_ (HB.out.call hF3).assoc; clear hF3; rw [then_say] at HT; have hN1 : l.length = 1 := by have h1 := HN.out; have h2 := HN1.out; omega
    obtain ⟨x, rfl⟩ : ∃ x, l = [x] := by match l, hN1 with | [x], _ => exact ⟨x, rfl⟩
    have hk0 : kidP ks 0 = exP 3 x := by rw [← HKS.out]; rfl
    obtain ⟨p, hp⟩ : ∃ p, exP 3 x = p := ⟨_, rfl⟩; have hpl := exP_len x (3); rw [hk0, hp] at HT; rw [hp] at hpl; have HPK := Z_ hp; have hN2 : N = 1 := by rw [← HN.out]; rfl
    subst hN2; have hsz : szL [x] = szF x := by simp only [szL]; omega
    clear hN1 hk0 hp; obtain ⟨b, o, k1, t1, m1, a1, n1, c1, ha, hu, q0, q1, q2, q3⟩ := kid_at HB.out.f.pw.ext HI.out 0 (by simp); subst ha; simp only [Nat.zero_mul, Nat.add_zero] at q0 q1 q2 q3; have HIK := Z_ (HIH.out x (by simp) _ _ _ _ 3 HB.out.f.pw hu (by have h9 := HLEN.out; first | omega | (simp at h9 ⊢; omega)) (by decide) (by decide)); rw [HPK.out] at HIK; have hbc := HB.out.nb.cell; clear hu; go_wp2_with fail
    try clear hbc
    clear q0 q1 q2 q3; obtain ⟨pb, pw⟩ := p; refine HIK.out.mono ?_
    rintro e w3 ⟨⟨row3, hF3⟩, he⟩; replace HB := Z_ (HB.out.call hF3).assoc; clear hF3; cases pb with
    | false =>
     obtain rfl : e = _ := he; simp only [Bool.false_eq_true, if_false]; go_wp2_with fail
     exact ppost_bad (by rw [← HT.out, then_bad]) HB.out.f
    | true =>
     obtain rfl : e = _ := he; rw [then_ok] at HT; simp only [if_true]; go_wp2_with fail
     exact ⟨_, results_none rfl _ _ _, ppost_ok (by rw [← HT.out, then_nil]) HB.out.f⟩
 by_cases k15 : k = 15
 ·subst k15
  rw [if_neg (by decide), if_neg (by decide), if_pos rfl] at hT; obtain ⟨cb, hcb⟩ : ∃ cb, (decide (t = noText) && decide (0 ≤ m) && decide (N = 0)) = cb := ⟨_, rfl⟩; rw [hcb] at hT; have HCB := Z_ hcb; have HT := Z_ (show PO.then (true, []) ((mustP cb).then ((sayP [digW m]).then (sayP []))) = T by rw [← hT, ← then_one (sayP [digW m]), ← then_start]); clear hT hcb k19 k20; go_enter_defers Tryz.func231, Tryz.ntmps231
  go_upto_region 1 with (fail)
  try rw [hNb]
  generalize u.alloc (.cells #[.int .i64 15, .string t, .int .i64 m, .slice a N cc] 66) = u0 at *; clear hNb; have hbc := HB.out.nb.cell; go_wp2_with fail
  all_goals
   refine (must_any _ _).mono ?_
   rintro e w9 ⟨he, rfl⟩; split at he
   ·rename_i hyes
    first
    | (cases hyes; done)
    | subst he
      have hb : cb = true := by rw [← HCB.out]; clear hbc; unfold noText; simp only [text_nil] at *; first | (simp_all; done) | (simp_all; omega)
      subst hb; rw [then_yes] at HT; have hm0 : 0 ≤ m := by have h := HCB.out; simp only [Bool.and_eq_true, decide_eq_true_eq] at h; exact h.1.2
      have HFI := Z_ (Tryz.strconv_FormatInt_10 m (by omega) HMI.out.2 _ (tab_ext HTAB.out HB.out.f.pw.ext))
      try clear hbc
      have hbc := HB.out.nb.cell; go_wp2_with fail
      clear hbc; refine HFI.out.mono ?_
      rintro e w3 ⟨rfl, kk, os, rfl⟩; replace HB := Z_ (HB.out.extend (Below.toExt (Lib.below_grow _ _ (Nat.le_refl _) kk os))); clear HFI; generalize Sort.grow (w9.drewN kk) os = w4 at *; go_wp2_with fail
      refine (say_new HB.out.f.pw [digW m] _ rfl 1 rfl (by decide) (by have h9 := HLEN.out; first | omega | (simp at h9 ⊢; omega))).mono ?_
      rintro e w3 ⟨rfl, row3, hF3⟩; replace HB := Z_ (HB.out.call hF3).assoc; clear hF3; rw [then_say] at HT; go_wp2_with fail
      exact ⟨_, results_none rfl _ _ _, ppost_ok (by rw [← HT.out, then_nil]) HB.out.f⟩
   ·rename_i hno
    subst he; have hb : cb = false := by rw [← HCB.out]; clear hbc; unfold noText; simp only [text_nil] at *; first | (simp_all; done) | (simp_all; omega)
    subst hb; go_wp2_with fail
    exact ppost_bad (by rw [← HT.out, then_no]) HB.out.f
 by_cases k17 : k = 17
 ·subst k17
  rw [if_neg (by decide), if_neg (by decide), if_neg (by decide), if_pos rfl] at hT; have HT := Z_ (show PO.then (true, []) ((wholeP t m N 1 1).then ((sayP [sBra]).then ((kidP ks 0).then ((sayP [sKet]).then (sayP []))))) = T by rw [← hT, ← then_one (sayP [sKet]), ← then_start]); clear hT k19 k20 k15; go_enter_defers Tryz.func231, Tryz.ntmps231
  go_upto_region 1 with (fail)
  try rw [hNb]
  generalize u.alloc (.cells #[.int .i64 17, .string t, .int .i64 m, .slice a N cc] 66) = u0 at *; clear hNb; have hbc := HB.out.nb.cell; go_wp2_with fail
  try clear hbc
  obtain ⟨q, hq⟩ : ∃ q, wholeP t m N 1 1 = q := ⟨_, rfl⟩; have HWH := Z_ (whole_any HB.out.f.pw HV.out HMV.out 17 m t a N cc 1 1 HTS.out (by have h9 := HLEN.out; first | omega | (simp at h9 ⊢; omega))); rw [hq] at HT HWH; have HWQ := Z_ hq; clear hq; refine HWH.out.mono ?_
  rintro e w3 ⟨⟨row3, hF3⟩, he⟩; replace HB := Z_ (HB.out.call hF3).assoc; clear hF3; obtain ⟨qb, qw⟩ := q; cases qb with
  | false =>
   obtain rfl : e = _ := he; simp only [Bool.false_eq_true, if_false]; go_wp2_with fail
   exact ppost_bad (by rw [← HT.out, then_bad]) HB.out.f
  | true =>
   obtain rfl : e = _ := he; rw [then_ok] at HT; simp only [if_true]; have hql := whole_le t m N (1) (1); rw [HWQ.out] at hql; replace hql : qw.length ≤ 3 := hql; have HN1 := Z_ (show N = 1 from by have h := HWQ.out; unfold wholeP at h; cases hw : wholeB t m N 1 1 with | false => (rw [hw] at h; cases h) | true => (have h2 := whole_n hw; omega)); go_wp2_with fail
   try clear hbc
   refine (say_new HB.out.f.pw [sBra] _ rfl 1 rfl (by decide) (by have h9 := HLEN.out; first | omega | (simp at h9 ⊢; omega))).mono ?_
   rintro e w3 ⟨rfl, row3, hF3⟩; replace HB := Z_ (HB.out.call hF3).assoc; clear hF3; rw [then_say] at HT; have hN1 : l.length = 1 := by have h1 := HN.out; have h2 := HN1.out; omega
   obtain ⟨x, rfl⟩ : ∃ x, l = [x] := by match l, hN1 with | [x], _ => exact ⟨x, rfl⟩
   have hk0 : kidP ks 0 = exP 0 x := by rw [← HKS.out]; rfl
   obtain ⟨p, hp⟩ : ∃ p, exP 0 x = p := ⟨_, rfl⟩; have hpl := exP_len x (0); rw [hk0, hp] at HT; rw [hp] at hpl; have HPK := Z_ hp; have hN2 : N = 1 := by rw [← HN.out]; rfl
   subst hN2; have hsz : szL [x] = szF x := by simp only [szL]; omega
   clear hN1 hk0 hp; obtain ⟨b, o, k1, t1, m1, a1, n1, c1, ha, hu, q0, q1, q2, q3⟩ := kid_at HB.out.f.pw.ext HI.out 0 (by simp); subst ha; simp only [Nat.zero_mul, Nat.add_zero] at q0 q1 q2 q3; have HIK := Z_ (HIH.out x (by simp) _ _ _ _ 0 HB.out.f.pw hu (by have h9 := HLEN.out; first | omega | (simp at h9 ⊢; omega)) (by decide) (by decide)); rw [HPK.out] at HIK; have hbc := HB.out.nb.cell; clear hu; go_wp2_with fail
   try clear hbc
   clear q0 q1 q2 q3; obtain ⟨pb, pw⟩ := p; refine HIK.out.mono ?_
   rintro e w3 ⟨⟨row3, hF3⟩, he⟩; replace HB := Z_ (HB.out.call hF3).assoc; clear hF3; cases pb with
   | false =>
    obtain rfl : e = _ := he; simp only [Bool.false_eq_true, if_false]; go_wp2_with fail
    exact ppost_bad (by rw [← HT.out, then_bad]) HB.out.f
   | true =>
    obtain rfl : e = _ := he; rw [then_ok] at HT; simp only [if_true]; go_wp2_with fail
    try clear hbc
    refine (say_new HB.out.f.pw [sKet] _ rfl 1 rfl (by decide) (by have h9 := HLEN.out; first | omega | (simp at h9 ⊢; omega))).mono ?_
    rintro e w3 ⟨rfl, row3, hF3⟩; replace HB := Z_ (HB.out.call hF3).assoc; clear hF3; rw [then_say] at HT; go_wp2_with fail
    exact ⟨_, results_none rfl _ _ _, ppost_ok (by rw [← HT.out, then_nil]) HB.out.f⟩
 by_cases k18 : k = 18
 ·subst k18
  rw [if_neg (by decide), if_neg (by decide), if_neg (by decide), if_neg (by decide), if_pos rfl] at hT; have HT := Z_ (show PO.then (true, []) ((wholeP t m N 0 (-1)).then ((sayP [sOpen]).then ((comP ks true).then ((sayP [sClose]).then (sayP []))))) = T by rw [← hT, ← then_one (sayP [sClose]), ← then_start]); clear hT k19 k20 k15 k17; go_enter_defers Tryz.func231, Tryz.ntmps231
  go_upto_region 1 with (fail)
  try rw [hNb]
  generalize u.alloc (.cells #[.int .i64 18, .string t, .int .i64 m, .slice a N cc] 66) = u0 at *; clear hNb; have hbc := HB.out.nb.cell; go_wp2_with fail
  try clear hbc
  obtain ⟨q, hq⟩ : ∃ q, wholeP t m N 0 (-1) = q := ⟨_, rfl⟩; have HWH := Z_ (whole_any HB.out.f.pw HV.out HMV.out 18 m t a N cc 0 (-1) HTS.out (by have h9 := HLEN.out; first | omega | (simp at h9 ⊢; omega))); rw [hq] at HT HWH; have HWQ := Z_ hq; clear hq; refine HWH.out.mono ?_
  rintro e w3 ⟨⟨row3, hF3⟩, he⟩; replace HB := Z_ (HB.out.call hF3).assoc; clear hF3; obtain ⟨qb, qw⟩ := q; cases qb with
  | false =>
   obtain rfl : e = _ := he; simp only [Bool.false_eq_true, if_false]; go_wp2_with fail
   exact ppost_bad (by rw [← HT.out, then_bad]) HB.out.f
  | true =>
   obtain rfl : e = _ := he; rw [then_ok] at HT; simp only [if_true]; have hql := whole_le t m N (0) ((-1)); rw [HWQ.out] at hql; replace hql : qw.length ≤ 3 := hql; go_wp2_with fail
   try clear hbc
   refine (say_new HB.out.f.pw [sOpen] _ rfl 1 rfl (by decide) (by have h9 := HLEN.out; first | omega | (simp at h9 ⊢; omega))).mono ?_
   rintro e w3 ⟨rfl, row3, hF3⟩; replace HB := Z_ (HB.out.call hF3).assoc; clear hF3; rw [then_say] at HT; have hbc := HB.out.nb.cell; go_upto_region 37 with (fail)
   go_wp2_with fail
   clear hbc; have HLN := Z_ (show acc.length + ([] ++ qw ++ [sOpen]).length + 12 * szL l + 8 ≤ 1000000 from by have h9 := HLEN.out; simp; omega); generalize [] ++ qw ++ [sOpen] = ws0 at *; go_loopw [135] (fun i wr => ∃ (j : Nat) (ws : List ByteArray) (r : Value), j ≤ N ∧ i = .int .i64 (j : Nat) ∧ Hid (PO.then (true, ws) ((comP (ks.drop j) (decide (j = 0))).then ((sayP [sClose]).then (sayP []))) = T) ∧ Hid (PB W u wr S Nb row r (acc ++ ws) #[.int .i64 18, .string t, .int .i64 m, .slice a N cc]) ∧ Hid (acc.length + ws.length + 12 * szL (l.drop j) + 8 ≤ 1000000)) (fun i _ => N - (intOf i).toNat)
   case atStart => exact ⟨0, ws0, _, Nat.zero_le _, rfl, by rw [List.drop_zero]; exact HT, HB, by rw [List.drop_zero]; exact HLN⟩
   clear HT HB HLN
   case round =>
    obtain ⟨j, ws, r, hj, rfl, HT, HB, HLN⟩ := hrel; by_cases hlt : j < N
    ·have hji : (j : Int) < (N : Int) := by omega
     have hjd : decide ((j : Int) < (N : Int)) = true := by simpa using hji
     have hjl : j < l.length := by rw [HN.out]; exact hlt
     obtain ⟨b, o, k1, t1, m1, a1, n1, c1, ha, hu, q0, q1, q2, q3⟩ := kid_at HB.out.f.pw.ext HI.out j hjl; subst ha; have hdr := exK_drop 18 m l 0 j hjl; rw [HKS.out, show kidLev 18 m (0 + j) = 0 from rfl] at hdr; have hih := HIH.out l[j] (List.getElem_mem hjl); have hpl := exP_len l[j] 0; have hln := HLN.out; rw [List.drop_eq_getElem_cons hjl] at hln; simp only [szL] at hln; generalize l[j] = x at *; obtain ⟨p, hp⟩ : ∃ p, exP 0 x = p := ⟨_, rfl⟩; rw [hp] at hdr hpl; have HPK := Z_ hp; rw [hdr, comP] at HT; simp only [then_assoc] at HT; have HLN2 := Z_ hln; obtain ⟨K, hK⟩ : ∃ K, wr.heap.size = K := ⟨_, rfl⟩; have HKB := Z_ (show Blk (wr.alloc (.cells #[.int .i64 k1, .string t1, .int .i64 m1, .slice a1 n1 c1] 66)) K #[.int .i64 k1, .string t1, .int .i64 m1, .slice a1 n1 c1] 66 by rw [← hK]; exact Blk.made wr _ _); have HKS2 := Z_ (show S < K ∧ ∀ i, r.ownBlock = some i → i < K from ⟨by rw [← hK]; exact HB.out.f.pw.s.lt, fun i e => by rw [← hK]; exact (HB.out.f.pw.own i e).2⟩)
     replace HB := Z_ (HB.out.extend ((Chg.refl (fun _ => False) wr).alloc (.cells #[.int .i64 k1, .string t1, .int .i64 m1, .slice a1 n1 c1] 66))); clear hp hdr hln HLN; go_upto_region 39 with (fail)
     try rw [hK]
     generalize wr.alloc (.cells #[.int .i64 k1, .string t1, .int .i64 m1, .slice a1 n1 c1] 66) = u5 at *; clear q0 q1 q2 q3 hK; have HFIN := Z_ (fun (ws2 : List ByteArray) (r2 : Value) (w : World) (HT : Hid (PO.then (true, ws2) (p.then ((comP (ks.drop (j + 1)) false).then ((sayP [sClose]).then (sayP [])))) = T)) (HL : ws2.length ≤ ws.length + 1) (HB : Hid (PB W u w S Nb row r2 (acc ++ ws2) #[.int .i64 18, .string t, .int .i64 m, .slice (some ⟨b, o, none⟩) N cc])) => hih _ w r2 (acc ++ ws2) 0 HB.out.f.pw hu (by have := HLN2.out; rw [List.length_append]; omega) (by decide) (by decide)); rw [HPK.out] at HFIN; obtain ⟨pb, pw⟩ := p; by_cases hj0 : j = 0
     ·have hdj : decide (j = 0) = true := by simpa using hj0
      have hjp : ¬ (0 : Int) < (j : Int) := by omega
      have hjpd : decide ((0 : Int) < (j : Int)) = false := by simpa using hjp
      rw [hdj, show (if true = true then ([] : List ByteArray) else [sComma]) = [] from rfl, then_say] at HT; replace HB := Z_ HB.out.nil; rw [List.append_assoc] at HB; have HIK := Z_ (HFIN.out (ws ++ []) r _ HT (by simp) HB); clear HFIN; have hkc := HKB.out.cell; go_wp2_with fail
      clear hkc; refine HIK.out.mono ?_
      rintro e w3 ⟨⟨row3, hF3⟩, he⟩; replace HB := Z_ (HB.out.call hF3).assoc; clear hF3 HIK; cases pb with
      | false =>
       obtain rfl : e = _ := he; simp only [Bool.false_eq_true, if_false]; go_wp2_with fail
       exact ppost_bad (by rw [← HT.out, then_bad]) HB.out.f
      | true =>
       obtain rfl : e = _ := he; rw [then_ok] at HT; simp only [if_true]; go_wp2_with fail
       go_roundw
       case rel => exact ⟨j + 1, _, row3, by omega, by go_num, by rw [show decide (j + 1 = 0) = false from by simp]; exact HT, HB, Z_ (by have h1 := HLN2.out; have h2 : pw.length + 1 ≤ 12 * szF x := hpl; simp only [List.length_append, List.length_nil]; omega)⟩
       case measure => simp [intOf]; omega
     ·have hdj : decide (j = 0) = false := by simpa using hj0
      have hjp : (0 : Int) < (j : Int) := by omega
      have hjpd : decide ((0 : Int) < (j : Int)) = true := by simpa using hjp
      rw [hdj, show (if false = true then ([] : List ByteArray) else [sComma]) = [sComma] from rfl, then_say] at HT; go_wp2_with fail
      refine (say_new HB.out.f.pw [sComma] _ rfl 1 rfl (by decide) (by have h9 := HLN2.out; rw [List.length_append]; omega)).mono ?_
      rintro e w6 ⟨rfl, row6, hF6⟩; replace HKB := Z_ (HKB.out.chg hF6.chg (fun e => by have h1 := HKS2.out; rcases e with e | e; omega; have := h1.2 _ e; omega)); replace HB := Z_ (HB.out.call hF6).assoc; clear hF6; have HIK := Z_ (HFIN.out (ws ++ [sComma]) row6 _ HT (by simp) HB); clear HFIN; have hkc := HKB.out.cell; go_wp2_with fail
      clear hkc; refine HIK.out.mono ?_
      rintro e w3 ⟨⟨row3, hF3⟩, he⟩; replace HB := Z_ (HB.out.call hF3).assoc; clear hF3 HIK; cases pb with
      | false =>
       obtain rfl : e = _ := he; simp only [Bool.false_eq_true, if_false]; go_wp2_with fail
       exact ppost_bad (by rw [← HT.out, then_bad]) HB.out.f
      | true =>
       obtain rfl : e = _ := he; rw [then_ok] at HT; simp only [if_true]; go_wp2_with fail
       go_roundw
       case rel => exact ⟨j + 1, _, row3, by omega, by go_num, by rw [show decide (j + 1 = 0) = false from by simp]; exact HT, HB, Z_ (by have h1 := HLN2.out; have h2 : pw.length + 1 ≤ 12 * szF x := hpl; simp only [List.length_append, List.length_cons, List.length_nil]; omega)⟩
       case measure => simp [intOf]; omega
    ·obtain rfl : j = N := by omega
     have hjd : decide ((j : Int) < (j : Int)) = false := by simp
     rw [List.drop_of_length_le (by rw [← HKS.out, exK_size, HN.out]; exact Nat.le_refl _)] at HT; simp only [comP] at HT; rw [then_say, List.append_nil] at HT; go_wp2_with fail
     try clear hbc
     refine (say_new HB.out.f.pw [sClose] _ rfl 1 rfl (by decide) (by have h9 := HLN.out; rw [List.length_append]; omega)).mono ?_
     rintro e w3 ⟨rfl, row3, hF3⟩; replace HB := Z_ (HB.out.call hF3).assoc; clear hF3; rw [then_say] at HT; go_wp2_with fail
     exact ⟨_, results_none rfl _ _ _, ppost_ok (by rw [← HT.out, then_nil]) HB.out.f⟩
 rw [if_neg k19, if_neg k20, if_neg k15, if_neg k17, if_neg k18] at hT; have HT := Z_ (show PO.then (true, []) ((mustP (decide (k = 16))).then ((wholeP t m N 0 0).then (sayP []))) = T by rw [← hT, ← then_one, ← then_start]); have b19 : (k == 19) = false := beq_eq_false_iff_ne.2 k19; have b20 : (k == 20) = false := beq_eq_false_iff_ne.2 (fun e => k20 (.inl e)); have b21 : (k == 21) = false := beq_eq_false_iff_ne.2 (fun e => k20 (.inr e)); have b15 : (k == 15) = false := beq_eq_false_iff_ne.2 k15; have b17 : (k == 17) = false := beq_eq_false_iff_ne.2 k17; have b18 : (k == 18) = false := beq_eq_false_iff_ne.2 k18; clear hT k19 k20 k15 k17 k18; go_enter_defers Tryz.func231, Tryz.ntmps231
 go_upto_region 1 with (fail)
 try rw [hNb]
 generalize u.alloc (.cells #[.int .i64 k, .string t, .int .i64 m, .slice a N cc] 66) = u0 at *; clear hNb; have hbc := HB.out.nb.cell; obtain ⟨bb, hbb⟩ : ∃ bb, (k == 16) = bb := ⟨_, rfl⟩; have HBB := Z_ (show decide (k = 16) = bb from by rw [← hbb]; by_cases e : k = 16 <;> simp [e]); rw [HBB.out] at HT; go_wp2_with fail
 refine (must_any bb _).mono ?_
 rintro e w3 ⟨rfl, rfl⟩; cases bb with
 | false =>
  simp only [Bool.false_eq_true, if_false]; go_wp2_with fail
  exact ppost_bad (by rw [← HT.out, then_no]) HB.out.f
 | true =>
  rw [then_yes] at HT; simp only [if_true]; go_wp2_with fail
  try clear hbc
  obtain ⟨q, hq⟩ : ∃ q, wholeP t m N 0 0 = q := ⟨_, rfl⟩; have HWH := Z_ (whole_any HB.out.f.pw HV.out HMV.out k m t a N cc 0 0 HTS.out (by have h9 := HLEN.out; first | omega | (simp at h9 ⊢; omega))); rw [hq] at HT HWH; have HWQ := Z_ hq; clear hq; refine HWH.out.mono ?_
  rintro e w3 ⟨⟨row3, hF3⟩, he⟩; replace HB := Z_ (HB.out.call hF3).assoc; clear hF3; obtain ⟨qb, qw⟩ := q; cases qb with
  | false =>
   obtain rfl : e = _ := he; simp only [Bool.false_eq_true, if_false]; go_wp2_with fail
   exact ppost_bad (by rw [← HT.out, then_bad]) HB.out.f
  | true =>
   obtain rfl : e = _ := he; rw [then_ok] at HT; simp only [if_true]; have hql := whole_le t m N (0) (0); rw [HWQ.out] at hql; replace hql : qw.length ≤ 3 := hql; go_wp2_with fail
   exact ⟨_, results_none rfl _ _ _, ppost_ok (by rw [← HT.out, then_nil]) HB.out.f⟩
end prt
end Go.Proofs.YtpcihajmcejliabGreatDoor
