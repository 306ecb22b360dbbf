/- What the printer comes to, in plain Lean: whether it goes on, and the words so far. The printer's state, and the walks of its least functions. The walks of the printer's whole, label and pub. -/
import Derived.Lib.ItoaNum
import Derived.Lib.CutLaws
import Derived.Lib.IndexBytes
import Derived.Laws.Strings3
import Derived.Defers
import Derived.Test.YtpcihajmcejliabGreatDoorSyn11
import Derived.Test.YtpcihajmcejliabGreatDoorName
namespace Go.Proofs.YtpcihajmcejliabGreatDoor
open Go.RowKit
abbrev PO := Bool × List ByteArray
def PO.then (a b : PO) : PO := if a.1 = true then (b.1, a.2 ++ b.2) else a
def sayP (l : List ByteArray) : PO := (true, l)
def mustP (b : Bool) : PO := (b, [])
def wrapP (b : Bool) (p : PO) : PO := if b = true then (p.1, sOpen :: p.2 ++ [sClose]) else p
def signF (m : Int) : ByteArray × Int :=
 if m = 9 then (⟨#[61, 61]⟩, 0) else if m = 8 then (⟨#[60]⟩, 0) else if m = 1 then (⟨#[43]⟩, 1) else if m = 2 then (⟨#[45]⟩, 1) else if m = 7 then (⟨#[124]⟩, 1)
 else if m = 3 then (⟨#[42]⟩, 2) else if m = 4 then (⟨#[47]⟩, 2) else if m = 5 then (⟨#[37]⟩, 2) else if m = 6 then (⟨#[38]⟩, 2) else (noText, -1)
def labW (b : Bool) : ByteArray := if b = true then sHigh else sLow
def kidsB (m : Int) (n : Nat) (least most num : Int) : Bool := decide (0 ≤ m) && decide (m ≤ num) && decide (least ≤ (n : Int)) && (decide (most < 0) || decide ((n : Int) ≤ most))
def plainB (t : ByteArray) (m : Int) (n : Nat) (least most num : Int) : Bool := decide (t = noText) && kidsB m n least most num
def namedB (t : ByteArray) (m : Int) (n : Nat) (least most num : Int) : Bool := nameB t.data.toList && kidsB m n least most num
def cutB (t : ByteArray) : ByteArray × ByteArray × Bool := (⟨(Lib.cut t.data.toList [46]).1.toArray⟩, ⟨(Lib.cut t.data.toList [46]).2.1.toArray⟩, (Lib.cut t.data.toList [46]).2.2)
def wholeB (t : ByteArray) (m : Int) (n : Nat) (least most : Int) : Bool := nameB (cutB t).1.data.toList && (!(cutB t).2.2 || nameB (cutB t).2.1.data.toList) && kidsB m n least most 0
def wholeW (t : ByteArray) : List ByteArray := (cutB t).1 :: if (cutB t).2.2 = true then [sDot, (cutB t).2.1] else []
def wholeP (t : ByteArray) (m : Int) (n : Nat) (least most : Int) : PO := (mustP (wholeB t m n least most)).then (sayP (wholeW t))
def digW (m : Int) : ByteArray := ⟨(Lib.itoa m).toArray⟩
def comP : List PO → Bool → PO
 | [], _ => sayP []
 | a :: r, f => (sayP (if f = true then [] else [sComma])).then (a.then (comP r false))
def seqP : List PO → PO
 | [] => sayP []
 | a :: r => a.then (seqP r)
def kidP (ks : List PO) (j : Nat) : PO := ks.getD j (sayP [])
def kidLev (k m : Int) (j : Nat) : Int :=
 if k = 19 then (if j = 0 then (if (signF m).2 = 0 then 1 else (signF m).2) else (signF m).2 + 1)
 else if k = 20 ∨ k = 21 then 3 else 0
def finP (k : Int) (t : ByteArray) (m : Int) (n : Nat) (least : Int) (ks : List PO) : PO :=
 if k = 19 then (mustP (plainB t 0 n 2 2 0)).then ((mustP (decide (0 ≤ (signF m).2))).then
  (wrapP (decide ((signF m).2 < least)) ((kidP ks 0).then ((sayP [(signF m).1]).then (kidP ks 1)))))
 else if k = 20 ∨ k = 21 then (mustP (plainB t m n 1 1 0)).then ((sayP [if k = 20 then sMinus else sNot]).then (kidP ks 0))
 else if k = 15 then (mustP (decide (t = noText) && decide (0 ≤ m) && decide (n = 0))).then (sayP [digW m])
 else if k = 17 then (wholeP t m n 1 1).then ((sayP [sBra]).then ((kidP ks 0).then (sayP [sKet])))
 else if k = 18 then (wholeP t m n 0 (-1)).then ((sayP [sOpen]).then ((comP ks true).then (sayP [sClose])))
 else (mustP (decide (k = 16))).then (wholeP t m n 0 0)
mutual
def exP : Int → Nd → PO
 | least, .mk k t m l => finP k t m l.length least (exK k m l 0)
def exK (k m : Int) : List Nd → Nat → List PO
 | [], _ => []
 | x :: r, j => exP (kidLev k m j) x :: exK k m r (j + 1)
end
def finS (k : Int) (t : ByteArray) (m : Int) (kd : Int) (ks : List (PO × PO)) : PO :=
 if k = 10 ∨ k = 11 then (mustP (plainB t m ks.length 2 (if k = 10 then 3 else 2) 0)).then ((sayP [if k = 10 then sIf else sWhile]).then
  ((sayP [sOpen]).then ((kidP (ks.map Prod.fst) 0).then ((sayP [sClose]).then ((kidP (ks.map Prod.snd) 1).then
   (if 2 < ks.length then (sayP [sElse]).then (kidP (ks.map Prod.snd) 2) else sayP []))))))
 else if k = 7 then (mustP (namedB t m ks.length 1 1 1)).then ((sayP [labW (decide (m = 1))]).then ((sayP [t, sEq]).then ((kidP (ks.map Prod.fst) 0).then (sayP [sSemi]))))
 else if k = 8 then (mustP (plainB t m ks.length 2 2 0)).then ((mustP (decide (kd = 16) || decide (kd = 17))).then ((kidP (ks.map Prod.fst) 0).then ((sayP [sEq]).then ((kidP (ks.map Prod.fst) 1).then (sayP [sSemi])))))
 else if k = 9 then (mustP (plainB t m ks.length 1 1 0)).then ((mustP (decide (kd = 18))).then ((sayP [sDo]).then ((kidP (ks.map Prod.fst) 0).then (sayP [sSemi]))))
 else if k = 12 ∨ k = 13 then (mustP (plainB t m ks.length 1 1 1)).then ((mustP (decide (k = 12) || (decide (kd = 16) || decide (kd = 17)))).then ((sayP [if k = 13 then sIn else sOut]).then
  ((sayP [labW (decide (m = 1))]).then ((kidP (ks.map Prod.fst) 0).then (sayP [sSemi])))))
 else (mustP (decide (k = 14))).then ((mustP (plainB t m ks.length 1 1 0)).then ((sayP [sReturn]).then ((kidP (ks.map Prod.fst) 0).then (sayP [sSemi]))))
def finB (k : Int) (t : ByteArray) (m : Int) (ks : List PO) : PO := (mustP (decide (k = 6))).then ((mustP (plainB t m ks.length 0 (-1) 0)).then ((sayP [sCurl]).then ((seqP ks).then (sayP [sLruc]))))
def kd0 (l : List Nd) : Int := (l.headD zeroN).kd
mutual
def stP : Nd → PO
 | .mk k t m l => finS k t m (kd0 l) (stK l)
def stK : List Nd → List (PO × PO)
 | [] => []
 | x :: r => (exP 0 x, blP x) :: stK r
def blP : Nd → PO
 | .mk k t m l => finB k t m (stL l)
def stL : List Nd → List PO
 | [] => []
 | x :: r => stP x :: stL r
end
def pubW (m : Int) : List ByteArray := if 2 ≤ m % 4 then [sPub] else []
def varP : Nd → PO
 | .mk _ t m l => (mustP (namedB t m l.length 0 1 3)).then ((sayP (pubW m)).then ((sayP [labW (decide (m % 2 = 1))]).then ((sayP [t]).then
   ((seqP (l.map fun x => (mustP (decide (x.kd = 15))).then ((sayP [sBra]).then ((exP 0 x).then (sayP [sKet]))))).then (sayP [sSemi])))))
def parP (i : Nat) (x : Nd) : PO := (mustP (decide (x.kd = 5))).then ((sayP (if 0 < i then [sComma] else [])).then ((mustP (namedB x.tx x.nm x.kids.length 0 0 1)).then ((sayP [labW (decide (x.nm = 1))]).then (sayP [x.tx]))))
def parsP : List Nd → Nat → PO
 | [], _ => sayP []
 | x :: r, i => (parP i x).then (parsP r (i + 1))
def procP : Nd → PO
 | .mk _ t m l => (mustP (namedB t m l.length 1 (-1) 11)).then ((sayP (pubW m)).then ((sayP [sProc, t, sOpen]).then ((parsP l.dropLast 0).then ((sayP [sClose]).then ((sayP [labW (decide (m % 2 = 1))]).then
   ((if 4 ≤ m then (sayP [sGives]).then (sayP [labW (decide (8 ≤ m))]) else sayP []).then (blP (l.getLastD zeroN))))))))
def declP (decls : Bool) (x : Nd) : PO :=
 if x.kd = 2 then (mustP (!decls)).then ((mustP (namedB x.tx x.nm x.kids.length 0 0 0)).then (sayP [sImport, x.tx, sSemi]))
 else if x.kd = 3 then varP x
 else (mustP (decide (x.kd = 4))).then (procP x)
def declsP : List Nd → Bool → PO
 | [], _ => sayP []
 | x :: r, d => (declP d x).then (declsP r (d || !decide (x.kd = 2)))
def modP : Nd → PO
 | .mk k t m l => (mustP (decide (k = 1))).then ((mustP (namedB t m l.length 0 (-1) 0)).then ((sayP [sModule, t, sSemi]).then (declsP l false)))
def printR (x : Nd) : ByteArray × Int :=
 if (weighF 16 x 0).1 = false then (noText, 1)
 else if (modP x).1 = false then (noText, 2)
 else if 3000 < (Lib.join ((modP x).2.map fun s => s.data.toList) [32]).length then (noText, 1)
 else (⟨(Lib.join ((modP x).2.map fun s => s.data.toList) [32]).toArray⟩, 0)
end Go.Proofs.YtpcihajmcejliabGreatDoor
namespace Go.Proofs.YtpcihajmcejliabGreatDoor
open Go.RowKit
namespace prt
open synw
def noneV : List PanicEntry := [{ v := .iface 164 (.agg #[]), recovered := false }]
structure PW (W u : World) (S : Nat) (row : Value) (acc : List ByteArray) : Prop where
 ext : Ext W u
 s : Blk u S #[row] 167
 row : u.ownsRow (S + 1) 9 1 row acc.length (acc.map fun s => .string s)
 hW : W.heap.size ≤ S
theorem PW.extend {W u u' : World} {S : Nat} {row : Value} {acc : List ByteArray} (h : PW W u S row acc) (hE : Ext u u') : PW W u' S row acc :=
 ⟨h.ext.ext hE, h.s.ext hE, ownsRow_ext h.row hE, h.hW⟩
theorem PW.own {W u : World} {S : Nat} {row : Value} {acc : List ByteArray} (h : PW W u S row acc) : ∀ i, row.ownBlock = some i → S + 1 ≤ i ∧ i < u.heap.size := fun i e => World.ownsRow.lt h.row i e
def LR (S : Nat) (row : Value) : Nat → Prop := fun i => i = S ∨ row.ownBlock = some i
structure PF (W u0 u : World) (S : Nat) (row0 row : Value) (acc : List ByteArray) : Prop where
 pw : PW W u S row acc
 chg : Chg (LR S row0) u0 u
 own : ∀ i, row.ownBlock = some i → row0.ownBlock = some i ∨ u0.heap.size ≤ i
theorem PF.refl {W u : World} {S : Nat} {row : Value} {acc : List ByteArray} (h : PW W u S row acc) : PF W u u S row row acc := ⟨h, Chg.refl _ _, fun _ e => .inl e⟩
theorem PF.extend {W u0 u u' : World} {S : Nat} {row0 row : Value} {acc : List ByteArray} (h : PF W u0 u S row0 row acc) (hE : Ext u u') : PF W u0 u' S row0 row acc := ⟨h.pw.extend hE, h.chg.ext hE, h.own⟩
theorem PF.then {W u0 u u' : World} {S : Nat} {row0 row row' : Value} {acc acc' : List ByteArray} (h : PF W u0 u S row0 row acc) (k : PF W u u' S row row' acc') : PF W u0 u' S row0 row' acc' :=
 ⟨k.pw, h.chg.trans k.chg (fun i hi e => by
  rcases e with e | e
  ·exact .inl e
  ·rcases h.own i e with f | f
   ·exact .inr f
   ·omega), fun i e => by
  rcases k.own i e with f | f
  ·exact h.own i f
  ·exact .inr (Nat.le_trans h.chg.size f)⟩
theorem ownsRow_apart {w w' : World} {base : Nat} {e : TypeId} {size : Nat} {v : Value} {n : Nat} {xs : List Value} {S : Nat → Prop} (h : w.ownsRow base e size v n xs) (hc : Chg S w w') (hn : ∀ i, v.ownBlock = some i → ¬ S i) : w'.ownsRow base e size v n xs := by
 obtain ⟨h1, h2⟩ := h; refine ⟨h1, ?_⟩
 rcases h2 with h2 | ⟨g, cap, cur, hv, hg, hh, r⟩
 ·exact .inl h2
 ·refine .inr ⟨g, cap, cur, hv, hg, ?_, r⟩
  have hlt : g < w.heap.size := by
   rcases Nat.lt_or_ge g w.heap.size with h' | h'
   ·exact h'
   ·rw [Array.getElem?_eq_none h'] at hh; cases hh
  rw [hc.block g hlt (hn g (by rw [hv]; rfl))]; exact hh
structure PB (W u0 u : World) (S Nb : Nat) (row0 row : Value) (acc : List ByteArray) (nc : Array Value) : Prop where
 f : PF W u0 u S row0 row acc
 nb : Blk u Nb nc 66
 hS : S < Nb
 hR : ∀ i, row.ownBlock = some i → i ≠ Nb
 hU : u0.heap.size ≤ Nb
theorem PB.extend {W u0 u u' : World} {S Nb : Nat} {row0 row : Value} {acc : List ByteArray} {nc : Array Value} (h : PB W u0 u S Nb row0 row acc nc) (hE : Ext u u') : PB W u0 u' S Nb row0 row acc nc := ⟨h.f.extend hE, h.nb.ext hE, h.hS, h.hR, h.hU⟩
theorem PB.call {W u0 u u' : World} {S Nb : Nat} {row0 row row' : Value} {acc acc' : List ByteArray} {nc : Array Value} (h : PB W u0 u S Nb row0 row acc nc) (k : PF W u u' S row row' acc') : PB W u0 u' S Nb row0 row' acc' nc :=
 ⟨h.f.then k, h.nb.chg k.chg (fun e => by
  have := h.hS; rcases e with e | e
  ·omega
  ·exact h.hR _ e rfl), h.hS, fun i e => by
  rcases k.own i e with f | f
  ·exact h.hR i f
  ·have := h.nb.lt; omega, h.hU⟩
theorem PB.setB {W u0 u : World} {S Nb : Nat} {row0 row : Value} {acc : List ByteArray} {nc : Array Value} (h : PB W u0 u S Nb row0 row acc nc) (o : Nat) (v : Value) : PB W u0 (u.setCell ⟨Nb, o, none⟩ v) S Nb row0 row acc (nc.setIfInBounds o v) := by
 have hC := chg_set (S := Nb) (Chg.refl _ u) o v; have h1 := h.hS; have h2 := h.f.pw.hW; have hu := h.hU
 exact ⟨⟨⟨h.f.pw.ext.trans hC (fun i hi e => by omega), h.f.pw.s.chg hC (by omega), ownsRow_apart h.f.pw.row hC (fun i e e2 => h.hR i e e2), h2⟩, h.f.chg.trans hC (fun i hi e => by omega), h.f.own⟩, h.nb.set o v, h1, h.hR, hu⟩
theorem PB.made {W u : World} {S : Nat} {row : Value} {acc : List ByteArray} (h : PW W u S row acc) (nc : Array Value) : PB W u (u.alloc (.cells nc 66)) S u.heap.size row row acc nc :=
 ⟨(PF.refl h).extend ((Chg.refl _ _).alloc _), Blk.made u nc _, h.s.lt, fun i e => by have := (h.own i e).2; omega, Nat.le_refl _⟩
def PPost (W u : World) (S : Nat) (row : Value) (acc : List ByteArray) (T : PO) (e : Ending) (u' : World) : Prop :=
 (∃ row', PF W u u' S row row' (acc ++ T.2)) ∧ e = (if T.1 = true then .returned (.tuple #[]) else .panicked noneV)
theorem grown_own {u u' : World} {own : Option Nat} (hg : u.grownBy u' own) : Chg (fun i => own = some i) u u' :=
 ⟨hg.os, hg.tape, hg.output, hg.size, fun i hi hn => hg.block i hi (by first | exact hn | exact fun e => hn e.symm)⟩
theorem row_slice {u : World} {B : Nat} {row : Value} {n : Nat} {xs : List Value} (h : u.ownsRow B 9 1 row n xs) : ∃ a c, row = .slice a n c ∧ (n ≤ c ∧ c ≤ maxLen) := by
 rcases h.2 with ⟨rfl, h0⟩ | ⟨g, cap, cur, rfl, _, _, h1, h2, _⟩
 ·exact ⟨_, _, by rw [h0], by rw [h0]; exact ⟨Nat.le_refl _, by decide⟩⟩
 ·exact ⟨_, _, rfl, h1, h2⟩
theorem info_strs : (Tryz.prog.info? 9).map (fun i => (i.zero, i.size, i.bytes)) = some (some (.string ⟨#[]⟩), 1, 16) := by kernel_rfl
set_option maxRecDepth 100000 in
set_option maxHeartbeats 4000000 in
theorem say_any {W u : World} {S : Nat} {row : Value} {acc : List ByteArray} (h : PW W u S row acc) (ws : List ByteArray) (g : Nat) (hg : Blk u g (ws.map fun s => Value.string s).toArray 9) (_hgS : g ≠ S) (_hgr : row.ownBlock ≠ some g) (hn : 0 < ws.length) (hm : acc.length + ws.length ≤ 1000000) :
  Calls Tryz.prog 166 #[.pointer (some ⟨S, 0, none⟩), .slice (some ⟨g, 0, none⟩) ws.length ws.length] u fun e u' => e = .returned (.tuple #[]) ∧ ∃ row', PF W u u' S row row' (acc ++ ws) := by
 have HP := Z_ h; have HG := Z_ hg; have hgc := hg.cell; have hsc := h.s.cell; have hsf := h.s.frozen; have hsl := h.s.lt; obtain ⟨ra, rc, hrow, hr1, hr2⟩ := row_slice h.row; obtain ⟨n, hnn⟩ : ∃ n, acc.length = n := ⟨_, rfl⟩; obtain ⟨k, hk⟩ : ∃ k, ws.length = k := ⟨_, rfl⟩; have HR := Z_ h.row; have HOW := Z_ h.own; rw [hnn] at hrow hm HR; rw [hk] at hm hn ⊢; subst hrow; obtain ⟨i0_, hi_, hz0, hz1, hz2⟩ := synw.info_split info_strs; have HN := Z_ (And.intro hnn hk); clear h hg hnn hk hr1 hr2; go_enter Tryz.func166, Tryz.ntmps166
 go_wp2_with (at_builtin; refine wpList_append_lies _ rfl _ _ 33 rfl (S + 1) 9 i0_ (.string ⟨#[]⟩) 1 16 Tryz.underlying33 hi_ hz0 hz1 hz2 rfl (by decide) (.slice ra n rc) n (acc.map fun s => .string s) rfl HR.out ⟨g, 0, none⟩ k k (ws.map fun s => .string s) rfl (by simp [HN.out.2]) (by intro j z_ hj; have e : (⟨g, 0, none⟩ : Addr).add j = ⟨g, j, none⟩ := (by unfold Addr.add; split <;> simp_all); rw [e, HG.out.cell]; simpa using hj) (by intro z_ hz_; simp only [List.mem_map] at hz_; obtain ⟨s9, -, rfl⟩ := hz_; rfl) hn (by unfold maxLen; omega) (by omega) (by omega) u.heap.size rfl ?_; intro g9 c9 w9 ho9 hg9 ha9 hl9; have hC9 := grown_own hg9; have hs9 := HP.out.s.chg hC9 (fun e => by have := (HOW.out _ e).1; omega); have HX9 := Z_ (And.intro ho9 (And.intro hC9 (And.intro hs9 ha9))); have hqc := hs9.cell; have hqf := hs9.frozen; have hql := hs9.lt; clear ho9 hg9 ha9 hC9 hs9)
 go_end0
 obtain ⟨ho9, hC9, hs9, ha9⟩ := HX9.out; have hset := chg_set (S := S) (Chg.refl _ w9) 0 (.slice (some ⟨g9, 0, none⟩) (n + k) c9); have hchg : Chg (LR S (.slice ra n rc)) u (w9.setCell ⟨S, 0, none⟩ (.slice (some ⟨g9, 0, none⟩) (n + k) c9)) := (hC9.weak (S' := LR S (.slice ra n rc)) fun i _ e => .inr e).trans hset (fun i _ e => .inl e); have hW := HP.out.hW; refine ⟨rfl, _, ⟨HP.out.ext.trans hchg (fun i hi e => by rcases e with e | e; omega; have := (HOW.out i e).1; omega), hs9.set 0 _, ?_, hW⟩, hchg, fun i e => ?_⟩
 ·rw [List.length_append, HN.out.1, HN.out.2, List.map_append]
  exact ownsRow_chg ho9 hset (fun i hi e => by omega)
 ·obtain rfl : g9 = i := by simpa [Value.ownBlock] using e
  rcases ha9 with e | e
  ·exact .inl e
  ·exact .inr (by omega)
set_option maxRecDepth 100000 in
set_option maxHeartbeats 4000000 in
theorem say_anyD {W u : World} {S : Nat} {row : Value} {acc : List ByteArray} (h : PW W u S row acc) (ws : List ByteArray) (g : Nat) (hg : Blk u g (ws.map fun s => Value.string s).toArray 9) (_hgS : g ≠ S) (_hgr : row.ownBlock ≠ some g) (hn : 0 < ws.length) (hm : acc.length + ws.length ≤ 1000000) (md : FrameMode) :
  CallsD Tryz.prog 166 #[.pointer (some ⟨S, 0, none⟩), .slice (some ⟨g, 0, none⟩) ws.length ws.length] md u fun e md' u' => md' = md ∧ e = .returned (.tuple #[]) ∧ ∃ row', PF W u u' S row row' (acc ++ ws) := by
 have HP := Z_ h; have HG := Z_ hg; have hgc := hg.cell; have hsc := h.s.cell; have hsf := h.s.frozen; have hsl := h.s.lt; obtain ⟨ra, rc, hrow, hr1, hr2⟩ := row_slice h.row; obtain ⟨n, hnn⟩ : ∃ n, acc.length = n := ⟨_, rfl⟩; obtain ⟨k, hk⟩ : ∃ k, ws.length = k := ⟨_, rfl⟩; have HR := Z_ h.row; have HOW := Z_ h.own; rw [hnn] at hrow hm HR; rw [hk] at hm hn ⊢; subst hrow; obtain ⟨i0_, hi_, hz0, hz1, hz2⟩ := synw.info_split info_strs; have HN := Z_ (And.intro hnn hk); clear h hg hnn hk hr1 hr2; go_enter_d Tryz.func166, Tryz.ntmps166
 go_wp2_with (at_builtin; refine wpList_append_lies _ rfl _ _ 33 rfl (S + 1) 9 i0_ (.string ⟨#[]⟩) 1 16 Tryz.underlying33 hi_ hz0 hz1 hz2 rfl (by decide) (.slice ra n rc) n (acc.map fun s => .string s) rfl HR.out ⟨g, 0, none⟩ k k (ws.map fun s => .string s) rfl (by simp [HN.out.2]) (by intro j z_ hj; have e : (⟨g, 0, none⟩ : Addr).add j = ⟨g, j, none⟩ := (by unfold Addr.add; split <;> simp_all); rw [e, HG.out.cell]; simpa using hj) (by intro z_ hz_; simp only [List.mem_map] at hz_; obtain ⟨s9, -, rfl⟩ := hz_; rfl) hn (by unfold maxLen; omega) (by omega) (by omega) u.heap.size rfl ?_; intro g9 c9 w9 ho9 hg9 ha9 hl9; have hC9 := grown_own hg9; have hs9 := HP.out.s.chg hC9 (fun e => by have := (HOW.out _ e).1; omega); have HX9 := Z_ (And.intro ho9 (And.intro hC9 (And.intro hs9 ha9))); have hqc := hs9.cell; have hqf := hs9.frozen; have hql := hs9.lt; clear ho9 hg9 ha9 hC9 hs9)
 go_end0
 obtain ⟨ho9, hC9, hs9, ha9⟩ := HX9.out; have hset := chg_set (S := S) (Chg.refl _ w9) 0 (.slice (some ⟨g9, 0, none⟩) (n + k) c9); have hchg : Chg (LR S (.slice ra n rc)) u (w9.setCell ⟨S, 0, none⟩ (.slice (some ⟨g9, 0, none⟩) (n + k) c9)) := (hC9.weak (S' := LR S (.slice ra n rc)) fun i _ e => .inr e).trans hset (fun i _ e => .inl e); have hW := HP.out.hW; refine ⟨rfl, _, ⟨HP.out.ext.trans hchg (fun i hi e => by rcases e with e | e; omega; have := (HOW.out i e).1; omega), hs9.set 0 _, ?_, hW⟩, hchg, fun i e => ?_⟩
 ·rw [List.length_append, HN.out.1, HN.out.2, List.map_append]
  exact ownsRow_chg ho9 hset (fun i hi e => by omega)
 ·obtain rfl : g9 = i := by simpa [Value.ownBlock] using e
  rcases ha9 with e | e
  ·exact .inl e
  ·exact .inr (by omega)
def MustPost (b : Bool) (u : World) (e : Ending) (u' : World) : Prop := e = (if b = true then .returned (.tuple #[]) else .panicked noneV) ∧ u' = u
theorem must_any (b : Bool) (u : World) : Calls Tryz.prog 165 #[.bool b] u (MustPost b u) := by
 cases b with
 | true =>
  go_enter Tryz.func165, Tryz.ntmps165
  go_wp2_with fail
  go_end0
  exact ⟨rfl, rfl⟩
 | false =>
  go_enter Tryz.func165, Tryz.ntmps165
  go_wp2_with fail
  exact ⟨rfl, rfl, rfl⟩
theorem text_nil (t : ByteArray) : (t.toList = []) ↔ t = ⟨#[]⟩ := by
 rw [Go.ByteArray.toList_eq]; exact ⟨fun h => ByteArray.ext (Array.toList_inj.1 h), fun h => by rw [h]⟩
def PlainPost (b : Bool) (v : Value) (u : World) (e : Ending) (u' : World) : Prop := e = (if b = true then .returned v else .panicked noneV) ∧ Ext u u'
set_option maxRecDepth 100000 in
set_option maxHeartbeats 4000000 in
theorem plain_any (k m : Int) (t : ByteArray) (a : Option Addr) (n c : Nat) (least most num : Int) (u : World) :
  Calls Tryz.prog 228 #[.agg #[.int .i64 k, .string t, .int .i64 m, .slice a n c], .int .i64 least, .int .i64 most, .int .i64 num] u (PlainPost (plainB t m n least most num) (.tuple #[]) u) := by
 obtain ⟨b, hb⟩ : ∃ b, plainB t m n least most num = b := ⟨_, rfl⟩; rw [hb]; have HB := Z_ hb; have HE := Z_ ((Chg.refl (fun _ => False) u).alloc (.cells #[.int .i64 k, .string t, .int .i64 m, .slice a n c] 66)); clear hb; go_enter Tryz.func228, Tryz.ntmps228
 go_upto_region 1 with (fail)
 have HK := Z_ (Blk.made u #[.int .i64 k, .string t, .int .i64 m, .slice a n c] 66); obtain ⟨Nb, hNb⟩ : ∃ Nb, u.heap.size = Nb := ⟨_, rfl⟩; rw [hNb] at HK
 try rw [hNb]
 generalize u.alloc (.cells #[.int .i64 k, .string t, .int .i64 m, .slice a n c] 66) = u0 at *; clear hNb; have hbc := HK.out.cell; go_wp2_with fail
 all_goals
  refine (must_any _ _).mono ?_
  rintro e w9 ⟨he, rfl⟩; split at he
  ·rename_i hyes
   subst he; have hb : b = true := by rw [← HB.out]; clear hbc; unfold plainB kidsB noText; simp only [text_nil] at *; first | (simp_all; done) | (simp_all; omega)
   go_wp2_with fail
   go_end0
   exact ⟨by rw [hb]; rfl, HE.out⟩
  ·rename_i hno
   subst he; have hb : b = false := by rw [← HB.out]; clear hbc; unfold plainB kidsB noText; simp only [text_nil] at *; first | (simp_all; done) | (simp_all; omega)
   go_wp2_with fail
   subst hb; exact ⟨rfl, rfl, HE.out⟩
theorem plain_named (t : ByteArray) (m : Int) (n : Nat) (least most num : Int) : namedB t m n least most num = (nameB t.data.toList && plainB ⟨#[]⟩ m n least most num) := by
 unfold namedB plainB noText; simp
set_option maxRecDepth 100000 in
set_option maxHeartbeats 4000000 in
theorem named_any (k m : Int) (t : ByteArray) (a : Option Addr) (n c : Nat) (least most num : Int) (u : World) (ht : t.size ≤ maxLen) (hv : ErrVar u) (hm : MaxVar u) :
  Calls Tryz.prog 167 #[.agg #[.int .i64 k, .string t, .int .i64 m, .slice a n c], .int .i64 least, .int .i64 most, .int .i64 num] u (PlainPost (namedB t m n least most num) (.string t) u) := by
 rw [plain_named]; obtain ⟨nb, hnb⟩ : ∃ nb, nameB t.data.toList = nb := ⟨_, rfl⟩; obtain ⟨pb, hpb⟩ : ∃ pb, plainB ⟨#[]⟩ m n least most num = pb := ⟨_, rfl⟩; have HPL := Z_ (fun w => plain_any k m ⟨#[]⟩ a n c least most num w); rw [hpb] at HPL ⊢; have HE := Z_ ((Chg.refl (fun _ => False) u).alloc (.cells #[.int .i64 k, .string t, .int .i64 m, .slice a n c] 66)); have HK := Z_ (Blk.made u #[.int .i64 k, .string t, .int .i64 m, .slice a n c] 66); obtain ⟨Nb, hNb⟩ : ∃ Nb, u.heap.size = Nb := ⟨_, rfl⟩; rw [hNb] at HK; have HN := Z_ (name.isname_any t _ (by unfold maxLen at ht; omega) (hv.ext HE.out) (hm.ext HE.out)); have HNB := Z_ hNb; rw [hnb] at HN ⊢; clear hv hm ht hnb hpb; go_enter Tryz.func167, Tryz.ntmps167
 go_upto_region 1 with (fail)
 try rw [hNb]
 generalize u.alloc (.cells #[.int .i64 k, .string t, .int .i64 m, .slice a n c] 66) = u0 at *; clear hNb; have hbc := HK.out.cell; go_wp2_with fail
 refine HN.out.mono ?_
 rintro e u1 ⟨rfl, hE1⟩; have HK1 := Z_ (HK.out.ext hE1); have HE1 := Z_ (HE.out.ext hE1); clear hbc HK HE hE1 HN; go_wp2_with fail
 refine (must_any nb _).mono ?_
 rintro e w9 ⟨rfl, rfl⟩; have hbc := HK1.out.cell; have hbf := HK1.out.frozen; have hbl := HK1.out.lt; cases nb with
 | false =>
  simp only [Bool.false_eq_true, if_false]; go_wp2_with fail
  exact ⟨rfl, rfl, HE1.out⟩
 | true =>
  simp only [if_true]; have HK2 := Z_ (HK1.out.set 1 (.string ⟨#[]⟩)); have HE2 := Z_ (HE1.out.setNew (p := ⟨Nb, 1, none⟩) (by have := HNB.out; show u.heap.size ≤ Nb; omega) (.string ⟨#[]⟩)); have hbc2 := HK2.out.cell; go_wp2_with fail
  refine (HPL.out _).mono ?_
  rintro e w3 ⟨he, hE3⟩; have HE3 := Z_ (HE2.out.ext hE3); clear hE3 hbc hbf hbl hbc2; cases pb with
  | true =>
   obtain rfl : e = _ := he; simp only [if_true]; go_wp2_with fail
   go_ret
   exact ⟨rfl, HE3.out⟩
  | false =>
   obtain rfl : e = _ := he; simp only [Bool.false_eq_true, if_false]; go_wp2_with fail
   exact ⟨rfl, rfl, HE3.out⟩
set_option maxRecDepth 100000 in
set_option maxHeartbeats 4000000 in
theorem cut0_any (s : ByteArray) (w : World) (hs : s.size ≤ 9223372036854775807) :
  Calls Tryz.prog 334 #[.string s, .string ⟨#[46]⟩] w fun e w' => e = .returned (.tuple #[.string (cutB s).1, .string (cutB s).2.1, .bool (cutB s).2.2]) ∧ Ext w w' := by
 have hI := Tryz.stringslite_Index_one s 46 w; rw [← Lib.index_one] at hI; have HI := Z_ hI; clear hI; unfold cutB; rcases Lib.indexB_cases s ⟨#[46]⟩ with hix | ⟨i, hix, hroom⟩
 ·obtain ⟨e1, e2, e3⟩ := Lib.cutB_miss s ⟨#[46]⟩ hix
  have e1' : (⟨(Lib.cut s.data.toList [46]).1.toArray⟩ : ByteArray) = s := e1; have e2' : (⟨(Lib.cut s.data.toList [46]).2.1.toArray⟩ : ByteArray) = ByteArray.empty := e2; have e3' : (Lib.cut s.data.toList [46]).2.2 = false := e3; rw [e1', e2', e3']; have hx : Lib.index s.data.toList [46] = -1 := hix; rw [hx] at HI; clear hix e1 e2 e3 e1' e2' e3' hx; go_enter Tryz.func334, Tryz.ntmps334
  go_wp2_with fail
  refine HI.out.mono ?_
  rintro e w' ⟨rfl, rfl⟩; go_wp2_with fail
  go_ret3
  exact ⟨rfl, Chg.refl _ _⟩
 ·obtain ⟨e1, e2, e3⟩ := Lib.cutB_hit s ⟨#[46]⟩ i hix
  have e1' : (⟨(Lib.cut s.data.toList [46]).1.toArray⟩ : ByteArray) = s.extract 0 i := e1; have e2' : (⟨(Lib.cut s.data.toList [46]).2.1.toArray⟩ : ByteArray) = s.extract (i + 1) s.size := e2; have e3' : (Lib.cut s.data.toList [46]).2.2 = true := e3; rw [e1', e2', e3']; have hx : Lib.index s.data.toList [46] = i := hix; rw [hx] at HI; have hr : i + 1 ≤ s.size := hroom; have c1 : (0 : Int) ≤ ↑i := by omega
  have c2 : (↑i : Int) ≤ ↑s.size := by omega
  obtain ⟨q, hq⟩ : ∃ q, i + 1 = q := ⟨_, rfl⟩; rw [hq] at hr ⊢; have hw : IntKind.i64.wrap ((i : Int) + 1) = (q : Int) := by rw [wrap_small _ (by omega) (by omega)]; omega
  have c3 : (0 : Int) ≤ (q : Int) := by omega
  have c4 : (q : Int) ≤ ↑s.size := by omega
  clear hq; clear hix e1 e2 e3 e1' e2' e3' hx hroom; go_enter Tryz.func334, Tryz.ntmps334
  go_wp2_with fail
  refine HI.out.mono ?_
  rintro e w' ⟨rfl, rfl⟩; go_upto_region 3 with (fail)
  go_quiet (fail)
  go_wp2_with fail
  go_ret3
  exact ⟨rfl, (Chg.refl _ _).drewN _⟩
set_option maxRecDepth 100000 in
theorem cut_any (s : ByteArray) (w : World) (hs : s.size ≤ 9223372036854775807) :
  Calls Tryz.prog 293 #[.string s, .string ⟨#[46]⟩] w fun e w' => e = .returned (.tuple #[.string (cutB s).1, .string (cutB s).2.1, .bool (cutB s).2.2]) ∧ Ext w w' := by
 have HI := Z_ (cut0_any s w hs); generalize cutB s = q at *; obtain ⟨q1, q2, q3⟩ := q; clear hs; go_enter Tryz.func293, Tryz.ntmps293
 go_wp2_with fail
 refine HI.out.mono ?_
 rintro e w' ⟨rfl, hE⟩; have HE := Z_ hE; clear hE HI; go_wp2_with fail
 go_ret3
 exact ⟨rfl, HE.out⟩
end prt
end Go.Proofs.YtpcihajmcejliabGreatDoor
namespace Go.Proofs.YtpcihajmcejliabGreatDoor
open Go.RowKit
namespace prt
open synw
theorem say_new {W w : World} {S : Nat} {row : Value} {acc : List ByteArray} (h : PW W w S row acc) (ws : List ByteArray) (cs : Array Value) (hcs : cs = (ws.map fun s => Value.string s).toArray) (k : Nat) (hk : k = ws.length) (hn : 0 < k) (hm : acc.length + k ≤ 1000000) :
  Calls Tryz.prog 166 #[.pointer (some ⟨S, 0, none⟩), .slice (some ⟨w.heap.size, 0, none⟩) k k] (w.alloc (.cells cs 9)) fun e u' => e = .returned (.tuple #[]) ∧ ∃ row', PF W w u' S row row' (acc ++ ws) := by
 subst hcs; subst hk; have hE := (Chg.refl (fun _ => False) w).alloc (.cells (ws.map fun s => Value.string s).toArray 9); refine (say_any (h.extend hE) ws w.heap.size (Blk.made w _ _) (by have := h.s.lt; omega) (fun e => by have := (h.own _ e).2; omega) hn hm).mono ?_
 rintro e u' ⟨he, row', hF⟩; exact ⟨he, row', ((PF.refl h).extend hE).then hF⟩
theorem ppost_ok {W u u' : World} {S : Nat} {row row' : Value} {acc ws : List ByteArray} {T : PO} (hT : T = (true, ws)) (h : PF W u u' S row row' (acc ++ ws)) : PPost W u S row acc T (.returned (.tuple #[])) u' := by
 subst hT; exact ⟨⟨row', h⟩, rfl⟩
theorem ppost_bad {W u u' : World} {S : Nat} {row row' : Value} {acc ws : List ByteArray} {T : PO} (hT : T = (false, ws)) (h : PF W u u' S row row' (acc ++ ws)) : PPost W u S row acc T (.panicked noneV) u' := by
 subst hT; exact ⟨⟨row', h⟩, rfl⟩
theorem PF.nil {W u u' : World} {S : Nat} {row row' : Value} {acc : List ByteArray} (h : PF W u u' S row row' acc) : PF W u u' S row row' (acc ++ []) := by rw [List.append_nil]; exact h
theorem PF.assoc {W u u' : World} {S : Nat} {row row' : Value} {acc a b : List ByteArray} (h : PF W u u' S row row' (acc ++ a ++ b)) : PF W u u' S row row' (acc ++ (a ++ b)) := by rw [← List.append_assoc]; exact h
set_option maxRecDepth 100000 in
theorem label_any {W u : World} {S : Nat} {row : Value} {acc : List ByteArray} (h : PW W u S row acc) (b : Bool) (hm : acc.length + 1 ≤ 1000000) :
  Calls Tryz.prog 230 #[.pointer (some ⟨S, 0, none⟩), .bool b] u fun e u' => e = .returned (.tuple #[]) ∧ ∃ row', PF W u u' S row row' (acc ++ [labW b]) := by
 have HP := Z_ h; have HM := Z_ hm; clear h hm; cases b with
 | true =>
  go_enter Tryz.func230, Tryz.ntmps230
  go_wp2_with fail
  refine (say_new HP.out [sHigh] _ rfl 1 rfl (by decide) HM.out).mono ?_
  rintro e w2 ⟨rfl, row2, hF2⟩; have HF := Z_ hF2; clear hF2; go_wp2_with fail
  go_end0
  exact ⟨rfl, row2, HF.out⟩
 | false =>
  go_enter Tryz.func230, Tryz.ntmps230
  go_wp2_with fail
  refine (say_new HP.out [sLow] _ rfl 1 rfl (by decide) HM.out).mono ?_
  rintro e w2 ⟨rfl, row2, hF2⟩; have HF := Z_ hF2; clear hF2; go_wp2_with fail
  go_end0
  exact ⟨rfl, row2, HF.out⟩
theorem wholeB_eq (t : ByteArray) (m : Int) (n : Nat) (least most : Int) : wholeB t m n least most = ((nameB (cutB t).1.data.toList && (!(cutB t).2.2 || nameB (cutB t).2.1.data.toList)) && plainB ⟨#[]⟩ m n least most 0) := by
 unfold wholeB plainB noText; simp
theorem cut_size (t : ByteArray) : (cutB t).1.size ≤ t.size ∧ (cutB t).2.1.size ≤ t.size := by
 have h1 : t.data.toList.length = t.size := by rw [Array.length_toList]; rfl
 unfold cutB Lib.cut; split
 ·refine ⟨?_, ?_⟩
  ·show (List.take _ t.data.toList).toArray.size ≤ t.size
   rw [List.size_toArray, List.length_take]; omega
  ·show (List.drop _ t.data.toList).toArray.size ≤ t.size
   rw [List.size_toArray, List.length_drop]; omega
 ·refine ⟨?_, ?_⟩
  ·show t.data.toList.toArray.size ≤ t.size
   rw [List.size_toArray]; omega
  ·show ([] : List UInt8).toArray.size ≤ t.size
   exact Nat.zero_le _
set_option maxRecDepth 100000 in
set_option maxHeartbeats 8000000 in
theorem whole_any {W u : World} {S : Nat} {row : Value} {acc : List ByteArray} (h : PW W u S row acc) (hv : ErrVar W) (hmv : MaxVar W) (k m : Int) (t : ByteArray) (a : Option Addr) (n c : Nat) (least most : Int) (ht : t.size ≤ maxLen) (hm : acc.length + 3 ≤ 1000000) :
  Calls Tryz.prog 264 #[.pointer (some ⟨S, 0, none⟩), .agg #[.int .i64 k, .string t, .int .i64 m, .slice a n c], .int .i64 least, .int .i64 most] u (PPost W u S row acc (wholeP t m n least most)) := by
 obtain ⟨T, hT⟩ : ∃ T, wholeP t m n least most = T := ⟨_, rfl⟩; rw [hT]; unfold wholeP wholeW at hT; rw [wholeB_eq] at hT; have hc := cut_size t; have hCU := fun w => cut_any t w (by unfold maxLen at ht; exact ht)
 generalize cutB t = q at hT hc hCU; obtain ⟨q1, q2, q3⟩ := q; simp only at hT hc hCU; have h1 := fun w (hE : Ext W w) => name.isname_any q1 w (by unfold maxLen at ht; omega) (hv.ext hE) (hmv.ext hE)
 have h2 := fun w (hE : Ext W w) => name.isname_any q2 w (by unfold maxLen at ht; omega) (hv.ext hE) (hmv.ext hE)
 have hpl := fun w => plain_any k m ⟨#[]⟩ a n c least most 0 w
 generalize nameB q1.data.toList = n1 at hT h1; generalize nameB q2.data.toList = n2 at hT h2; generalize plainB ⟨#[]⟩ m n least most 0 = pb at hT hpl; have HT := Z_ hT; have H1 := Z_ h1; have H2 := Z_ h2; have HPL := Z_ hpl; have HCU := Z_ hCU; have HB := Z_ (PB.made h #[.int .i64 k, .string t, .int .i64 m, .slice a n c]); obtain ⟨Nb, hNb⟩ : ∃ Nb, u.heap.size = Nb := ⟨_, rfl⟩; rw [hNb] at HB; have HM := Z_ hm; clear hT h1 h2 hpl hCU hc h hv hmv ht hm; go_enter Tryz.func264, Tryz.ntmps264
 go_upto_region 1 with (fail)
 try rw [hNb]
 generalize u.alloc (.cells #[.int .i64 k, .string t, .int .i64 m, .slice a n c] 66) = u0 at *; clear hNb; have hbc := HB.out.nb.cell; go_wp2_with fail
 refine (HCU.out _).mono ?_
 rintro e w1 ⟨rfl, hE1⟩; have HB1 := Z_ (HB.out.extend hE1); clear hbc hE1 HB HCU; obtain ⟨pr, hpr⟩ : ∃ pr : Bool, (n1 && (!q3 || n2)) = pr := ⟨_, rfl⟩; rw [hpr] at HT; have HPR := Z_ hpr; clear hpr; go_upto_region 2 with (fail)
 go_cut [] (fun w' => pr = true ∧ PB W u w' S Nb row row acc #[.int .i64 k, .string t, .int .i64 m, .slice a n c])
 case first =>
  go_wp2_with fail
  refine (H1.out _ HB1.out.f.pw.ext).mono ?_
  rintro e w2 ⟨rfl, hE2⟩; have HB2 := Z_ (HB1.out.extend hE2); clear hE2 HB1 H1; cases n1 with
  | false =>
   obtain rfl : pr = false := HPR.out.symm; go_wp2_with fail
   refine (must_any false _).mono ?_
   rintro e w3 ⟨rfl, rfl⟩; simp only [Bool.false_eq_true, if_false]; go_wp2_with fail
   exact ⟨rfl, ppost_bad (by rw [← HT.out]; rfl) HB2.out.f.nil⟩
  | true =>
   cases q3 with
   | false =>
    obtain rfl : pr = true := HPR.out.symm; go_wp2_with fail
    refine (must_any true _).mono ?_
    rintro e w3 ⟨rfl, rfl⟩; simp only [if_true]; go_wp2_with fail
    go_meet
    exact ⟨trivial, HB2.out⟩
   | true =>
    obtain rfl : n2 = pr := HPR.out; go_wp2_with fail
    refine (H2.out _ HB2.out.f.pw.ext).mono ?_
    rintro e w3 ⟨rfl, hE3⟩; have HB3 := Z_ (HB2.out.extend hE3); clear hE3 HB2; go_wp2_with fail
    refine (must_any n2 _).mono ?_
    rintro e w4 ⟨rfl, rfl⟩; cases n2 with
    | true =>
     simp only [if_true]; go_wp2_with fail
     go_meet
     exact ⟨trivial, HB3.out⟩
    | false =>
     simp only [Bool.false_eq_true, if_false]; go_wp2_with fail
     exact ⟨rfl, ppost_bad (by rw [← HT.out]; rfl) HB3.out.f.nil⟩
 case rest =>
  obtain ⟨rfl, hB3⟩ := hcut; have HB3 := Z_ hB3; clear hB3 HB1 H1 H2 HPR; have hbc := HB3.out.nb.cell; have hbf := HB3.out.nb.frozen; have hbl := HB3.out.nb.lt; go_upto_region 4 with (fail)
  have HB4 := Z_ (HB3.out.setB 1 (.string ⟨#[]⟩)); clear hbc hbf hbl HB3; generalize wc.setCell ⟨Nb, 1, none⟩ (.string ⟨#[]⟩) = w4 at *; have hbc := HB4.out.nb.cell; go_wp2_with fail
  refine (HPL.out _).mono ?_
  rintro e w5 ⟨he, hE5⟩; have HB5 := Z_ (HB4.out.extend hE5); clear hbc hE5 HB4 HPL; cases pb with
  | false =>
   obtain rfl : e = _ := he; simp only [Bool.false_eq_true, if_false]; go_wp2_with fail
   exact ⟨rfl, ppost_bad (by rw [← HT.out]; rfl) HB5.out.f.nil⟩
  | true =>
   obtain rfl : e = _ := he; simp only [if_true]; go_wp2_with fail
   refine (say_new HB5.out.f.pw [q1] _ rfl 1 rfl (by decide) (by have := HM.out; omega)).mono ?_
   rintro e w6 ⟨rfl, row6, hF6⟩; have HB6 := Z_ (HB5.out.call hF6); clear hF6 HB5; cases q3 with
   | false =>
    go_wp2_with fail
    go_end0
    exact ppost_ok (by rw [← HT.out]; rfl) HB6.out.f
   | true =>
    go_wp2_with fail
    refine (say_new HB6.out.f.pw [sDot, q2] _ rfl 2 rfl (by decide) (by have := HM.out; rw [List.length_append, List.length_singleton]; omega)).mono ?_
    rintro e w7 ⟨rfl, row7, hF7⟩; have HB7 := Z_ (HB6.out.call hF7); clear hF7 HB6; go_wp2_with fail
    go_end0
    exact ppost_ok (by rw [← HT.out]; rfl) HB7.out.f.assoc
end prt
end Go.Proofs.YtpcihajmcejliabGreatDoor
