/- The linker's row of orders: it grows by an object's orders; what relocs say is added. The walk of the linker's recover. -/
import Derived.Test.YtpcihajmcejliabDoorLinkLayA
import Derived.Maps.AppendAt
import Derived.Test.YtpcihajmcejliabDoorLinkA
import Derived.Test.YtpcihajmcejliabDoorSets
import Derived.Test.YtpcihajmcejliabDoorChainA
import Derived.Defers
import Derived.Recover
namespace Go.Proofs.YtpcihajmcejliabDoor
open Go.RowKit Go.WideMaps Go.Maps
/-- an order with another N -/
def setN (is : List Ins) (j : Nat) (x : Int) : List Ins := is.modify j fun i => { i with n := x }
def nAt (is : List Ins) (j : Nat) : Int := ((is[j]?).getD default).n
def addAt (is : List Ins) (j : Nat) (a : Int) : List Ins := setN is j (IntKind.i64.wrap (nAt is j + a))
/-- what a reloc adds -/
def relAdd (l : List FObj) (cs ls hs : List Int) (i : Nat) (r : FRel) : Int := if r.kind = 1 then (cs[i]?).getD 0 else (placeF l cs ls hs r).1
def moveRels (l : List FObj) (cs ls hs : List Int) (i from_ : Nat) : List Ins → List FRel → List Ins
  | is, [] => is
  | is, r :: t => moveRels l cs ls hs i from_ (addAt is (from_ + r.at_.toNat) (relAdd l cs ls hs i r)) t
def movesF (l : List FObj) (cs ls hs : List Int) : Nat → List Ins → List FObj → List Ins
  | _, is, [] => is
  | i, is, x :: t => movesF l cs ls hs (i + 1) (moveRels l cs ls hs i is.length (is ++ x.code) x.relocs) t
/-- K2: the first order that may not be -/
def ordF1 (is : List Ins) (i : Nat) (base : Nat) : Nat → Nat → Option (Nat × Int × Int)
  | _, 0 => none
  | k, q + 1 => if orderB ((is[base + k]?).getD default) is.length = false then some (i, 6, (k : Int)) else ordF1 is i base (k + 1) q
def ordF (is : List Ins) : Nat → Nat → List FObj → Option (Nat × Int × Int)
  | _, _, [] => none
  | i, base, x :: t => (ordF1 is i base 0 x.code.length).or (ordF is (i + 1) (base + x.code.length) t)
namespace linkw
theorem setN_len (is : List Ins) (j : Nat) (x : Int) : (setN is j x).length = is.length := by simp [setN]
theorem moveRels_len (l : List FObj) (cs ls hs : List Int) (i f : Nat) (rs : List FRel) : ∀ is, (moveRels l cs ls hs i f is rs).length = is.length := by
  induction rs with
  | nil => intro is; rfl
  | cons r t ih => intro is; rw [moveRels, ih, addAt, setN_len]
theorem insCells_len (is : List Ins) : (is.flatMap insCells).length = is.length * 5 := by
  induction is with
  | nil => rfl
  | cons i t ih => rw [List.flatMap_cons, List.length_append, ih, List.length_cons]; show 5 + _ = _; omega
theorem cells_at (is : List Ins) : ∀ (j : Nat) (h : j < is.length) (o : Nat) (_ : o < 5), (is.flatMap insCells)[j * 5 + o]? = (insCells is[j])[o]? := by
  induction is with
  | nil => intro j h; cases h
  | cons i t ih =>
    intro j h o ho
    rw [List.flatMap_cons]
    cases j with
    | zero =>
      rw [Nat.zero_mul, Nat.zero_add, List.getElem?_append_left (by show o < 5; exact ho)]
      rfl
    | succ j =>
      rw [List.getElem?_append_right (by show 5 ≤ _; omega), show (j + 1) * 5 + o - (insCells i).length = j * 5 + o by show (j + 1) * 5 + o - 5 = _; omega, ih j (by simpa using h) o ho]
      rfl
theorem cells_setN (is : List Ins) : ∀ (j : Nat) (_ : j < is.length) (x : Int), (setN is j x).flatMap insCells = (is.flatMap insCells).set (j * 5 + 4) (intV x) := by
  induction is with
  | nil => intro j h; cases h
  | cons i t ih =>
    intro j h x
    cases j with
    | zero => rfl
    | succ j =>
      have e : setN (i :: t) (j + 1) x = i :: setN t j x := rfl
      rw [e, List.flatMap_cons, List.flatMap_cons, ih j (by simpa using h), List.set_append_right _ _ (by show 5 ≤ _; omega), show (j + 1) * 5 + 4 - (insCells i).length = j * 5 + 4 by show (j + 1) * 5 + 4 - 5 = _; omega]
theorem ownsRow_put {w : World} {B : Nat} {e : TypeId} {size g n cap : Nat} {xs : List Value} (h : w.ownsRow B e size (.slice (some ⟨g, 0, none⟩) n cap) n xs) (j : Nat) (u : Value) :
    (w.setCell ⟨g, j, none⟩ u).ownsRow B e size (.slice (some ⟨g, 0, none⟩) n cap) n (xs.set j u) := by
  obtain ⟨h1, h2⟩ := h
  refine ⟨by rw [List.length_set]; exact h1, ?_⟩
  rcases h2 with ⟨h2, -⟩ | ⟨g', cap', cur, hv, hb, hh, h3, h4, h5, h6⟩
  · cases h2
  · obtain ⟨rfl, rfl⟩ : g = g' ∧ cap = cap' := by simpa using hv
    have hB : Blk w g cur e := hh
    exact .inr ⟨g, cap, _, rfl, hb, hB.set j u, h3, h4, by simpa using h5, by rw [Array.toList_setIfInBounds, List.take_set, h6]⟩
theorem InsRow.put {w : World} {B g n cap : Nat} {is : List Ins} (h : InsRow w B (.slice (some ⟨g, 0, none⟩) n cap) is) (hn : is.length = n) {j : Nat} (hj : j < n) (x : Int) :
    InsRow (w.setCell ⟨g, j * 5 + 4, none⟩ (intV x)) B (.slice (some ⟨g, 0, none⟩) n cap) (setN is j x) := by
  subst hn
  unfold InsRow at h ⊢
  rw [setN_len, cells_setN _ _ hj]
  exact ownsRow_put h _ _
theorem InsRow.cells {w : World} {B g n cap : Nat} {is : List Ins} (h : InsRow w B (.slice (some ⟨g, 0, none⟩) n cap) is) (hn : is.length = n) {j : Nat} (hj : j < n) : InsIn5 w g (j * 5) ((is[j]?).getD default) := by
  subst hn
  have e : ∀ o, o < 5 → w.cell? ⟨g, j * 5 + o, none⟩ = (insCells is[j])[o]? := fun o ho => by
    rw [World.ownsRow.cellAt h (j * 5 + o) (by omega), cells_at is j hj o ho]
  rw [List.getElem?_eq_getElem hj, Option.getD_some]
  exact ⟨e 0 (by decide), e 1 (by decide), e 2 (by decide), e 3 (by decide), e 4 (by decide)⟩
theorem NumMap.chg {w w' : World} {b : Nat} {L : List ByteArray} (h : NumMap w b L) {S : Nat → Prop} (hc : Chg S w w') (hn : ¬ S b) : NumMap w' b L := by
  have hlt := h.lt
  obtain ⟨D, ⟨es, clock, hb, r⟩, h2⟩ := h
  exact ⟨D, ⟨es, clock, (hc.block b hlt hn).trans hb, r⟩, h2⟩
theorem ins_news {w : World} {a : Option Addr} {is : List Ins} (h : AllIn 5 InsIn5 w a is) : (a = none → is.length = 0) ∧ ∀ ad, a = some ad → ∀ j u, (is.flatMap insCells)[j]? = some u → w.cell? (ad.add j) = some u := by
  refine ⟨fun e => ?_, fun ad e j u hu => ?_⟩
  · subst e
    cases is with
    | nil => rfl
    | cons i t => obtain ⟨b, o, e, -⟩ := h 0 (by simp); cases e
  · have hj : j < (is.flatMap insCells).length := by
      rcases Nat.lt_or_ge j (is.flatMap insCells).length with h' | h'
      · exact h'
      · rw [List.getElem?_eq_none h'] at hu; cases hu
    rw [insCells_len] at hj
    have hq : j / 5 < is.length := by omega
    obtain ⟨b, o, e2, -, hin⟩ := h (j / 5) hq
    rw [e] at e2
    obtain rfl := Option.some.inj e2
    have e3 : (⟨b, o, none⟩ : Addr).add j = ⟨b, o + j, none⟩ := by unfold Addr.add; split <;> simp_all
    rw [e3]
    have e4 : j = j / 5 * 5 + j % 5 := by omega
    have hm : j % 5 < 5 := Nat.mod_lt _ (by decide)
    rw [e4, cells_at is _ hq _ hm] at hu
    obtain ⟨c0, c1, c2, c3, c4⟩ := hin
    generalize j % 5 = r at *
    have e5 : o + j = o + j / 5 * 5 + r := by omega
    rw [e5]
    match r, hm with
    | 0, _ => simp only [insCells, List.getElem?_cons_zero] at hu; rw [Nat.add_zero, c0]; exact hu
    | 1, _ => simp only [insCells, List.getElem?_cons_succ, List.getElem?_cons_zero] at hu; rw [c1]; exact hu
    | 2, _ => simp only [insCells, List.getElem?_cons_succ, List.getElem?_cons_zero] at hu; rw [c2]; exact hu
    | 3, _ => simp only [insCells, List.getElem?_cons_succ, List.getElem?_cons_zero] at hu; rw [c3]; exact hu
    | 4, _ => simp only [insCells, List.getElem?_cons_succ, List.getElem?_cons_zero] at hu; rw [c4]; exact hu
/-- append, its source nil or not, onto a row of the call's own that is not nil -/
theorem wp_append_src {P : Program} {w : World} {o : Oper} {a : Act} {K : Act → World → Prop} {Q : Exit → Act → World → Prop} (s x : Operand) (t : TypeId)
    (ho : o.op = .call { callee := .builtin .append, args := #[s, x], argTypes := #[t, t] })
    (base : Nat) (e : TypeId) (i : TypeInfo) (z : Value) (size bytes : Nat) (ht : P.underlying t = some (.slice e)) (hi : P.info? e = some i) (hz : i.zero = some z)
    (hsize : i.size = size) (hby : i.bytes = bytes) (hzs : z.cells.size = size) (hsz : 0 < size)
    (v : Value) (n : Nat) (xs : List Value) (hs : a.eval s = v) (hn : 0 < n) (hown : w.ownsRow base e size v n xs)
    (A : Option Addr) (m c : Nat) (news : List Value) (hx : a.eval x = .slice A m c) (hl : news.length = m * size) (hA : A = none → m = 0) (hnews : ∀ ad, A = some ad → ∀ j u, news[j]? = some u → w.cell? (ad.add j) = some u) (h1 : ∀ u ∈ news, u.oneCell' = true)
    (h63 : n + m ≤ maxLen) (hbytes : (n + m) * bytes ≤ 140737488355328) (hbase : base ≤ w.heap.size)
    (h : ∀ g cap w', w'.ownsRow base e size (.slice (some ⟨g, 0, none⟩) (n + m) cap) (n + m) (xs ++ news) → w.grownBy w' v.ownBlock → (v.ownBlock = some g ∨ g = w.heap.size) → K (a.put o.dst (.slice (some ⟨g, 0, none⟩) (n + m) cap)) w') : o.wp P a w K Q := by
  cases A with
  | some ad =>
    obtain ⟨v', w', hr, h2, h3, -, h5⟩ := run_append_own_at (P := P) w base t o.type e i z size bytes ht hi hz hsize hby hzs hsz v n xs hown ad m c news hl (hnews ad rfl) h1 h63 hbytes hbase
    obtain ⟨g, cap, rfl, -, -⟩ := h2.form (by omega)
    unfold Oper.wp execOp
    simp only [ho, resolve, invoke, builtin, Sem.run_bind, Sem.run_pure, Result.andThen_ok, List.map_toArray, List.map_cons, List.map_nil, hs, hx, hr]
    refine h g cap w' h2 h3 ?_
    rcases h5 with h5 | h5
    · exact .inl h5.symm
    · exact .inr (by simpa [Value.ownBlock] using h5)
  | none =>
    obtain rfl := hA rfl
    obtain rfl : news = [] := List.eq_nil_of_length_eq_zero (by simpa using hl)
    have hown2 := hown
    obtain ⟨g, cap, rfl, -, -⟩ := hown2.form hn
    have hnc : n ≤ cap := by
      rcases hown.2 with ⟨h2, -⟩ | ⟨g', cap', cur, hv, -, -, h3, -⟩
      · cases h2
      · simp only [Value.slice.injEq, true_and] at hv; omega
    have hr : (Builtin.append_ #[t, t] o.type #[.slice (some ⟨g, 0, none⟩) n cap, .slice none 0 c]).run P w = .ok (.slice (some ⟨g, 0, none⟩) n cap) w := by
      simp [Builtin.append_, run_underlying ht, sizeOf, typeInfo, hi, Builtin.lenOf, Builtin.firstCells, hnc, storeCells]
    unfold Oper.wp execOp
    simp only [ho, resolve, invoke, builtin, Sem.run_bind, Sem.run_pure, Result.andThen_ok, List.map_toArray, List.map_cons, List.map_nil, hs, hx, hr]
    exact h g cap w (by simpa using hown) ⟨rfl, rfl, rfl, Nat.le_refl _, fun _ _ _ => rfl⟩ (.inl rfl)
end linkw
namespace linkw
/-- the linker's block and rows while orders are moved: vi is what lies in the block, g the row of orders -/
structure MovB (w : World) (S B b : Nat) (vi : Value) (g ci : Nat) (is : List Ins) (lo hi : Int) (a : Option Addr) (n cap q1 c1 q2 c2 q3 c3 : Nat) (cs ls hs : List Int) (L : List ByteArray) : Prop where
  sb : Blk w S #[vi, .int .i64 lo, .int .i64 hi, .slice a n cap, .map (some b), .slice (some ⟨q1, 0, none⟩) n c1, .slice (some ⟨q2, 0, none⟩) n c2, .slice (some ⟨q3, 0, none⟩) n c3] 51
  ins : InsRow w B (.slice (some ⟨g, 0, none⟩) is.length ci) is
  rows : Rows3 w B (.slice (some ⟨q1, 0, none⟩) n c1) (.slice (some ⟨q2, 0, none⟩) n c2) (.slice (some ⟨q3, 0, none⟩) n c3) cs ls hs
  ne : g ≠ q1 ∧ g ≠ q2 ∧ g ≠ q3
  map : NumMap w b L
theorem ownsRow_blk {w w' : World} {base : Nat} {e : TypeId} {size : Nat} {v : Value} {n : Nat} {xs : List Value} (h : w.ownsRow base e size v n xs) (hc : ∀ k, v.ownBlock = some k → w'.heap[k]? = w.heap[k]?) : w'.ownsRow base e size v n xs := by
  obtain ⟨h1, h2⟩ := h
  refine ⟨h1, ?_⟩
  rcases h2 with h2 | ⟨g, cap, cur, hv, hg, hh, r⟩
  · exact .inl h2
  · exact .inr ⟨g, cap, cur, hv, hg, (hc g (by rw [hv]; rfl)).trans hh, r⟩
theorem Rows3.blk {w w' : World} {B : Nat} {vc vl vh : Value} {cs ls hs : List Int} (h : Rows3 w B vc vl vh cs ls hs) (hc : ∀ k, vc.ownBlock = some k ∨ vl.ownBlock = some k ∨ vh.ownBlock = some k → w'.heap[k]? = w.heap[k]?) : Rows3 w' B vc vl vh cs ls hs :=
  ⟨ownsRow_blk h.c fun k e => hc k (.inl e), ownsRow_blk h.l fun k e => hc k (.inr (.inl e)), ownsRow_blk h.h fun k e => hc k (.inr (.inr e)), h.cl, h.ch, h.lh⟩
section
variable {w w' : World} {S B b : Nat} {vi : Value} {g ci : Nat} {is : List Ins} {lo hi : Int} {a : Option Addr} {n cap q1 c1 q2 c2 q3 c3 : Nat} {cs ls hs : List Int} {L : List ByteArray}
theorem MovB.ext (h : MovB w S B b vi g ci is lo hi a n cap q1 c1 q2 c2 q3 c3 cs ls hs L) (hE : Ext w w') : MovB w' S B b vi g ci is lo hi a n cap q1 c1 q2 c2 q3 c3 cs ls hs L :=
  ⟨h.sb.ext hE, ownsRow_ext h.ins hE, Rows3.chg h.rows hE fun _ h => h.elim, h.ne, h.map.kept hE⟩
theorem MovB.store (h : MovB w S B b vi g ci is lo hi a n cap q1 c1 q2 c2 q3 c3 cs ls hs L) (hSB : S < B) (hbS : b ≠ S) (v : Value) : MovB (w.setCell ⟨S, 0, none⟩ v) S B b v g ci is lo hi a n cap q1 c1 q2 c2 q3 c3 cs ls hs L := by
  have hc : Chg (fun i => i = S) w (w.setCell ⟨S, 0, none⟩ v) := (Chg.refl (fun i => i = S) w).setCell (fun _ => rfl) _
  exact ⟨h.sb.set 0 v, ownsRow_chg h.ins hc fun i hi e => by omega, Rows3.chg h.rows hc fun i hi => by omega, h.ne, NumMap.chg h.map hc hbS⟩
theorem MovB.base (h : MovB w S B b vi g ci is lo hi a n cap q1 c1 q2 c2 q3 c3 cs ls hs L) : B ≤ g ∧ g < w.heap.size := World.ownsRow.lt h.ins g rfl
theorem MovB.frz (h : MovB w S B b vi g ci is lo hi a n cap q1 c1 q2 c2 q3 c3 cs ls hs L) (o : Nat) : w.frozen? ⟨g, o, none⟩ = false := by
  obtain ⟨-, h2⟩ := h.ins
  rcases h2 with ⟨h2, -⟩ | ⟨g', cap', cur, hv, hb, hh, -⟩
  · cases h2
  · obtain rfl : g = g' := by have := hv; simp only [Value.slice.injEq, Option.some.injEq, Addr.mk.injEq] at this; exact this.1.1
    exact Blk.frozen (show Blk w g cur _ from hh) o
theorem MovB.add (h : MovB w S B b vi g ci is lo hi a n cap q1 c1 q2 c2 q3 c3 cs ls hs L) (hSB : S < B) (hbB : b < B) {j : Nat} (hj : j < is.length) (x : Int) :
    MovB (w.setCell ⟨g, j * 5 + 4, none⟩ (.int .i64 x)) S B b vi g ci (setN is j x) lo hi a n cap q1 c1 q2 c2 q3 c3 cs ls hs L := by
  have hg := (h.base).1
  have hc : Chg (fun i => i = g) w (w.setCell ⟨g, j * 5 + 4, none⟩ (.int .i64 x)) := (Chg.refl (fun i => i = g) w).setCell (fun _ => rfl) _
  refine ⟨h.sb.chg hc (by omega), by rw [setN_len]; exact InsRow.put h.ins rfl hj x, Rows3.blk h.rows fun k hk => ?_, h.ne, NumMap.chg h.map hc (by omega)⟩
  have hkg : k ≠ g := by
    have := h.ne
    rcases hk with e | e | e <;> (obtain rfl := (show _ = k by simpa [Value.ownBlock] using e); omega)
  have hkl : k < w.heap.size := by
    rcases hk with e | e | e
    · exact (World.ownsRow.lt h.rows.c k e).2
    · exact (World.ownsRow.lt h.rows.l k e).2
    · exact (World.ownsRow.lt h.rows.h k e).2
  exact hc.block k hkl hkg
theorem MovB.app {g' cap' : Nat} {news : List Ins} (h : MovB w S B b vi g ci is lo hi a n cap q1 c1 q2 c2 q3 c3 cs ls hs L) (hSB : S < B) (hbB : b < B)
    (ho : w'.ownsRow B 64 5 (.slice (some ⟨g', 0, none⟩) (is.length + news.length) cap') (is.length + news.length) (is.flatMap insCells ++ news.flatMap insCells)) (hgr : w.grownBy w' (Value.slice (some ⟨g, 0, none⟩) is.length ci).ownBlock) (hat : (Value.slice (some ⟨g, 0, none⟩) is.length ci).ownBlock = some g' ∨ g' = w.heap.size) :
    MovB w' S B b vi g' cap' (is ++ news) lo hi a n cap q1 c1 q2 c2 q3 c3 cs ls hs L ∧ Chg (fun i => i = g) w w' := by
  have hb := h.base
  have hg := hb.1
  have hc : Chg (fun i => i = g) w w' := ⟨hgr.os, hgr.tape, hgr.output, hgr.size, fun k hk hn => hgr.block k hk fun e => hn (by simpa [Value.ownBlock] using e)⟩
  have l1 := World.ownsRow.lt h.rows.c q1 rfl
  have l2 := World.ownsRow.lt h.rows.l q2 rfl
  have l3 := World.ownsRow.lt h.rows.h q3 rfl
  have hne := h.ne
  have hat2 : g' = g ∨ g' = w.heap.size := by
    rcases hat with e | e
    · exact .inl (by simpa [Value.ownBlock] using e.symm)
    · exact .inr e
  refine ⟨⟨h.sb.chg hc (by omega), ?_, Rows3.blk h.rows fun k hk => ?_, by omega, NumMap.chg h.map hc (by omega)⟩, hc⟩
  · unfold InsRow; rw [List.length_append, List.flatMap_append]; exact ho
  · have hk2 : k = q1 ∨ k = q2 ∨ k = q3 := by
      rcases hk with e | e | e
      · exact .inl (by simpa [Value.ownBlock] using e.symm)
      · exact .inr (.inl (by simpa [Value.ownBlock] using e.symm))
      · exact .inr (.inr (by simpa [Value.ownBlock] using e.symm))
    exact hc.block k (by omega) (by omega)
end
end linkw
end Go.Proofs.YtpcihajmcejliabDoor
namespace Go.Proofs.YtpcihajmcejliabDoor
open Go.RowKit
theorem results_aa {P : Program} {fn : Func} {p q : Tmp} {ty ty2 : TypeId} (h : fn.results = #[.cell p ty, .cell q ty2]) (tmps : Array Value) (w : World) {g g2 : Nat} {T T2 : TypeId} {cs cs2 : Array Value} {d d2 : TypeDesc}
    (hp : tmps.getD p undef = .pointer (some ⟨g, 0, none⟩)) (hg : Blk w g cs T) (hu : P.underlying ty = some d) (hd : (match d with | .struct _ | .array _ _ => true | _ => false) = true) (hi : (P.info? ty).map (·.size) = some cs.size)
    (hq : tmps.getD q undef = .pointer (some ⟨g2, 0, none⟩)) (hg2 : Blk w g2 cs2 T2) (hu2 : P.underlying ty2 = some d2) (hd2 : (match d2 with | .struct _ | .array _ _ => true | _ => false) = true) (hi2 : (P.info? ty2).map (·.size) = some cs2.size) :
    (results fn tmps).run P w = .ok (.tuple #[.agg cs, .agg cs2]) w := by
  have hp' : tmps[p]?.getD undef = .pointer (some ⟨g, 0, none⟩) := by simpa using hp
  have hq' : tmps[q]?.getD undef = .pointer (some ⟨g2, 0, none⟩) := by simpa using hq
  simp [results, h, hp', hq', asAddr, run_loadVar_row w g T ty cs (0, 0) d hg hu hd hi, run_loadVar_row w g2 T2 ty2 cs2 (0, 0) d2 hg2 hu2 hd2 hi2]
namespace linkw
theorem trouble_is (v : Value) (w : World) : (Instr.typeAssert (.iface 44 v) 20 44 true).run Tryd.prog w = .ok (.tuple #[v, .bool true]) w := by kernel_rfl
/-- three cells of a block stored one behind the other -/
theorem Blk.three {w : World} {b : Nat} {c0 c1 c2 : Value} {T : TypeId} (h : Blk w b #[c0, c1, c2] T) (x y z : Value) : Blk (((w.setCell ⟨b, 0, none⟩ x).setCell ⟨b, 1, none⟩ y).setCell ⟨b, 2, none⟩ z) b #[x, y, z] T := ((h.set 0 x).set 1 y).set 2 z
theorem three_chg (w : World) (b : Nat) (x y z : Value) : Chg (fun i => i = b) w (((w.setCell ⟨b, 0, none⟩ x).setCell ⟨b, 1, none⟩ y).setCell ⟨b, 2, none⟩ z) :=
  (((Chg.refl (fun i => i = b) w).setCell (fun _ => rfl) _).setCell (fun _ => rfl) _).setCell (fun _ => rfl) _
def zeroImg : Array Value := #[.slice none 0 0, .int .i64 0, .int .i64 0]
def CatQ (R E : Nat) (m c k : Int) (w : World) (e : Exit) (a : Act) (w' : World) : Prop := e = .normal ∧ a.defers = [] ∧ Blk w' R zeroImg 25 ∧ Blk w' E #[.int .i64 m, .int .i64 c, .int .i64 k] 28 ∧ Chg (fun i => i = R ∨ i = E) w w'
set_option maxRecDepth 100000 in
set_option maxHeartbeats 4000000 in
theorem catch_link (R E : Nat) (m c k : Int) (c0 c1 c2 d0 d1 d2 : Value) (w : World) (hR : Blk w R #[c0, c1, c2] 25) (hE : Blk w E #[d0, d1, d2] 28) (hne : R ≠ E) :
    CallsD Tryd.prog 5 #[.pointer (some ⟨R, 0, none⟩), .pointer (some ⟨E, 0, none⟩)] (.panicking (troubleV m c k)) w fun e u' w' =>
      e = .returned (.tuple #[]) ∧ u' = .panicking [{ v := .iface 44 (.agg #[.int .i64 m, .int .i64 c, .int .i64 k]), recovered := true }] ∧ Blk w' R zeroImg 25 ∧ Blk w' E #[.int .i64 m, .int .i64 c, .int .i64 k] 28 ∧ Chg (fun i => i = R ∨ i = E) w w' := by
  have hta := trouble_is
  have hRlt := hR.lt
  have hElt := hE.lt
  refine callsD_of_wpS Tryd.func5 rfl fun c₀ cs hu => ?_
  unfold troubleV at hu
  apply wpS_seq
  apply wpS_region
  simp [wpOpsS, go_sem, recoverD, hu, Tryd.ntmps5, Exit.thenS]
  simp only [Array.replicate, List.replicate, List.append_toArray, List.setIfInBounds_toArray, List.set_cons_zero, List.set_cons_succ, List.cons_append, List.nil_append]
  refine wpS_of_wp (Code.wp_mono (Q := CatQ R E m c k w) ?_ ?_)
  · rintro e a w1 ⟨rfl, hd, h1, h2, h3⟩
    exact ⟨hd, _, rfl, _, results_none rfl _ _ _, rfl, rfl, h1, h2, h3⟩
  clear hu
  go_wp2_with (fail)
  have hX := Blk.made w #[.int .i64 m, .int .i64 c, .int .i64 k] 44
  have hR1 := hR.alloc (.cells #[.int .i64 m, .int .i64 c, .int .i64 k] 44)
  have hE1 := hE.alloc (.cells #[.int .i64 m, .int .i64 c, .int .i64 k] 44)
  have hC1 := (Chg.refl (fun i => i = R ∨ i = E) w).alloc (.cells #[.int .i64 m, .int .i64 c, .int .i64 k] 44)
  have hXR : w.heap.size ≠ R := by omega
  have hXE : w.heap.size ≠ E := by omega
  clear hR hE
  generalize w.alloc (.cells #[.int .i64 m, .int .i64 c, .int .i64 k] 44) = w1 at *
  obtain ⟨X, hXX⟩ : ∃ q, w.heap.size = q := ⟨_, rfl⟩
  rw [hXX] at hX hXR hXE ⊢
  refine wp_region_chain [3, 4] [.agg #[.slice none 0 0, .int .i64 0, .int .i64 0], .pointer (some ⟨X, 0, none⟩), .agg #[.int .i64 m, .int .i64 c, .int .i64 k], undef, undef] (fun vs u => Blk u X #[.int .i64 m, .int .i64 c, .int .i64 k] 44 ∧ Chg (fun i => i = R ∨ i = E) w1 u ∧ (match vs with | [] => Blk u R #[c0, c1, c2] 25 ∧ Blk u E #[d0, d1, d2] 28 | [_] => Blk u R zeroImg 25 ∧ Blk u E #[d0, d1, d2] 28 | _ => Blk u R zeroImg 25 ∧ Blk u E #[.int .i64 m, .int .i64 c, .int .i64 k] 28)) (frame := ?fraa) (fun x => ?hfaa) mixed (by kernel_rfl) ?h0a ?sta ?fina
  case hfaa =>
    simp only [chain.frameOf, chain.fill, chain.setOpt, chain.dstOf, List.size_toArray, List.length_cons, List.length_nil, List.getElem?_toArray, List.getElem?_cons_succ, List.getElem?_cons_zero, List.setIfInBounds_toArray, List.set_cons_succ, List.set_cons_zero]
    exact rfl
  case h0a => exact ⟨hX.drew, (Chg.refl _ _).drew, hR1.drew, hE1.drew⟩
  case sta =>
    refine AllFrom.cons (fun x vs u hF hm hd K' hK' => ?sa0) (AllFrom.cons (fun x vs u hF hm hd K' hK' => ?sa1) (AllFrom.cons (fun x vs u hF hm hd K' hK' => ?sa2) (AllFrom.cons (fun x vs u hF hm hd K' hK' => ?sa3) (AllFrom.cons (fun x vs u hF hm hd K' hK' => ?sa4) (AllFrom.nil)))))
    case sa0 =>
      clear hd hm hF
      go_simp
      exact hK'.out _ _ _ rfl ⟨rfl, rfl⟩
    case sa1 =>
      clear hd hm hF
      go_simp
      exact hK'.out _ _ _ rfl ⟨rfl, rfl⟩
    case sa2 =>
      have y0 := hd 1 17 (by decide) (by kernel_rfl) (by kernel_rfl)
      replace y0 : x 17 = .pointer (some ⟨X, 0, none⟩) := y0
      have hXc := hF.1.cell
      clear hd hm hF
      go_simp
      exact hK'.out _ _ _ (by simp only [y0]; rfl) ⟨rfl, rfl⟩
    case sa3 =>
      obtain rfl := List.eq_nil_of_length_eq_zero (hm 0 (by kernel_rfl))
      obtain ⟨hX, hC, hR, hE⟩ := hF
      have y0 := hd 0 16 (by decide) (by kernel_rfl) (by kernel_rfl)
      replace y0 : x 16 = .agg #[.slice none 0 0, .int .i64 0, .int .i64 0] := y0
      have hRc := hR.cell
      have hRf := hR.frozen
      have hRl := hR.lt
      have hC2 := three_chg u R (.slice none 0 0) (.int .i64 0) (.int .i64 0)
      clear hd hm
      go_simp
      exact hK'.out _ _ undef (by simp only [y0]; rfl) ⟨hX.chg hC2 hXR, hC.then (hC2.weak fun i _ e => Or.inl e), Blk.three hR _ _ _, hE.chg hC2 hne.symm⟩
    case sa4 =>
      obtain ⟨x1, rfl⟩ : ∃ x1, vs = [x1] := by match vs, hm 1 (by kernel_rfl) with | [x1], _ => exact ⟨_, rfl⟩
      obtain ⟨hX, hC, hR, hE⟩ := hF
      have y0 := hd 2 18 (by decide) (by kernel_rfl) (by kernel_rfl)
      replace y0 : x 18 = .agg #[.int .i64 m, .int .i64 c, .int .i64 k] := y0
      have hEc := hE.cell
      have hEf := hE.frozen
      have hEl := hE.lt
      have hC2 := three_chg u E (.int .i64 m) (.int .i64 c) (.int .i64 k)
      clear hd hm
      go_simp
      exact hK'.out _ _ undef (by simp only [y0]; rfl) ⟨hX.chg hC2 hXE, hC.then (hC2.weak fun i _ e => Or.inr e), hR.chg hC2 hne, Blk.three hE _ _ _⟩
  case fina =>
    intro x vs u hl hF hq
    obtain ⟨x1, x2, rfl⟩ : ∃ x1 x2, vs = [x1, x2] := by match vs, hl with | [_, _], _ => exact ⟨_, _, rfl⟩
    obtain ⟨-, hC, hR, hE⟩ := hF
    exact ⟨rfl, rfl, hR, hE, hC1.then hC⟩
theorem idle_link (R E : Nat) (w : World) :
    CallsD Tryd.prog 5 #[.pointer (some ⟨R, 0, none⟩), .pointer (some ⟨E, 0, none⟩)] .returning w fun e u' w' => e = .returned (.tuple #[]) ∧ u' = .returning ∧ w' = w := by
  refine callsD_of_wpS Tryd.func5 rfl fun c₀ cs hu => ?_
  apply wpS_seq
  apply wpS_region
  simp [wpOpsS, go_sem, recoverD, hu, Tryd.ntmps5, Exit.thenS]
  simp only [Array.replicate, List.replicate, List.append_toArray, List.setIfInBounds_toArray, List.set_cons_zero, List.set_cons_succ, List.cons_append, List.nil_append]
  refine wpS_of_wp (Code.wp_mono (Q := fun e a' w' => e = .normal ∧ a'.defers = [] ∧ w' = w) ?_ ?_)
  · rintro e a w1 ⟨rfl, hd, rfl⟩
    exact ⟨hd, .returning, by cases c₀; simp_all, _, results_none rfl _ _ _, rfl, rfl, rfl⟩
  clear hu
  go_wp2_with (fail)
end linkw
end Go.Proofs.YtpcihajmcejliabDoor
