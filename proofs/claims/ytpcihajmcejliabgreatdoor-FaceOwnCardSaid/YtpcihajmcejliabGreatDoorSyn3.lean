/- The reference's VarOf and ProcOf. Two rows that grow side by side: variables, and procedures whose parameters lie in rows of their own. A map from words to numbers that the call itself has made; must. The walk of the program's parser: expressions. The walk of the program's parser: unary. -/
import Derived.Maps.OwnSet
import Derived.Maps.OwnOps
import Derived.Test.YtpcihajmcejliabGreatDoorOfP
import Derived.Test.YtpcihajmcejliabGreatDoorSynR
namespace Go.Proofs.YtpcihajmcejliabGreatDoor
open Go.RowKit
namespace ofw
open synw
structure PC (w u : World) (P V : Nat) (nc : Array Value) (t : ByteArray) (b1 : Bool) (m2 : Int) (b4 : Bool) (m8 : Int) (rowN row : Value) (acc : List Int) : Prop where
 ext : Ext w u
 nd : Blk u P nc 66
 res : Blk u (P + 1) #[.string ⟨#[]⟩, .bool false, .slice none 0 0, .int .i64 0, .bool false, .int .i64 0] 179
 pv : Blk u V #[.string t, .bool b1, rowN, .int .i64 m2, .bool b4, .int .i64 m8] 179
 grow : Grow 1 3 OInt (V + 1) u row acc
 hw : w.heap.size ≤ P
 hV : P + 1 < V
theorem PC.extend {w u u' : World} {P V : Nat} {nc : Array Value} {t : ByteArray} {b1 : Bool} {m2 : Int} {b4 : Bool} {m8 : Int} {rowN row : Value} {acc : List Int} (h : PC w u P V nc t b1 m2 b4 m8 rowN row acc) (hE : Ext u u') : PC w u' P V nc t b1 m2 b4 m8 rowN row acc :=
 ⟨h.ext.ext hE, h.nd.ext hE, h.res.ext hE, h.pv.ext hE, h.grow.chg ofp.int_keeps hE (fun _ e => e.elim), h.hw, h.hV⟩
theorem PC.more {w u u' : World} {P V : Nat} {nc : Array Value} {t : ByteArray} {b1 : Bool} {m2 : Int} {b4 : Bool} {m8 : Int} {rowN row r : Value} {acc acc1 : List Int} (h : PC w u P V nc t b1 m2 b4 m8 rowN row acc) (hG : Grow 1 3 OInt (V + 1) u' r acc1) (hC : Chg (fun i => row.ownBlock = some i) u u') : PC w u' P V nc t b1 m2 b4 m8 rowN r acc1 := by
 have h1 := h.hw; have h2 := h.hV
 have ho := ofp.grow_own h.grow; exact ⟨h.ext.trans hC (fun i hi e => by have := ho i e; omega), h.nd.chg hC (fun e => by have := ho _ e; omega), h.res.chg hC (fun e => by have := ho _ e; omega), h.pv.chg hC (fun e => by have := ho _ e; omega), hG, h1, h2⟩
theorem PC.put {w u : World} {P V : Nat} {nc : Array Value} {t : ByteArray} {b1 : Bool} {m2 : Int} {b4 : Bool} {m8 : Int} {rowN row : Value} {acc : List Int} (h : PC w u P V nc t b1 m2 b4 m8 rowN row acc) : PC w (u.setCell ⟨V, 2, none⟩ row) P V nc t b1 m2 b4 m8 row row acc := by
 have h1 := h.hw; have h2 := h.hV
 have hC := chg_set (S := V) (Chg.refl _ u) 2 row; exact ⟨h.ext.trans hC (fun i hi e => by omega), h.nd.chg hC (by omega), h.res.chg hC (by omega), by have := h.pv.set 2 row; exact this, h.grow.chg ofp.int_keeps hC (fun i e => by omega), h1, h2⟩
end ofw
end Go.Proofs.YtpcihajmcejliabGreatDoor
namespace Go.Proofs.YtpcihajmcejliabGreatDoor
open Go.RowKit
structure GrowX {α : Type} (X : Nat → Bool) (k : Nat) (E : TypeId) (V : α → Value → World → Prop) (B : Nat) (w : World) (v : Value) (l : List α) : Prop where
 ex : ∃ us : List Value, us.length = l.length ∧ w.ownsRow B E k v l.length (us.flatMap fun u => u.cells.toList) ∧ ∀ j (h : j < l.length) (h' : j < us.length), V l[j] us[j] (hide (fun i => rowHid B v i || X i) w) ∧ us[j].cells.size = k
namespace ofp
theorem growx_nil {α : Type} (X : Nat → Bool) (k : Nat) (E : TypeId) (V : α → Value → World → Prop) (B : Nat) (w : World) : GrowX X k E V B w (.slice none 0 0) [] :=
 ⟨[], rfl, World.ownsRow_nil _ _ _ _, fun j h => by simp at h⟩
theorem growx_slice {α : Type} {X : Nat → Bool} {k : Nat} {E : TypeId} {V : α → Value → World → Prop} {B : Nat} {w : World} {row : Value} {acc : List α} (h : GrowX X k E V B w row acc) : ∃ a c, row = .slice a acc.length c ∧ (acc.length ≤ c ∧ c ≤ maxLen) := by
 obtain ⟨us, _, ho, _⟩ := h.ex; rcases ho.2 with ⟨rfl, h0⟩ | ⟨g, cap, cur, rfl, _, _, h1, h2, _⟩
 ·exact ⟨_, _, by rw [h0], by rw [h0]; exact ⟨Nat.le_refl _, by decide⟩⟩
 ·exact ⟨_, _, rfl, h1, h2⟩
theorem growx_own {α : Type} {X : Nat → Bool} {k : Nat} {E : TypeId} {V : α → Value → World → Prop} {B : Nat} {w : World} {row : Value} {acc : List α} (h : GrowX X k E V B w row acc) : ∀ i, row.ownBlock = some i → B ≤ i ∧ i < w.heap.size := by
 obtain ⟨us, _, ho, _⟩ := h.ex; exact fun i e => World.ownsRow.lt ho i e
theorem growx_chg {α : Type} {X X' : Nat → Bool} {k : Nat} {E : TypeId} {V : α → Value → World → Prop} {B : Nat} {w w' : World} {row : Value} {acc : List α} (h : GrowX X k E V B w row acc) (hV : ∀ x u w w', Keeps w w' → V x u w → V x u w') {S : Nat → Prop} (hC : Chg S w w')
  (hS : ∀ i, S i → i < B ∨ X i = true) (hO : ∀ i, row.ownBlock = some i → ¬ S i) (hX : ∀ i, X' i = true → X i = true ∨ w.heap.size ≤ i) : GrowX X' k E V B w' row acc := by
 obtain ⟨us, h1, ⟨h2, h4⟩, h3⟩ := h.ex; refine ⟨us, h1, ⟨h2, ?_⟩, fun j hj hj' => ⟨hV _ _ _ _ (keeps_hide hC.size fun i hi hm => ?_) (h3 j hj hj').1, (h3 j hj hj').2⟩⟩
 ·rcases h4 with h4 | ⟨g, cap, cur, hv, hg, hh, r⟩
  ·exact .inl h4
  ·refine .inr ⟨g, cap, cur, hv, hg, ?_, r⟩
   rw [hC.block g (Array.getElem?_eq_some_iff.1 hh).1 (hO g (by rw [hv]; rfl))]; exact hh
 ·simp only [Bool.or_eq_false_iff, rowHid, decide_eq_false_iff_not] at hm ⊢
  have h5 : X' i = false := by
   cases hx : X' i with
   | false => rfl
   | true =>
    rcases hX i hx with h | h
    ·rw [h] at hm; cases hm.2
    ·omega
  refine ⟨⟨⟨hm.1.1, hm.1.2⟩, h5⟩, hC.block i hi fun hs => ?_⟩
  rcases hS i hs with h | h
  ·exact hm.1.1 h
  ·rw [h] at hm; cases hm.2
theorem growx_row {α : Type} {X : Nat → Bool} {k : Nat} {E : TypeId} {V : α → Value → World → Prop} {In : World → Nat → Nat → α → Prop} {B : Nat} {w : World} {v : Value} {l : List α} (h : GrowX X k E V B w v l)
  (hV : ∀ x u w w', Keeps w w' → V x u w → V x u w')
  (hI : ∀ (w : World) b o x u, V x u w → u.cells.size = k → (∀ i, i < k → w.cell? ⟨b, o + i, none⟩ = u.cells[i]?) → In w b o x) : RowAt k In l v (hide (below B) w) := by
 obtain ⟨us, h1, h2, h3⟩ := h.ex; refine Grow.row (E := E) ⟨us, h1, h2, fun j hj hj' => ⟨hV _ _ _ _ (keeps_hide (Nat.le_refl _) fun i hi hm => ?_) (h3 j hj hj').1, (h3 j hj hj').2⟩⟩ hV hI
 simp only [Bool.or_eq_false_iff] at hm; exact ⟨hm.1, rfl⟩
theorem fresh_keeps {X : Nat → Bool} {A B : Nat} {row : Value} {w : World} (hB : B ≤ A) (hr : ∀ i, row.ownBlock = some i → i < A) (hX : ∀ i, X i = true → i < A) : Keeps (hide (below A) w) (hide (fun i => rowHid B row i || X i) w) := keeps_hide (Nat.le_refl _) fun i hi hm => by
 simp only [below, decide_eq_false_iff_not] at hm; refine ⟨?_, rfl⟩
 simp only [Bool.or_eq_false_iff, rowHid, decide_eq_false_iff_not]; refine ⟨⟨by omega, fun e => hm (hr i e)⟩, ?_⟩
 cases hx : X i with
 | false => rfl
 | true => exact absurd (hX i hx) hm
def ownB (v : Value) : Nat → Bool := fun i => decide (v.ownBlock = some i)
structure Two (B : Nat) (u : World) (rv rp : Value) (vs : List FVar) (ps : List FProc) : Prop where
 gv : Grow 4 82 OVar B u rv vs
 gp : GrowX (ownB rv) 6 179 OProc B u rp ps
 apart : ∀ i, rv.ownBlock = some i → rp.ownBlock ≠ some i
theorem Two.nil (B : Nat) (u : World) : Two B u (.slice none 0 0) (.slice none 0 0) [] [] := ⟨Grow.nil _ _ _ _ _, growx_nil _ _ _ _ _ _, fun i e => by cases e⟩
theorem Two.chg {B : Nat} {u u' : World} {rv rp : Value} {vs : List FVar} {ps : List FProc} (h : Two B u rv rp vs ps) {S : Nat → Prop} (hC : Chg S u u') (hS : ∀ i, S i → i < B) : Two B u' rv rp vs ps :=
 ⟨h.gv.chg var_keeps hC hS, growx_chg h.gp proc_keeps hC (fun i hi => .inl (hS i hi)) (fun i e hs => by have := growx_own h.gp i e; have := hS i hs; omega) (fun i e => .inl e), h.apart⟩
theorem Two.ext {B : Nat} {u u' : World} {rv rp : Value} {vs : List FVar} {ps : List FProc} (h : Two B u rv rp vs ps) (hE : Ext u u') : Two B u' rv rp vs ps := h.chg hE fun _ e => e.elim
theorem Two.pushV {B : Nat} {u w4 : World} {rv rp : Value} {vs : List FVar} {ps : List FProc} (h : Two B u rv rp vs ps) {o : Obj} {g c : Nat} {x : FVar} (hG : Grow 4 82 OVar B w4 (.slice (some ⟨g, 0, none⟩) (vs.length + 1) c) (vs ++ [x])) (hg : (u.alloc o).grownBy w4 rv.ownBlock) (ha : rv.ownBlock = some g ∨ g = u.heap.size + 1) : Two B w4 (.slice (some ⟨g, 0, none⟩) (vs.length + 1) c) rp (vs ++ [x]) ps := by
 have hC : Chg (fun i => rv.ownBlock = some i) u w4 := (((Chg.refl (fun _ => False) u).alloc o).weak (fun _ _ h => h.elim)).then (grown_own hg)
 refine ⟨hG, growx_chg h.gp proc_keeps hC (fun i hi => .inr (by simp [ownB, hi])) (fun i e hs => h.apart i hs e) (fun i e => ?_), fun i hi e => ?_⟩
 ·have : g = i := by simpa [ownB, Value.ownBlock] using e
  subst this; rcases ha with ha | ha
  ·exact .inl (by simp [ownB, ha])
  ·exact .inr (by omega)
 ·have : g = i := by simpa [Value.ownBlock] using hi
  subst this; rcases ha with ha | ha
  ·exact h.apart g ha e
  ·have := growx_own h.gp g e; omega
theorem Two.pushP {B : Nat} {u w4 : World} {rv rp : Value} {vs : List FVar} {ps : List FProc} (h : Two B u rv rp vs ps) {o : Obj} {g c : Nat} {x : FProc} (hG : GrowX (ownB rv) 6 179 OProc B w4 (.slice (some ⟨g, 0, none⟩) (ps.length + 1) c) (ps ++ [x])) (hg : (u.alloc o).grownBy w4 rp.ownBlock) (ha : rp.ownBlock = some g ∨ g = u.heap.size + 1) : Two B w4 rv (.slice (some ⟨g, 0, none⟩) (ps.length + 1) c) vs (ps ++ [x]) := by
 refine ⟨?_, hG, fun i hi e => ?_⟩
 ·obtain ⟨us, h1, h2, h3⟩ := (h.gv.chg var_keeps ((Chg.refl (fun _ => False) u).alloc o) (fun _ e => e.elim)).ex
  refine ⟨us, h1, h2.kept hg ?_, fun j hj hj' => ⟨(h3 j hj hj').1, (h3 j hj hj').2⟩⟩
  cases hr : rv.ownBlock with
  | none => exact .inl rfl
  | some i => exact .inr fun e => h.apart i hr e.symm
 ·have : g = i := by simpa [Value.ownBlock] using e
  subst this; rcases ha with ha | ha
  ·exact h.apart g hi ha
  ·have := grow_own h.gv g hi; omega
theorem Two.face {B : Nat} {u : World} {rv rp : Value} {vs : List FVar} {ps : List FProc} (h : Two B u rv rp vs ps) (t : ByteArray) (ht : t.size ≤ 10000) : FaceAt (hide (below B) u) ⟨t, vs, ps⟩ (.agg #[.string t, rv, rp]) := by
 obtain ⟨a, m, rfl, h1, h2, h3⟩ := h.gv.row var_keeps var_lies; obtain ⟨c, d, rfl, h4, h5, h6⟩ := growx_row h.gp proc_keeps proc_lies; exact ⟨a, m, c, d, rfl, h3, h6, small _ ht, h1, h2, h4, h5⟩
end ofp
end Go.Proofs.YtpcihajmcejliabGreatDoor
namespace Go.Proofs.YtpcihajmcejliabGreatDoor
open Go.RowKit Go.WideMaps Go.Maps
def assF (L : List (ByteArray × Int)) (s : ByteArray) : Option Int := match L with
 | [] => none
 | (x, v) :: r => if x = s then some v else assF r s
def keysF (L : List (ByteArray × Int)) : List (List UInt8) := L.map fun p => p.1.data.toList
namespace ofmap
theorem keyed : Keyed Tryz.prog 9 := string_keyed Tryz.underlying9
theorem zeroI (w : World) : (zeroValue 3).run Tryz.prog w = .ok (.int .i64 0) w := by kernel_rfl
theorem ass_snoc (L : List (ByteArray × Int)) (x s : ByteArray) (v : Int) : assF (L ++ [(x, v)]) s = match assF L s with
  | some c => some c
  | none => if x = s then some v else none := by
 induction L with
 | nil => simp [assF]
 | cons p r ih =>
  obtain ⟨y, c⟩ := p; simp only [List.cons_append, assF]; by_cases hy : y = s
  ·simp [hy]
  ·rw [if_neg hy, if_neg hy, ih]
theorem ass_keys (L : List (ByteArray × Int)) (s : ByteArray) : (assF L s).isSome = (keysF L).contains s.data.toList := by
 induction L with
 | nil => rfl
 | cons p r ih =>
  obtain ⟨y, c⟩ := p; simp only [assF, keysF, List.map_cons, List.contains_cons]; by_cases hy : y = s
  ·simp [hy]
  ·rw [if_neg hy, ih]
   have : ¬ s.data.toList = y.data.toList := fun e => hy (ByteArray.ext (Array.toList_inj.1 e.symm))
   have h2 : (s.data.toList == y.data.toList) = false := beq_eq_false_iff_ne.2 this; rw [h2, Bool.false_or]; rfl
def WMap (w : World) (b : Nat) (L : List (ByteArray × Int)) : Prop :=
 ∃ (D : DataW Unit), w.ownsMap Tryz.prog 9 (plainElem Tryz.prog 3) b L.length D ∧ Maps.size D = L.length ∧
  ∀ s : ByteArray, has D (.string s.data.toList) = (assF L s).isSome ∧ ∀ c : Int, D.atKey (.string s.data.toList) (.lit (.int .i64 0)) = .lit (.int .i64 c) → c = (assF L s).getD 0
theorem WMap.kept {w w' : World} {b : Nat} {L : List (ByteArray × Int)} (h : WMap w b L) {row : Option Nat} (hg : w.grownBy w' row) (hne : some b ≠ row) : WMap w' b L := by
 obtain ⟨D, h1, h2⟩ := h; exact ⟨D, h1.kept hg hne, h2⟩
theorem WMap.lt {w : World} {b : Nat} {L : List (ByteArray × Int)} (h : WMap w b L) : b < w.heap.size := by
 obtain ⟨D, h1, _⟩ := h; exact h1.lt
theorem WMap.chg {w w' : World} {b : Nat} {L : List (ByteArray × Int)} (h : WMap w b L) {S : Nat → Prop} (hC : Chg S w w') (hn : ¬ S b) : WMap w' b L := by
 obtain ⟨D, ⟨es, clock, hb, F, hs, hD⟩, h2⟩ := h; exact ⟨D, ⟨es, clock, (hC.block b (Array.getElem?_eq_some_iff.1 hb).1 hn).trans hb, F, hs, hD⟩, h2⟩
theorem WMap.drewN {w : World} {b : Nat} {L : List (ByteArray × Int)} (h : WMap w b L) (n : Nat) : WMap (w.drewN n) b L := h
theorem WMap.made (w : World) : WMap (w.alloc (.map #[] 0)) w.heap.size [] := by
 refine ⟨.map [], World.ownsMap_made _ _ _ _, rfl, fun s => ⟨rfl, fun c h => ?_⟩⟩
 rw [WideAt.atKey_none _ (by simp)] at h; simp at h
 simp [assF]; exact h.symm
theorem WMap.put {w : World} {b : Nat} {L : List (ByteArray × Int)} (h : WMap w b L) {x : ByteArray} {v : Int} (hx : assF L x = none) (hs : x.size ≤ maxLen) (hl : L.length < maxLen) (hv0 : 0 ≤ v) (hv : v < 9223372036854775808) :
  ∃ w', (Instr.mapUpdate 91 (.map (some b)) (.string x) (.int .i64 v)).run Tryz.prog w = .ok () w' ∧ WMap w' b (L ++ [(x, v)]) ∧ w.grownBy w' (some b) := by
 obtain ⟨D, hown, hsz, h2⟩ := h; have hkey := keyOf_string_mk (P := Tryz.prog) (k := 9) Tryz.underlying9 hs
 have hwf : (Lit.int .i64 v).wf = true := by
  simp only [Lit.wf, Bool.and_eq_true, decide_eq_true_eq, show IntKind.i64.min = -9223372036854775808 from rfl, show IntKind.i64.max = 9223372036854775807 from rfl]; omega
 obtain ⟨w', hrun, hM, hg⟩ := hown.update (t := 91) keyed Tryz.underlying91 hl hkey (plainElem_int (P := Tryz.prog) (q := .i64) Tryz.underlying3 (a := v) hwf); have hk : WideAt.IsKeyLit (.string x.data.toList) := by trivial
 refine ⟨w', hrun, ⟨_, by rw [List.length_append]; exact hM, ?_, fun s => ?_⟩, hg⟩
 ·rw [size_put (hown.tidy keyed), (h2 x).1, hx, hsz]
  simp
 rw [ass_snoc]; by_cases e : x = s
 ·subst e
  rw [has_put_same hown.isMap hk, hx]; refine ⟨by simp, fun c hc => ?_⟩
  rw [atKey_put_same hown.isMap hk] at hc; simp at hc ⊢
  exact hc.symm
 ·have hne : (Lit.string s.data.toList) ≠ .string x.data.toList := by
   intro h; exact e (ByteArray.ext (Array.ext' (by simpa using h.symm)))
  rw [has_put_other hne, (h2 s).1]; refine ⟨by cases assF L s <;> simp [e], fun c hc => ?_⟩
  rw [atKey_put_other hne] at hc; rw [(h2 s).2 c hc]; cases assF L s <;> simp [e]
theorem WMap.look {w : World} {b : Nat} {L : List (ByteArray × Int)} (h : WMap w b L) {s : ByteArray} (hs : s.size ≤ maxLen) :
  (Instr.lookup 91 (.map (some b)) (.string s) true).run Tryz.prog w = .ok (.tuple #[.int .i64 ((assF L s).getD 0), .bool (assF L s).isSome]) w := by
 obtain ⟨D, hown, -, h2⟩ := h; have hkey := keyOf_string_mk (P := Tryz.prog) (k := 9) Tryz.underlying9 hs; obtain ⟨v, ps, hrun2, hv⟩ := hown.look_ok (t := 91) keyed Tryz.underlying91 (zeroI w) (plainElem_int (P := Tryz.prog) (q := .i64) Tryz.underlying3 (a := 0) (by decide)) hkey; obtain ⟨c2, rfl, hc2, -⟩ := plainElem_int_inv Tryz.underlying3 hv; simp only [Prod.mk.injEq] at hc2; rw [(h2 s).2 c2 hc2.1, (h2 s).1] at hrun2; exact hrun2
theorem WMap.len {w : World} {b : Nat} {L : List (ByteArray × Int)} (h : WMap w b L) (ty : TypeId) : (Builtin.len_ #[91] ty #[.map (some b)]).run Tryz.prog w = .ok (.int .i64 (L.length : Nat)) w := by
 obtain ⟨D, hown, hsz, -⟩ := h; rw [← hsz]; exact hown.len (t := 91) Tryz.underlying91 ty
def firstV (c p : Int) : List PanicEntry := [{ v := .iface 266 (.agg #[.int .i64 c, .int .i64 p]), recovered := false }]
set_option maxRecDepth 100000 in
theorem must_yes (c p : Int) (w : World) : Calls Tryz.prog 184 #[.bool true, .int .i64 c, .int .i64 p] w fun e w' => e = .returned (.tuple #[]) ∧ w' = w := by
 go_enter Tryz.func184, Tryz.ntmps184
 go_wp2_with fail
 go_end0
 exact ⟨rfl, rfl⟩
set_option maxRecDepth 100000 in
theorem must_no (c p : Int) (w : World) : Calls Tryz.prog 184 #[.bool false, .int .i64 c, .int .i64 p] w fun e w' => e = .panicked (firstV c p) ∧ w' = w := by
 go_enter Tryz.func184, Tryz.ntmps184
 go_wp2_with fail
 exact ⟨rfl, rfl, rfl⟩
end ofmap
end Go.Proofs.YtpcihajmcejliabGreatDoor
namespace Go.Proofs.YtpcihajmcejliabGreatDoor
open Go.RowKit
namespace synw
set_option maxRecDepth 100000 in
set_option maxHeartbeats 4000000 in
theorem expr_any {n : Nat} (ih : ∀ m, m ≤ n → Good m) {W w : World} {S E : Nat} {l : List Tk} (h : PrAt W w S E l) (hm : MaxVar W) (hne : prs (n + 1) (.expr) l ≠ .out) :
  Calls Tryz.prog 323 #[.pointer (some ⟨S, 0, none⟩)] w (Pst (VN w.heap.size) W w S E (prs (n + 1) (.expr) l)) := by
 obtain ⟨T, hT⟩ : ∃ T, prs (n + 1) (.expr) l = T := ⟨_, rfl⟩; rw [hT] at hne ⊢; simp only [prs] at hT; have HT := Z_ hT; have HNE := Z_ hne; have HM := Z_ hm; have HAT : Hid (At W w (w.alloc (.cells #[.int .i64 0, .string ⟨#[]⟩, .int .i64 0, .slice none 0 0] 66)) S E w.heap.size l) := Z_ (At.start h); obtain ⟨A, hA⟩ : ∃ A, w.heap.size = A := ⟨_, rfl⟩; rw [hA] at HAT; have hSA : S < A := by have := h.lt; omega
 clear h hm hne hT; go_enter Tryz.func323, Tryz.ntmps323
 go_upto_region 1 with (fail)
 generalize w.alloc (.cells #[.int .i64 0, .string ⟨#[]⟩, .int .i64 0, .slice none 0 0] 66) = u0 at *; have HAT0 := HAT.out.lt; obtain ⟨B, hB⟩ : ∃ B, u0.heap.size = B := ⟨_, rfl⟩; rw [hB] at HAT0; have HN := Z_ (ih n (Nat.le_refl _) (.bound 0) _ _ HAT.out.pr HM.out rfl (Nat.zero_le _) (by rw [HT.out]; exact HNE.out)); go_wp2_with fail
 refine HN.out.mono ?_
 rintro e u1 hr; obtain ⟨hC, ⟨lb, hp, rfl⟩ | ⟨x1, l1, v1, hp, rfl, hv, hP⟩⟩ := hr.cases (by rw [HT.out]; exact HNE.out)
 ·have HF := Z_ (HT.out.symm.trans hp)
  have HC := Z_ (HAT.out.chg.then hC); clear hr hp hC; go_wp2_with fail
  exact ⟨rfl, Pst.fails HC.out HF.out⟩
 replace HT := Z_ (HT.out.symm.trans hp); replace HAT := Z_ (HAT.out.call hC hP); obtain ⟨ka1, ta1, ma1, aa1, na1, ca1, rfl⟩ := nd_form hv; have HV1 := Z_ hv; have hsz1 : u0.heap.size ≤ u1.heap.size := hC.size; clear hr hp hC hP hv HN; rw [hB] at HV1; have r0 := HAT.out.res.cell; have rf := HAT.out.res.frozen; have rl := HAT.out.res.lt; unfold zeroNd at r0; go_wp2_with fail
 refine ends_at rfl rfl rfl ((((HAT.out.res.set 0 _).set 1 _).set 2 _).set 3 _) Tryz.underlying66 rfl (by kernel_rfl) ?_
 exact ret_value HAT.out (below B) (HV1.out) (below_yes (by omega)) (fun i hi => below_yes (by omega)) (HT.out)
set_option maxRecDepth 100000 in
set_option maxHeartbeats 4000000 in
theorem asked_any {n : Nat} (ih : ∀ m, m ≤ n → Good m) {W w : World} {S E : Nat} {l : List Tk} (h : PrAt W w S E l) (hm : MaxVar W) (hne : prs (n + 1) (.asked) l ≠ .out) :
  Calls Tryz.prog 326 #[.pointer (some ⟨S, 0, none⟩)] w (Pst (VN w.heap.size) W w S E (prs (n + 1) (.asked) l)) := by
 obtain ⟨T, hT⟩ : ∃ T, prs (n + 1) (.asked) l = T := ⟨_, rfl⟩; rw [hT] at hne ⊢; simp only [prs] at hT; have HT := Z_ hT; have HNE := Z_ hne; have HM := Z_ hm; have HAT : Hid (At W w (w.alloc (.cells #[.int .i64 0, .string ⟨#[]⟩, .int .i64 0, .slice none 0 0] 66)) S E w.heap.size l) := Z_ (At.start h); obtain ⟨A, hA⟩ : ∃ A, w.heap.size = A := ⟨_, rfl⟩; rw [hA] at HAT; have hSA : S < A := by have := h.lt; omega
 clear h hm hne hT; go_enter Tryz.func326, Tryz.ntmps326
 go_upto_region 1 with (fail)
 generalize w.alloc (.cells #[.int .i64 0, .string ⟨#[]⟩, .int .i64 0, .slice none 0 0] 66) = u0 at *; have HN := Z_ (need_any (HAT.out.pr.alloc (.cells #[.string sOpen] 9)) u0.heap.size 1 sOpen ((Blk.made u0 #[.string sOpen] 9).cell 0)); have hEx := (Chg.refl (fun _ => False) u0).alloc (.cells #[.string sOpen] 9); replace HAT := Z_ (HAT.out.extend hEx); clear hEx; go_wp2_with fail
 refine HN.out.mono ?_
 rintro e u1 hr; obtain ⟨hC, ⟨lb, hp, rfl⟩ | ⟨_, l1, _, hp, rfl, rfl, hP⟩⟩ := hr.cases (pNeed_ne _ _)
 ·have HF := Z_ (Out.bind_bad HT.out hp)
  have HC := Z_ (HAT.out.chg.then hC); clear hr hp hC; go_wp2_with fail
  exact ⟨rfl, Pst.fails HC.out HF.out⟩
 replace HT := Z_ (Out.bind_got HT.out hp); replace HAT := Z_ (HAT.out.call hC hP); clear hr hp hC hP HN; have HAT0 := HAT.out.lt; obtain ⟨B, hB⟩ : ∃ B, u1.heap.size = B := ⟨_, rfl⟩; rw [hB] at HAT0; have HN := Z_ (ih n (Nat.le_refl _) (.expr) _ _ HAT.out.pr HM.out rfl trivial (Out.bind_ne HT.out HNE.out)); go_wp2_with fail
 refine HN.out.mono ?_
 rintro e u2 hr; obtain ⟨hC, ⟨lb, hp, rfl⟩ | ⟨x2, l2, v2, hp, rfl, hv, hP⟩⟩ := hr.cases (Out.bind_ne HT.out HNE.out)
 ·have HF := Z_ (Out.bind_bad HT.out hp)
  have HC := Z_ (HAT.out.chg.then hC); clear hr hp hC; go_wp2_with fail
  exact ⟨rfl, Pst.fails HC.out HF.out⟩
 replace HT := Z_ (Out.bind_got HT.out hp); replace HAT := Z_ (HAT.out.call hC hP); obtain ⟨ka2, ta2, ma2, aa2, na2, ca2, rfl⟩ := nd_form hv; have HV2 := Z_ hv; have hsz2 : u1.heap.size ≤ u2.heap.size := hC.size; clear hr hp hC hP hv HN; rw [hB] at HV2 hsz2; have HL := Z_ (Loc.start HV2.out (by omega : S < B) hsz2 (c := #[.int .i64 ka2, .string ta2, .int .i64 ma2, .slice aa2 na2 ca2]) rfl); replace HAT := Z_ (HAT.out.alloc (.cells #[.int .i64 ka2, .string ta2, .int .i64 ma2, .slice aa2 na2 ca2] 66)); obtain ⟨N, hN⟩ : ∃ N, u2.heap.size = N := ⟨_, rfl⟩; have hBN : B ≤ N := hN ▸ hsz2
 rw [hN] at HL; go_upto_region 3 with (fail)
 generalize u2.alloc (.cells #[.int .i64 ka2, .string ta2, .int .i64 ma2, .slice aa2 na2 ca2] 66) = u9 at *; have HN := Z_ (need_any (HAT.out.pr.alloc (.cells #[.string sClose] 9)) u9.heap.size 1 sClose ((Blk.made u9 #[.string sClose] 9).cell 0)); have hEx := (Chg.refl (fun _ => False) u9).alloc (.cells #[.string sClose] 9); replace HAT := Z_ (HAT.out.extend hEx); replace HL := Z_ (HL.out.extend hEx); clear hEx; go_wp2_with fail
 refine HN.out.mono ?_
 rintro e u3 hr; obtain ⟨hC, ⟨lb, hp, rfl⟩ | ⟨_, l3, _, hp, rfl, rfl, hP⟩⟩ := hr.cases (pNeed_ne _ _)
 ·have HF := Z_ (Out.bind_bad HT.out hp)
  have HC := Z_ (HAT.out.chg.then hC); clear hr hp hC; go_wp2_with fail
  exact ⟨rfl, Pst.fails HC.out HF.out⟩
 replace HT := Z_ (Out.bind_got HT.out hp); replace HAT := Z_ (HAT.out.call hC hP); replace HL := Z_ (HL.out.call hC); clear hr hp hC hP HN; have hc := HL.out.nd.cell; simp only [Value.cells] at hc; have r0 := HAT.out.res.cell; have rf := HAT.out.res.frozen; have rl := HAT.out.res.lt; unfold zeroNd at r0; go_wp2_with fail
 refine ends_at rfl rfl rfl ((((HAT.out.res.set 0 _).set 1 _).set 2 _).set 3 _) Tryz.underlying66 rfl (by kernel_rfl) ?_
 exact ret_value HAT.out (hidB B N) (HL.out.dat) (hidB_yes (by omega)) (fun i hi => hidB_yes (by omega)) (HT.out.symm)
set_option maxRecDepth 100000 in
set_option maxHeartbeats 4000000 in
theorem place_any {n : Nat} (ih : ∀ m, m ≤ n → Good m) {W w : World} {S E : Nat} {l : List Tk} {s : ByteArray} (h : PrAt W w S E l) (hm : MaxVar W) (hs : s.size ≤ 7000) (hne : prs (n + 1) (.place s) l ≠ .out) :
  Calls Tryz.prog 327 #[.pointer (some ⟨S, 0, none⟩), .string s] w (Pst (VN w.heap.size) W w S E (prs (n + 1) (.place s) l)) := by
 obtain ⟨T, hT⟩ : ∃ T, prs (n + 1) (.place s) l = T := ⟨_, rfl⟩; rw [hT] at hne ⊢; simp only [prs] at hT; have HT := Z_ hT; have HNE := Z_ hne; have HM := Z_ hm; have HAT : Hid (At W w (w.alloc (.cells #[.int .i64 0, .string ⟨#[]⟩, .int .i64 0, .slice none 0 0] 66)) S E w.heap.size l) := Z_ (At.start h); obtain ⟨A, hA⟩ : ∃ A, w.heap.size = A := ⟨_, rfl⟩; rw [hA] at HAT; have hSA : S < A := by have := h.lt; omega
 clear h hm hne hT; go_enter Tryz.func327, Tryz.ntmps327
 go_upto_region 1 with (fail)
 generalize w.alloc (.cells #[.int .i64 0, .string ⟨#[]⟩, .int .i64 0, .slice none 0 0] 66) = u0 at *; have HH := Z_ (have_any HAT.out.pr sBra); have HLE := Z_ (fun (h : isB l [sBra] = true) => synm.tail_lt h); generalize isB l [sBra] = R at *; go_wp2_with fail
 refine HH.out.mono ?_
 rintro e u1 ⟨rfl, hC, hP⟩; cases R with
 | false =>
  replace hP : PrAt W u1 S E l := by simpa using hP
  have HT0 := HT.out; clear HT; simp only [Bool.false_eq_true, ↓reduceIte] at HT0; have HT := Z_ HT0; clear HT0; replace HAT := Z_ (HAT.out.call hC hP); clear hC hP HH HLE; go_wp2_with fail
  refine (node_any _ _ _ _ _ _ _).mono ?_
  rintro e u2 ⟨rfl, hE⟩; replace HAT := Z_ (HAT.out.extend hE); have HAT0 := HAT.out.lt; clear hE; have r0 := HAT.out.res.cell; have rf := HAT.out.res.frozen; have rl := HAT.out.res.lt; unfold zeroNd at r0; go_wp2_with fail
  refine ends_at rfl rfl rfl ((((HAT.out.res.set 0 _).set 1 _).set 2 _).set 3 _) Tryz.underlying66 rfl (by kernel_rfl) ?_
  exact ret_value HAT.out (below (A + 1)) (ndAt_leaf _ _ _ _ (by omega)) (below_yes (by omega)) (fun i hi => below_yes (by omega)) (HT.out.symm)
 | true =>
  replace hP : PrAt W u1 S E l.tail := by simpa using hP
  have HT0 := HT.out; clear HT; simp only [↓reduceIte] at HT0; have HT := Z_ HT0; clear HT0; replace HAT := Z_ (HAT.out.call hC hP); clear hC hP HH HLE; have HAT0 := HAT.out.lt; obtain ⟨B, hB⟩ : ∃ B, u1.heap.size = B := ⟨_, rfl⟩; rw [hB] at HAT0; have HN := Z_ (ih n (Nat.le_refl _) (.expr) _ _ HAT.out.pr HM.out rfl trivial (Out.bind_ne HT.out HNE.out)); go_wp2_with fail
  refine HN.out.mono ?_
  rintro e u4 hr; obtain ⟨hC, ⟨lb, hp, rfl⟩ | ⟨x4, l4, v4, hp, rfl, hv, hP⟩⟩ := hr.cases (Out.bind_ne HT.out HNE.out)
  ·have HF := Z_ (Out.bind_bad HT.out hp)
   have HC := Z_ (HAT.out.chg.then hC); clear hr hp hC; go_wp2_with fail
   exact ⟨rfl, Pst.fails HC.out HF.out⟩
  replace HT := Z_ (Out.bind_got HT.out hp); replace HAT := Z_ (HAT.out.call hC hP); obtain ⟨ka4, ta4, ma4, aa4, na4, ca4, rfl⟩ := nd_form hv; have HV4 := Z_ hv; have hsz4 : u1.heap.size ≤ u4.heap.size := hC.size; clear hr hp hC hP hv HN; rw [hB] at HV4 hsz4; have HL := Z_ (Loc.start HV4.out (by omega : S < B) hsz4 (c := #[.int .i64 ka4, .string ta4, .int .i64 ma4, .slice aa4 na4 ca4]) rfl); replace HAT := Z_ (HAT.out.alloc (.cells #[.int .i64 ka4, .string ta4, .int .i64 ma4, .slice aa4 na4 ca4] 66)); obtain ⟨N, hN⟩ : ∃ N, u4.heap.size = N := ⟨_, rfl⟩; have hBN : B ≤ N := hN ▸ hsz4
  rw [hN] at HL; go_upto_region 4 with (fail)
  generalize u4.alloc (.cells #[.int .i64 ka4, .string ta4, .int .i64 ma4, .slice aa4 na4 ca4] 66) = u9 at *; have HN := Z_ (need_any (HAT.out.pr.alloc (.cells #[.string sKet] 9)) u9.heap.size 1 sKet ((Blk.made u9 #[.string sKet] 9).cell 0)); have hEx := (Chg.refl (fun _ => False) u9).alloc (.cells #[.string sKet] 9); replace HAT := Z_ (HAT.out.extend hEx); replace HL := Z_ (HL.out.extend hEx); clear hEx; go_wp2_with fail
  refine HN.out.mono ?_
  rintro e u5 hr; obtain ⟨hC, ⟨lb, hp, rfl⟩ | ⟨_, l5, _, hp, rfl, rfl, hP⟩⟩ := hr.cases (pNeed_ne _ _)
  ·have HF := Z_ (Out.bind_bad HT.out hp)
   have HC := Z_ (HAT.out.chg.then hC); clear hr hp hC; go_wp2_with fail
   exact ⟨rfl, Pst.fails HC.out HF.out⟩
  replace HT := Z_ (Out.bind_got HT.out hp); replace HAT := Z_ (HAT.out.call hC hP); replace HL := Z_ (HL.out.call hC); clear hr hp hC hP HN; have hNu := HL.out.nd.lt; replace HR := Z_ (nd_row1 HL.out.dat (by simp [hidB]; omega) 17 0 s (by first | omega | decide) (c := #[.int .i64 ka4, .string ta4, .int .i64 ma4, .slice aa4 na4 ca4]) rfl); have hc := HL.out.nd.cell; simp only [Value.cells] at hc; have hEx := (Chg.refl (fun _ => False) u5).alloc (.cells #[.int .i64 ka4, .string ta4, .int .i64 ma4, .slice aa4 na4 ca4] 66); replace HAT := Z_ (HAT.out.extend hEx); clear hEx; go_wp2_with fail
  refine (node_any _ _ _ _ _ _ _).mono ?_
  rintro e u6 ⟨rfl, hE⟩; replace HAT := Z_ (HAT.out.extend hE); replace HR := Z_ (ndAt_keeps (keeps_chg hE fun _ _ h => h.elim) _ _ HR.out); clear hE hc; have r0 := HAT.out.res.cell; have rf := HAT.out.res.frozen; have rl := HAT.out.res.lt; unfold zeroNd at r0; go_wp2_with fail
  refine ends_at rfl rfl rfl ((((HAT.out.res.set 0 _).set 1 _).set 2 _).set 3 _) Tryz.underlying66 rfl (by kernel_rfl) ?_
  exact ret_value HAT.out (hidB B N) (HR.out) (hidB_yes (by omega)) (fun i hi => hidB_yes (by omega)) (HT.out.symm)
set_option maxRecDepth 100000 in
set_option maxHeartbeats 4000000 in
theorem op_any (s : ByteArray) (w : World) : Calls Tryz.prog 291 #[.string s] w fun e w' => e = .returned (.tuple #[.int .i64 (opOf s).1, .int .i64 (opOf s).2]) ∧ w = w' := by
 by_cases h0 : s = ⟨#[61, 61]⟩
 ·subst h0
  go_enter Tryz.func291, Tryz.ntmps291
  go_wp2_with fail
  go_ret2
  exact ⟨rfl, rfl⟩
 by_cases h1 : s = ⟨#[60]⟩
 ·subst h1
  go_enter Tryz.func291, Tryz.ntmps291
  go_wp2_with fail
  go_ret2
  exact ⟨rfl, rfl⟩
 by_cases h2 : s = ⟨#[43]⟩
 ·subst h2
  go_enter Tryz.func291, Tryz.ntmps291
  go_wp2_with fail
  go_ret2
  exact ⟨rfl, rfl⟩
 by_cases h3 : s = ⟨#[45]⟩
 ·subst h3
  go_enter Tryz.func291, Tryz.ntmps291
  go_wp2_with fail
  go_ret2
  exact ⟨rfl, rfl⟩
 by_cases h4 : s = ⟨#[124]⟩
 ·subst h4
  go_enter Tryz.func291, Tryz.ntmps291
  go_wp2_with fail
  go_ret2
  exact ⟨rfl, rfl⟩
 by_cases h5 : s = ⟨#[42]⟩
 ·subst h5
  go_enter Tryz.func291, Tryz.ntmps291
  go_wp2_with fail
  go_ret2
  exact ⟨rfl, rfl⟩
 by_cases h6 : s = ⟨#[47]⟩
 ·subst h6
  go_enter Tryz.func291, Tryz.ntmps291
  go_wp2_with fail
  go_ret2
  exact ⟨rfl, rfl⟩
 by_cases h7 : s = ⟨#[37]⟩
 ·subst h7
  go_enter Tryz.func291, Tryz.ntmps291
  go_wp2_with fail
  go_ret2
  exact ⟨rfl, rfl⟩
 by_cases h8 : s = ⟨#[38]⟩
 ·subst h8
  go_enter Tryz.func291, Tryz.ntmps291
  go_wp2_with fail
  go_ret2
  exact ⟨rfl, rfl⟩
 have g0 : (s.toList == [61, 61]) = false := by
  have := str_eq (a := s) (b := ⟨#[61, 61]⟩); rw [show ((⟨#[61, 61]⟩ : ByteArray).toList) = [61, 61] by rw [ByteArray.toList_eq]] at this; rw [this]; simpa using h0
 have g1 : (s.toList == [60]) = false := by
  have := str_eq (a := s) (b := ⟨#[60]⟩); rw [show ((⟨#[60]⟩ : ByteArray).toList) = [60] by rw [ByteArray.toList_eq]] at this; rw [this]; simpa using h1
 have g2 : (s.toList == [43]) = false := by
  have := str_eq (a := s) (b := ⟨#[43]⟩); rw [show ((⟨#[43]⟩ : ByteArray).toList) = [43] by rw [ByteArray.toList_eq]] at this; rw [this]; simpa using h2
 have g3 : (s.toList == [45]) = false := by
  have := str_eq (a := s) (b := ⟨#[45]⟩); rw [show ((⟨#[45]⟩ : ByteArray).toList) = [45] by rw [ByteArray.toList_eq]] at this; rw [this]; simpa using h3
 have g4 : (s.toList == [124]) = false := by
  have := str_eq (a := s) (b := ⟨#[124]⟩); rw [show ((⟨#[124]⟩ : ByteArray).toList) = [124] by rw [ByteArray.toList_eq]] at this; rw [this]; simpa using h4
 have g5 : (s.toList == [42]) = false := by
  have := str_eq (a := s) (b := ⟨#[42]⟩); rw [show ((⟨#[42]⟩ : ByteArray).toList) = [42] by rw [ByteArray.toList_eq]] at this; rw [this]; simpa using h5
 have g6 : (s.toList == [47]) = false := by
  have := str_eq (a := s) (b := ⟨#[47]⟩); rw [show ((⟨#[47]⟩ : ByteArray).toList) = [47] by rw [ByteArray.toList_eq]] at this; rw [this]; simpa using h6
 have g7 : (s.toList == [37]) = false := by
  have := str_eq (a := s) (b := ⟨#[37]⟩); rw [show ((⟨#[37]⟩ : ByteArray).toList) = [37] by rw [ByteArray.toList_eq]] at this; rw [this]; simpa using h7
 have g8 : (s.toList == [38]) = false := by
  have := str_eq (a := s) (b := ⟨#[38]⟩); rw [show ((⟨#[38]⟩ : ByteArray).toList) = [38] by rw [ByteArray.toList_eq]] at this; rw [this]; simpa using h8
 have hT : opOf s = (0, -1) := by simp only [opOf, if_neg h0, if_neg h1, if_neg h2, if_neg h3, if_neg h4, if_neg h5, if_neg h6, if_neg h7, if_neg h8]
 rw [hT]; clear hT h0 h1 h2 h3 h4 h5 h6 h7 h8; go_enter Tryz.func291, Tryz.ntmps291
 go_wp2_with fail
 go_ret2
 exact ⟨rfl, rfl⟩
end synw
end Go.Proofs.YtpcihajmcejliabGreatDoor
namespace Go.Proofs.YtpcihajmcejliabGreatDoor
open Go.RowKit
namespace synw
set_option maxRecDepth 100000 in
set_option maxHeartbeats 4000000 in
theorem unary_any {n : Nat} (ih : ∀ m, m ≤ n → Good m) {W w : World} {S E : Nat} {l : List Tk} (h : PrAt W w S E l) (hm : MaxVar W) (hne : prs (n + 1) (.unary) l ≠ .out) :
  Calls Tryz.prog 363 #[.pointer (some ⟨S, 0, none⟩)] w (Pst (VN w.heap.size) W w S E (prs (n + 1) (.unary) l)) := by
 obtain ⟨T, hT⟩ : ∃ T, prs (n + 1) (.unary) l = T := ⟨_, rfl⟩; rw [hT] at hne ⊢; simp only [prs] at hT; have HT := Z_ hT; have HNE := Z_ hne; have HM := Z_ hm; have HAT : Hid (At W w (w.alloc (.cells #[.int .i64 0, .string ⟨#[]⟩, .int .i64 0, .slice none 0 0] 66)) S E w.heap.size l) := Z_ (At.start h); obtain ⟨A, hA⟩ : ∃ A, w.heap.size = A := ⟨_, rfl⟩; rw [hA] at HAT; have hSA : S < A := by have := h.lt; omega
 clear h hm hne hT; go_enter Tryz.func363, Tryz.ntmps363
 go_upto_region 1 with (fail)
 generalize w.alloc (.cells #[.int .i64 0, .string ⟨#[]⟩, .int .i64 0, .slice none 0 0] 66) = u0 at *; have HH := Z_ (have_any HAT.out.pr sMinus); have HLE := Z_ (fun (h : isB l [sMinus] = true) => synm.tail_lt h); generalize isB l [sMinus] = R at *; go_wp2_with fail
 refine HH.out.mono ?_
 rintro e u1 ⟨rfl, hC, hP⟩; cases R with
 | false =>
  replace hP : PrAt W u1 S E l := by simpa using hP
  have HT0 := HT.out; clear HT; simp only [Bool.false_eq_true, ↓reduceIte] at HT0; have HT := Z_ HT0; clear HT0; replace HAT := Z_ (HAT.out.call hC hP); clear hC hP HH HLE; have HH := Z_ (have_any HAT.out.pr sNot); have HLE := Z_ (fun (h : isB l [sNot] = true) => synm.tail_lt h); generalize isB l [sNot] = R at *; go_wp2_with fail
  refine HH.out.mono ?_
  rintro e u2 ⟨rfl, hC, hP⟩; cases R with
  | false =>
   replace hP : PrAt W u2 S E l := by simpa using hP
   have HT0 := HT.out; clear HT; simp only [Bool.false_eq_true, ↓reduceIte] at HT0; have HT := Z_ HT0; clear HT0; replace HAT := Z_ (HAT.out.call hC hP); clear hC hP HH HLE
   have HH := Z_ (is_any (HAT.out.pr.alloc (.cells #[.string sOpen] 9)) u2.heap.size [sOpen] 1 1 rfl (by decide) (fun j hj => by
    obtain rfl : j = 0 := by simpa using hj
    exact (Blk.made u2 #[.string sOpen] 9).cell 0) (by simp))
   have hEx := (Chg.refl (fun _ => False) u2).alloc (.cells #[.string sOpen] 9); replace HAT := Z_ (HAT.out.extend hEx); clear hEx; generalize isB l [sOpen] = R at *; go_wp2_with fail
   refine HH.out.mono ?_
   rintro e u3 ⟨rfl, hE⟩; replace HAT := Z_ (HAT.out.extend hE); clear hE HH; cases R with
   | false =>
    have HT0 := HT.out; clear HT; simp only [Bool.false_eq_true, ↓reduceIte] at HT0; have HT := Z_ HT0; clear HT0; have HH := Z_ (peek_any HAT.out.pr); have hk := hd_kind E l; generalize hdTk E l = tk0 at HH hk; obtain ⟨tk, tt, ta⟩ := tk0; simp only at hk; unfold tkV at HH; go_wp2_with fail
    refine HH.out.mono ?_
    rintro e u4 ⟨rfl, hE⟩; replace HAT := Z_ (HAT.out.extend hE); have hfi := field_kind (.int .i64 tk) (.string tt) (.int .i64 ta) u4; rw [← hk] at HT; clear hE HH hk; by_cases hk2 : tk = 2
    ·subst hk2
     have HT0 := HT.out; clear HT; simp only [↓reduceIte] at HT0; have HT := Z_ HT0; clear HT0; have HAT0 := HAT.out.lt; obtain ⟨B, hB⟩ : ∃ B, u4.heap.size = B := ⟨_, rfl⟩; rw [hB] at HAT0; have HN := Z_ (number_any HAT.out.pr); go_wp2_with fail
     refine HN.out.mono ?_
     rintro e u5 hr; obtain ⟨hC, ⟨lb, hp, rfl⟩ | ⟨x, l5, v, hp, rfl, hv, hP⟩⟩ := hr.cases (by rw [HT.out]; exact HNE.out)
     ·have HF := Z_ (HT.out.symm.trans hp)
      have HC := Z_ (HAT.out.chg.then hC); clear hr hp hC; go_wp2_with fail
      exact ⟨rfl, Pst.fails HC.out HF.out⟩
     replace HT := Z_ (HT.out.symm.trans hp); replace HAT := Z_ (HAT.out.call hC hP); obtain ⟨ka, ta, ma, aa, na, ca, rfl⟩ := nd_form hv; have HV := Z_ (show VN _ _ _ _ from hv); clear hr hp hC hP hv HN; rw [hB] at HV; have r0 := HAT.out.res.cell; have rf := HAT.out.res.frozen; have rl := HAT.out.res.lt; unfold zeroNd at r0; go_wp2_with fail
     refine ends_at rfl rfl rfl ((((HAT.out.res.set 0 _).set 1 _).set 2 _).set 3 _) Tryz.underlying66 rfl (by kernel_rfl) ?_
     exact ret_value HAT.out (below B) (HV.out) (below_yes (by omega)) (fun i hi => below_yes (by omega)) (HT.out)
    ·have HT0 := HT.out
     clear HT; simp only [if_neg hk2] at HT0; have HT := Z_ HT0; clear HT0; have hk3 : (tk == 2) = false := by simpa using hk2
     have HN := Z_ (whole_any HAT.out.pr HM.out); go_wp2_with fail
     refine HN.out.mono ?_
     rintro e u6 hr; obtain ⟨hC, ⟨lb, hp, rfl⟩ | ⟨s6, l6, v, hp, rfl, ⟨rfl, hs⟩, hP⟩⟩ := hr.cases (pWhole_ne _)
     ·have HF := Z_ (Out.bind_bad HT.out hp)
      have HC := Z_ (HAT.out.chg.then hC); clear hr hp hC; go_wp2_with fail
      exact ⟨rfl, Pst.fails HC.out HF.out⟩
     replace HT := Z_ (Out.bind_got HT.out hp); replace HAT := Z_ (HAT.out.call hC hP); have HSZ := Z_ hs; clear hr hp hC hP HN; clear hs
     have HH := Z_ (is_any (HAT.out.pr.alloc (.cells #[.string sOpen] 9)) u6.heap.size [sOpen] 1 1 rfl (by decide) (fun j hj => by
      obtain rfl : j = 0 := by simpa using hj
      exact (Blk.made u6 #[.string sOpen] 9).cell 0) (by simp))
     have hEx := (Chg.refl (fun _ => False) u6).alloc (.cells #[.string sOpen] 9); replace HAT := Z_ (HAT.out.extend hEx); clear hEx; generalize isB l6 [sOpen] = R at *; go_wp2_with fail
     refine HH.out.mono ?_
     rintro e u7 ⟨rfl, hE⟩; replace HAT := Z_ (HAT.out.extend hE); clear hE HH; cases R with
     | false =>
      have HT0 := HT.out; clear HT; simp only [Bool.false_eq_true, ↓reduceIte] at HT0; have HT := Z_ HT0; clear HT0; have HAT0 := HAT.out.lt; obtain ⟨B, hB⟩ : ∃ B, u7.heap.size = B := ⟨_, rfl⟩; rw [hB] at HAT0; have HN := Z_ (ih n (Nat.le_refl _) (.place s6) _ _ HAT.out.pr HM.out rfl HSZ.out (by rw [HT.out]; exact HNE.out)); go_wp2_with fail
      refine HN.out.mono ?_
      rintro e u8 hr; obtain ⟨hC, ⟨lb, hp, rfl⟩ | ⟨x8, l8, v8, hp, rfl, hv, hP⟩⟩ := hr.cases (by rw [HT.out]; exact HNE.out)
      ·have HF := Z_ (HT.out.symm.trans hp)
       have HC := Z_ (HAT.out.chg.then hC); clear hr hp hC; go_wp2_with fail
       exact ⟨rfl, Pst.fails HC.out HF.out⟩
      replace HT := Z_ (HT.out.symm.trans hp); replace HAT := Z_ (HAT.out.call hC hP); obtain ⟨ka8, ta8, ma8, aa8, na8, ca8, rfl⟩ := nd_form hv; have HV8 := Z_ hv; have hsz8 : u7.heap.size ≤ u8.heap.size := hC.size; clear hr hp hC hP hv HN; rw [hB] at HV8; have r0 := HAT.out.res.cell; have rf := HAT.out.res.frozen; have rl := HAT.out.res.lt; unfold zeroNd at r0; go_wp2_with fail
      refine ends_at rfl rfl rfl ((((HAT.out.res.set 0 _).set 1 _).set 2 _).set 3 _) Tryz.underlying66 rfl (by kernel_rfl) ?_
      exact ret_value HAT.out (below B) (HV8.out) (below_yes (by omega)) (fun i hi => below_yes (by omega)) (HT.out)
     | true =>
      have HT0 := HT.out; clear HT; simp only [↓reduceIte] at HT0; have HT := Z_ HT0; clear HT0; have HAT0 := HAT.out.lt; obtain ⟨B, hB⟩ : ∃ B, u7.heap.size = B := ⟨_, rfl⟩; rw [hB] at HAT0; have HN := Z_ (ih n (Nat.le_refl _) (.call s6) _ _ HAT.out.pr HM.out rfl HSZ.out (by rw [HT.out]; exact HNE.out)); go_wp2_with fail
      refine HN.out.mono ?_
      rintro e u9 hr; obtain ⟨hC, ⟨lb, hp, rfl⟩ | ⟨x9, l9, v9, hp, rfl, hv, hP⟩⟩ := hr.cases (by rw [HT.out]; exact HNE.out)
      ·have HF := Z_ (HT.out.symm.trans hp)
       have HC := Z_ (HAT.out.chg.then hC); clear hr hp hC; go_wp2_with fail
       exact ⟨rfl, Pst.fails HC.out HF.out⟩
      replace HT := Z_ (HT.out.symm.trans hp); replace HAT := Z_ (HAT.out.call hC hP); obtain ⟨ka9, ta9, ma9, aa9, na9, ca9, rfl⟩ := nd_form hv; have HV9 := Z_ hv; have hsz9 : u7.heap.size ≤ u9.heap.size := hC.size; clear hr hp hC hP hv HN; rw [hB] at HV9; have r0 := HAT.out.res.cell; have rf := HAT.out.res.frozen; have rl := HAT.out.res.lt; unfold zeroNd at r0; go_wp2_with fail
      refine ends_at rfl rfl rfl ((((HAT.out.res.set 0 _).set 1 _).set 2 _).set 3 _) Tryz.underlying66 rfl (by kernel_rfl) ?_
      exact ret_value HAT.out (below B) (HV9.out) (below_yes (by omega)) (fun i hi => below_yes (by omega)) (HT.out)
   | true =>
    have HT0 := HT.out; clear HT; simp only [↓reduceIte] at HT0; have HT := Z_ HT0; clear HT0; have HAT0 := HAT.out.lt; obtain ⟨B, hB⟩ : ∃ B, u3.heap.size = B := ⟨_, rfl⟩; rw [hB] at HAT0; have HN := Z_ (ih n (Nat.le_refl _) (.asked) _ _ HAT.out.pr HM.out rfl trivial (by rw [HT.out]; exact HNE.out)); go_wp2_with fail
    refine HN.out.mono ?_
    rintro e u10 hr; obtain ⟨hC, ⟨lb, hp, rfl⟩ | ⟨x10, l10, v10, hp, rfl, hv, hP⟩⟩ := hr.cases (by rw [HT.out]; exact HNE.out)
    ·have HF := Z_ (HT.out.symm.trans hp)
     have HC := Z_ (HAT.out.chg.then hC); clear hr hp hC; go_wp2_with fail
     exact ⟨rfl, Pst.fails HC.out HF.out⟩
    replace HT := Z_ (HT.out.symm.trans hp); replace HAT := Z_ (HAT.out.call hC hP); obtain ⟨ka10, ta10, ma10, aa10, na10, ca10, rfl⟩ := nd_form hv; have HV10 := Z_ hv; have hsz10 : u3.heap.size ≤ u10.heap.size := hC.size; clear hr hp hC hP hv HN; rw [hB] at HV10; have r0 := HAT.out.res.cell; have rf := HAT.out.res.frozen; have rl := HAT.out.res.lt; unfold zeroNd at r0; go_wp2_with fail
    refine ends_at rfl rfl rfl ((((HAT.out.res.set 0 _).set 1 _).set 2 _).set 3 _) Tryz.underlying66 rfl (by kernel_rfl) ?_
    exact ret_value HAT.out (below B) (HV10.out) (below_yes (by omega)) (fun i hi => below_yes (by omega)) (HT.out)
  | true =>
   replace hP : PrAt W u2 S E l.tail := by simpa using hP
   have HT0 := HT.out; clear HT; simp only [↓reduceIte] at HT0; have HT := Z_ HT0; clear HT0; replace HAT := Z_ (HAT.out.call hC hP); clear hC hP HH HLE; have HAT0 := HAT.out.lt; obtain ⟨B, hB⟩ : ∃ B, u2.heap.size = B := ⟨_, rfl⟩; rw [hB] at HAT0; have HN := Z_ (ih n (Nat.le_refl _) (.unary) _ _ HAT.out.pr HM.out rfl trivial (Out.bind_ne HT.out HNE.out)); go_wp2_with fail
   refine HN.out.mono ?_
   rintro e u12 hr; obtain ⟨hC, ⟨lb, hp, rfl⟩ | ⟨x12, l12, v12, hp, rfl, hv, hP⟩⟩ := hr.cases (Out.bind_ne HT.out HNE.out)
   ·have HF := Z_ (Out.bind_bad HT.out hp)
    have HC := Z_ (HAT.out.chg.then hC); clear hr hp hC; go_wp2_with fail
    exact ⟨rfl, Pst.fails HC.out HF.out⟩
   replace HT := Z_ (Out.bind_got HT.out hp); replace HAT := Z_ (HAT.out.call hC hP); obtain ⟨ka12, ta12, ma12, aa12, na12, ca12, rfl⟩ := nd_form hv; have HV12 := Z_ hv; have hsz12 : u2.heap.size ≤ u12.heap.size := hC.size; clear hr hp hC hP hv HN; rw [hB] at HV12 hsz12; replace HR := Z_ (nd_row1 HV12.out (by simp [below]; omega) 21 0 noText (by decide) (c := #[.int .i64 ka12, .string ta12, .int .i64 ma12, .slice aa12 na12 ca12]) rfl); have hEx := (Chg.refl (fun _ => False) u12).alloc (.cells #[.int .i64 ka12, .string ta12, .int .i64 ma12, .slice aa12 na12 ca12] 66); replace HAT := Z_ (HAT.out.extend hEx); clear hEx; go_wp2_with fail
   refine (node_any _ _ _ _ _ _ _).mono ?_
   rintro e u13 ⟨rfl, hE⟩; replace HAT := Z_ (HAT.out.extend hE); replace HR := Z_ (ndAt_keeps (keeps_chg hE fun _ _ h => h.elim) _ _ HR.out); clear hE; have r0 := HAT.out.res.cell; have rf := HAT.out.res.frozen; have rl := HAT.out.res.lt; unfold zeroNd at r0; go_wp2_with fail
   refine ends_at rfl rfl rfl ((((HAT.out.res.set 0 _).set 1 _).set 2 _).set 3 _) Tryz.underlying66 rfl (by kernel_rfl) ?_
   exact ret_value HAT.out (below B) (HR.out) (below_yes (by omega)) (fun i hi => below_yes (by omega)) (HT.out.symm)
 | true =>
  replace hP : PrAt W u1 S E l.tail := by simpa using hP
  have HT0 := HT.out; clear HT; simp only [↓reduceIte] at HT0; have HT := Z_ HT0; clear HT0; replace HAT := Z_ (HAT.out.call hC hP); clear hC hP HH HLE; have HAT0 := HAT.out.lt; obtain ⟨B, hB⟩ : ∃ B, u1.heap.size = B := ⟨_, rfl⟩; rw [hB] at HAT0; have HN := Z_ (ih n (Nat.le_refl _) (.unary) _ _ HAT.out.pr HM.out rfl trivial (Out.bind_ne HT.out HNE.out)); go_wp2_with fail
  refine HN.out.mono ?_
  rintro e u15 hr; obtain ⟨hC, ⟨lb, hp, rfl⟩ | ⟨x15, l15, v15, hp, rfl, hv, hP⟩⟩ := hr.cases (Out.bind_ne HT.out HNE.out)
  ·have HF := Z_ (Out.bind_bad HT.out hp)
   have HC := Z_ (HAT.out.chg.then hC); clear hr hp hC; go_wp2_with fail
   exact ⟨rfl, Pst.fails HC.out HF.out⟩
  replace HT := Z_ (Out.bind_got HT.out hp); replace HAT := Z_ (HAT.out.call hC hP); obtain ⟨ka15, ta15, ma15, aa15, na15, ca15, rfl⟩ := nd_form hv; have HV15 := Z_ hv; have hsz15 : u1.heap.size ≤ u15.heap.size := hC.size; clear hr hp hC hP hv HN; rw [hB] at HV15 hsz15; replace HR := Z_ (nd_row1 HV15.out (by simp [below]; omega) 20 0 noText (by decide) (c := #[.int .i64 ka15, .string ta15, .int .i64 ma15, .slice aa15 na15 ca15]) rfl); have hEx := (Chg.refl (fun _ => False) u15).alloc (.cells #[.int .i64 ka15, .string ta15, .int .i64 ma15, .slice aa15 na15 ca15] 66); replace HAT := Z_ (HAT.out.extend hEx); clear hEx; go_wp2_with fail
  refine (node_any _ _ _ _ _ _ _).mono ?_
  rintro e u16 ⟨rfl, hE⟩; replace HAT := Z_ (HAT.out.extend hE); replace HR := Z_ (ndAt_keeps (keeps_chg hE fun _ _ h => h.elim) _ _ HR.out); clear hE; have r0 := HAT.out.res.cell; have rf := HAT.out.res.frozen; have rl := HAT.out.res.lt; unfold zeroNd at r0; go_wp2_with fail
  refine ends_at rfl rfl rfl ((((HAT.out.res.set 0 _).set 1 _).set 2 _).set 3 _) Tryz.underlying66 rfl (by kernel_rfl) ?_
  exact ret_value HAT.out (below B) (HR.out) (below_yes (by omega)) (fun i hi => below_yes (by omega)) (HT.out.symm)
end synw
end Go.Proofs.YtpcihajmcejliabGreatDoor
