/- A row in a cell grows by one, in a region that draws its order: what is known on the way. The reference's VarOf and ProcOf. Two rows that grow side by side: variables, and procedures whose parameters lie in rows of their own. A map from words to numbers that the call itself has made; must. -/
import Derived.Deep.AppendLies
import Derived.Maps.OwnSet
import Derived.Maps.OwnOps
import Derived.Test.YtpcihajmcejliabGreatDoorWeave
import Derived.Test.YtpcihajmcejliabGreatDoorOfW
namespace Go.Proofs.YtpcihajmcejliabGreatDoor
open Go.RowKit
def varV (f : FVar) : Value := .agg #[.string f.name, .bool f.pub, .int .i64 f.label, .int .i64 f.size]
def OVar (x : FVar) (v : Value) (_ : World) : Prop := v = varV x ∧ x.name.size ≤ 10000
def OProc (x : FProc) (v : Value) (w : World) : Prop := ∃ a c, v = .agg #[.string x.name, .bool x.pub, .slice a x.params.length c, .int .i64 x.writes, .bool x.gives, .int .i64 x.given] ∧ AllIn 1 IntIn w a x.params ∧ x.params.length ≤ c ∧ c ≤ maxLen ∧ x.name.size ≤ 10000
def OStr (x : ByteArray) (v : Value) (_ : World) : Prop := v = .string x ∧ x.size ≤ 10000
def OInt (x : Int) (v : Value) (_ : World) : Prop := v = .int .i64 x
def StrIn (w : World) (b o : Nat) (x : ByteArray) : Prop := w.cell? ⟨b, o, none⟩ = some (.string x) ∧ x.size ≤ 10000
namespace ofp
theorem info_int : (Tryz.prog.info? 3).map (fun i => (i.zero, i.size, i.bytes)) = some (some (.int .i64 0), 1, 8) := by kernel_rfl
theorem info_str : (Tryz.prog.info? 9).map (fun i => (i.zero, i.size, i.bytes)) = some (some (.string ⟨#[]⟩), 1, 16) := by kernel_rfl
theorem info_var : (Tryz.prog.info? 82).map (fun i => (i.zero, i.size, i.bytes)) = some (some (.agg #[.string ⟨#[]⟩, .bool false, .int .i64 0, .int .i64 0]), 4, 40) := by kernel_rfl
theorem info_proc : (Tryz.prog.info? 179).map (fun i => (i.zero, i.size, i.bytes)) = some (some (.agg #[.string ⟨#[]⟩, .bool false, .slice none 0 0, .int .i64 0, .bool false, .int .i64 0]), 6, 72) := by kernel_rfl
theorem keeps_low {w : World} {B B2 : Nat} (hB : B2 ≤ B) : Keeps (hide (below B) w) (hide (below B2) w) := keeps_hide (Nat.le_refl _) fun i hi hm => by
 simp only [below, decide_eq_false_iff_not] at hm ⊢; exact ⟨by omega, trivial⟩
theorem intIn_keeps {w w' : World} (hk : Keeps w w') {b o : Nat} {x : Int} (h : IntIn w b o x) : IntIn w' b o x := hk.2 _ _ h
theorem strIn_keeps {w w' : World} (hk : Keeps w w') {b o : Nat} {x : ByteArray} (h : StrIn w b o x) : StrIn w' b o x := ⟨hk.2 _ _ h.1, h.2⟩
theorem varIn_keeps {w w' : World} (hk : Keeps w w') {b o : Nat} {x : FVar} (h : VarIn w b o x) : VarIn w' b o x := ⟨hk.2 _ _ h.1, hk.2 _ _ h.2.1, hk.2 _ _ h.2.2.1, hk.2 _ _ h.2.2.2.1, h.2.2.2.2⟩
theorem procIn_keeps {w w' : World} (hk : Keeps w w') {b o : Nat} {x : FProc} (h : ProcIn w b o x) : ProcIn w' b o x := by
 obtain ⟨h0, h1, ⟨a, c, h2, h2i, h2c⟩, h3, h4, h5, h6⟩ := h; exact ⟨hk.2 _ _ h0, hk.2 _ _ h1, ⟨a, c, hk.2 _ _ h2, h2i.keeps hk fun _ _ _ => intIn_keeps hk, h2c⟩, hk.2 _ _ h3, hk.2 _ _ h4, hk.2 _ _ h5, h6⟩
theorem int_keeps (x : Int) (u : Value) (w w' : World) (_ : Keeps w w') (h : OInt x u w) : OInt x u w' := h
theorem str_keeps (x : ByteArray) (u : Value) (w w' : World) (_ : Keeps w w') (h : OStr x u w) : OStr x u w' := h
theorem var_keeps (x : FVar) (u : Value) (w w' : World) (_ : Keeps w w') (h : OVar x u w) : OVar x u w' := h
theorem proc_keeps (x : FProc) (u : Value) (w w' : World) (hk : Keeps w w') (h : OProc x u w) : OProc x u w' := by
 obtain ⟨a, c, e, h1, h2⟩ := h; exact ⟨a, c, e, h1.keeps hk fun _ _ _ => intIn_keeps hk, h2⟩
theorem int_lies (w : World) (b o : Nat) (x : Int) (u : Value) (h : OInt x u w) (_ : u.cells.size = 1) (hc : ∀ i, i < 1 → w.cell? ⟨b, o + i, none⟩ = u.cells[i]?) : IntIn w b o x := by
 cases h
 exact hc 0 (by decide)
theorem str_lies (w : World) (b o : Nat) (x : ByteArray) (u : Value) (h : OStr x u w) (_ : u.cells.size = 1) (hc : ∀ i, i < 1 → w.cell? ⟨b, o + i, none⟩ = u.cells[i]?) : StrIn w b o x := by
 obtain ⟨rfl, h1⟩ := h; exact ⟨hc 0 (by decide), h1⟩
theorem small (n : Nat) (h : n ≤ 10000) : n ≤ maxLen := by unfold maxLen; omega
theorem var_lies (w : World) (b o : Nat) (x : FVar) (u : Value) (h : OVar x u w) (_ : u.cells.size = 4) (hc : ∀ i, i < 4 → w.cell? ⟨b, o + i, none⟩ = u.cells[i]?) : VarIn w b o x := by
 obtain ⟨rfl, h1⟩ := h; exact ⟨hc 0 (by decide), hc 1 (by decide), hc 2 (by decide), hc 3 (by decide), small _ h1⟩
theorem proc_lies (w : World) (b o : Nat) (x : FProc) (u : Value) (h : OProc x u w) (_ : u.cells.size = 6) (hc : ∀ i, i < 6 → w.cell? ⟨b, o + i, none⟩ = u.cells[i]?) : ProcIn w b o x := by
 obtain ⟨a, c, rfl, h1, h2, h3, h4⟩ := h; exact ⟨hc 0 (by decide), hc 1 (by decide), ⟨a, c, hc 2 (by decide), h1, h2, h3⟩, hc 3 (by decide), hc 4 (by decide), hc 5 (by decide), small _ h4⟩
def PushG {α : Type} (B : World → Value → Value → List α → Prop) (V : α → Value → World → Prop) (base : Nat) (T : TypeId) (row : Value) (acc : List α) (x : α) (v : Value) : List Value → World → Prop
 | [], u => B u row row acc ∧ V x v (hide (rowHid base row) u)
 | [s], u => B u row row acc ∧ V x v (hide (rowHid base row) u) ∧ ∃ g, s = .slice (some ⟨g, 0, none⟩) 1 1 ∧ Blk u g v.cells T ∧ row.ownBlock ≠ some g
 | [_, r], u => B u row r (acc ++ [x]) ∧ ∃ g c, r = .slice (some ⟨g, 0, none⟩) (acc.length + 1) c
 | [_, r, _], u => B u r r (acc ++ [x])
 | _, _ => False
theorem PushG.B {α : Type} {B : World → Value → Value → List α → Prop} {V : α → Value → World → Prop} {base : Nat} {T : TypeId} {row : Value} {acc : List α} {x : α} {v : Value} {vs : List Value} {u : World} (h : PushG B V base T row acc x v vs u) (hv : vs.length ≤ 1) : B u row row acc := by
 match vs, hv, h with
 | [], _, h => exact h.1
 | [_], _, h => exact h.1
theorem PushG.any {α : Type} {B : World → Value → Value → List α → Prop} {V : α → Value → World → Prop} {base : Nat} {T : TypeId} {row : Value} {acc : List α} {x : α} {v : Value} {vs : List Value} {u : World} (h : PushG B V base T row acc x v vs u) : ∃ rN r l, B u rN r l := by
 match vs, h with
 | [], h => exact ⟨_, _, _, h.1⟩
 | [_], h => exact ⟨_, _, _, h.1⟩
 | [_, _], h => exact ⟨_, _, _, h.1⟩
 | [_, _, _], h => exact ⟨_, _, _, h⟩
theorem pushg_slice {α : Type} {B : World → Value → Value → List α → Prop} {V : α → Value → World → Prop} {base : Nat} {T : TypeId} {row : Value} {acc : List α} {x : α} {v : Value} {u : World} (hV : ∀ x u w w', Keeps w w' → V x u w → V x u w') (hE : ∀ u', Ext u u' → B u' row row acc)
  (hown : ∀ i, row.ownBlock = some i → i < u.heap.size) (h : PushG B V base T row acc x v [] u) {c : Array Value} (hc : v.cells = c) : PushG B V base T row acc x v [.slice (some ⟨u.heap.size, 0, none⟩) 1 1] (u.alloc (.cells c T)) := by
 have hX := (Chg.refl (fun _ => False) u).alloc (.cells c T); exact ⟨hE _ hX, hV _ _ _ _ (keeps_chg hX fun _ _ h => h.elim) h.2, _, rfl, by rw [hc]; exact Blk.made _ _ _, fun e => by have := hown _ e; omega⟩
theorem grown_own {u u' : World} {own : Option Nat} (hg : u.grownBy u' own) : Chg (fun i => own = some i) u u' :=
 ⟨hg.os, hg.tape, hg.output, hg.size, fun i hi hn => hg.block i hi (by first | exact hn | exact fun e => hn e.symm)⟩
theorem pushg_append {α : Type} {B : World → Value → Value → List α → Prop} {V : α → Value → World → Prop} {base k : Nat} {T : TypeId} {row : Value} {acc : List α} {x : α} {v s : Value} {u u' : World} {us : List Value} (hV : ∀ x u w w', Keeps w w' → V x u w → V x u w')
  (h : PushG B V base T row acc x v [s] u) (hus : us.length = acc.length) (hu3 : ∀ j (h : j < acc.length) (h' : j < us.length), V acc[j] us[j] (hide (rowHid base row) u) ∧ us[j].cells.size = k) (hk : v.cells.size = k) {g c : Nat}
  (hM : ∀ r acc1, Grow k T V base u' r acc1 → Chg (fun i => row.ownBlock = some i) u u' → B u' row r acc1)
  (ho : u'.ownsRow base T k (.slice (some ⟨g, 0, none⟩) (acc.length + 1) c) (acc.length + 1) (us.flatMap (fun u => u.cells.toList) ++ v.cells.toList)) (hg : u.grownBy u' row.ownBlock) (ha : row.ownBlock = some g ∨ g = u.heap.size) :
  PushG B V base T row acc x v [s, .slice (some ⟨g, 0, none⟩) (acc.length + 1) c] u' := by
 have hC := grown_own hg; refine ⟨hM _ _ (Grow.push hV hus hu3 h.2.1 hk ho hg.size (fun i hi hne => hC.block i hi hne) fun i e => ?_) hC, g, c, rfl⟩
 have : g = i := by simpa [Value.ownBlock] using e
 subst this; rcases ha with ha | ha
 ·exact .inl ha
 ·exact .inr (by omega)
theorem pushg_store {α : Type} {B : World → Value → Value → List α → Prop} {V : α → Value → World → Prop} {base : Nat} {T : TypeId} {row : Value} {acc : List α} {x : α} {v s r z : Value} {u u' : World} (h : PushG B V base T row acc x v [s, r] u) (hS : B u row r (acc ++ [x]) → B u' r r (acc ++ [x])) :
  PushG B V base T row acc x v [s, r, z] u' := hS h.1
theorem pushedG {α : Type} {k : Nat} {E : TypeId} {V : α → Value → World → Prop} {u w4 : World} {B : Nat} {row : Value} {acc : List α} {x : α} {v : Value} {us : List Value} {o : Obj} {g c : Nat} (hV : ∀ x u w w', Keeps w w' → V x u w → V x u w') (hu1 : us.length = acc.length) (hu3 : ∀ j (h : j < acc.length) (h' : j < us.length), V acc[j] us[j] (hide (rowHid B row) u) ∧ us[j].cells.size = k) (hx : V x v (hide (rowHid B row) u)) (hk : v.cells.size = k)
  (hown : w4.ownsRow B E k (.slice (some ⟨g, 0, none⟩) (acc.length + 1) c) (acc.length + 1) (us.flatMap (fun u => u.cells.toList) ++ v.cells.toList)) (hgrow : (u.alloc o).grownBy w4 row.ownBlock) (hat : row.ownBlock = some g ∨ g = u.heap.size + 1) :
  Grow k E V B w4 (.slice (some ⟨g, 0, none⟩) (acc.length + 1) c) (acc ++ [x]) ∧ Chg (fun i => row.ownBlock = some i) u w4 := by
 have hC : Chg (fun i => row.ownBlock = some i) u w4 := (((Chg.refl (fun _ => False) u).alloc o).weak (fun _ _ h => h.elim)).then (grown_own hgrow)
 refine ⟨Grow.push hV hu1 hu3 hx hk hown hC.size (fun i hi hn => hC.block i hi hn) (fun i hi => ?_), hC⟩
 have e : g = i := by simpa [Value.ownBlock] using hi
 subst e; rcases hat with h | h
 ·exact .inl h
 ·exact .inr (by omega)
theorem grow_slice {α : Type} {k : Nat} {E : TypeId} {V : α → Value → World → Prop} {B : Nat} {w : World} {row : Value} {acc : List α} (h : Grow k E V B w row acc) : ∃ a c, row = .slice a acc.length c ∧ (acc.length ≤ c ∧ c ≤ maxLen) := by
 obtain ⟨us, _, ho, _⟩ := h.ex; rcases ho.2 with ⟨rfl, h0⟩ | ⟨g, cap, cur, rfl, _, _, h1, h2, _⟩
 ·exact ⟨_, _, by rw [h0], by rw [h0]; exact ⟨Nat.le_refl _, by decide⟩⟩
 ·exact ⟨_, _, rfl, h1, h2⟩
theorem grow_own {α : Type} {k : Nat} {E : TypeId} {V : α → Value → World → Prop} {B : Nat} {w : World} {row : Value} {acc : List α} (h : Grow k E V B w row acc) : ∀ i, row.ownBlock = some i → B ≤ i ∧ i < w.heap.size := by
 obtain ⟨us, _, ho, _⟩ := h.ex; exact fun i e => World.ownsRow.lt ho i e
end ofp
end Go.Proofs.YtpcihajmcejliabGreatDoor
namespace Go.Proofs.YtpcihajmcejliabGreatDoor
open Go.RowKit
namespace ofw
open synw
set_option maxRecDepth 100000 in
set_option maxHeartbeats 4000000 in
theorem rvar_any {x : Nd} {v : Value} {w : World} {H : Nat → Bool} (hx : NdAt (hide H w) x v) (hk : VarOk x) :
  Calls Tryz.prog 119 #[v] w fun e w' => e = .returned (varV (varOf x)) ∧ Ext w w' := by
 obtain ⟨k, t, m, l⟩ := x; obtain ⟨hk1, ⟨hm0, hm1⟩, hk3⟩ := hk; have hm0' : 0 ≤ m := hm0; have hm1' : m ≤ 3 := hm1; have hk3' : l = [] ∨ ∃ y, l = [y] ∧ 0 ≤ y.nm ∧ y.nm < 9223372036854775808 := hk3; rw [ndAt_mk] at hx; obtain ⟨a, cc, rfl, hx1, hx2, hx3, hx4⟩ := hx; obtain ⟨N, hN⟩ : ∃ N, l.length = N := ⟨_, rfl⟩; rw [hN]; have HX := Z_ hx4; have hE1 := ((Chg.refl (fun _ => False) w).alloc (.cells #[.int .i64 k, .string t, .int .i64 m, .slice a N cc] 66)).alloc (.cells #[.string ⟨#[]⟩, .bool false, .int .i64 0, .int .i64 0] 82); have HK := Z_ ((Blk.made w #[.int .i64 k, .string t, .int .i64 m, .slice a N cc] 66).alloc (.cells #[.string ⟨#[]⟩, .bool false, .int .i64 0, .int .i64 0] 82)); have HR := Z_ (Blk.made2 w (.cells #[.int .i64 k, .string t, .int .i64 m, .slice a N cc] 66) #[.string ⟨#[]⟩, .bool false, .int .i64 0, .int .i64 0] 82)
 have HE1 := Z_ hE1; clear hx4 hE1 hm0 hm1 hk3; obtain ⟨P, hP⟩ : ∃ P, w.heap.size = P := ⟨_, rfl⟩; rw [hP] at HK HR; go_enter Tryz.func119, Tryz.ntmps119
 go_upto_region 1 with (fail)
 generalize (w.alloc (.cells #[.int .i64 k, .string t, .int .i64 m, .slice a N cc] 66)).alloc (.cells #[.string ⟨#[]⟩, .bool false, .int .i64 0, .int .i64 0] 82) = w1 at *; have hc := HK.out.cell; go_upto_region 2 with (fail)
 obtain ⟨b1, hb1⟩ : ∃ b, decide (2 ≤ m % 4) = b := ⟨_, rfl⟩; obtain ⟨m2, hm2⟩ : ∃ z, m % 2 = z := ⟨_, rfl⟩; simp only [hb1, hm2]; have HV := Z_ (Blk.made w1 #[.string t, .bool b1, .int .i64 m2, .int .i64 0] 82); have HE2 := Z_ (HE1.out.alloc (.cells #[.string t, .bool b1, .int .i64 m2, .int .i64 0] 82)); have HK2 := Z_ (HK.out.alloc (.cells #[.string t, .bool b1, .int .i64 m2, .int .i64 0] 82)); have HR2 := Z_ (HR.out.alloc (.cells #[.string t, .bool b1, .int .i64 m2, .int .i64 0] 82)); have hVR : P + 1 < w1.heap.size := HR.out.lt; obtain ⟨V, hV⟩ : ∃ V, w1.heap.size = V := ⟨_, rfl⟩; rw [hV] at HV hVR; clear hc HK HR HE1; generalize w1.alloc (.cells #[.string t, .bool b1, .int .i64 m2, .int .i64 0] 82) = w2 at *; have hc := HK2.out.cell; have hv := HV.out.cell; have hvf := HV.out.frozen; have hvl := HV.out.lt; have hr := HR2.out.cell
 have hrf := HR2.out.frozen; have hrl := HR2.out.lt; have hPl := HK2.out.lt; have hwR : w.heap.size ≤ P := by omega
 rcases hk3' with rfl | ⟨y, rfl, hy0, hy1⟩
 ·obtain rfl : N = 0 := by simpa using hN.symm
  rw [hV]; go_wp2_with fail
  refine ends_at rfl rfl rfl ((((HR2.out.set 0 _).set 1 _).set 2 _).set 3 _) Tryz.underlying82 rfl (by kernel_rfl) ?_
  have hv0 : varOf (.mk k t m []) = ⟨t, b1, m2, 0⟩ := by show FVar.mk t (decide (2 ≤ m % 4)) (m % 2) 0 = _; rw [hb1, hm2]
  exact ⟨by rw [hv0]; rfl, (((HE2.out.setNew (p := ⟨P + 1, 0, none⟩) (by show _ ≤ P + 1; omega) _).setNew (p := ⟨P + 1, 1, none⟩) (by show _ ≤ P + 1; omega) _).setNew (p := ⟨P + 1, 2, none⟩) (by show _ ≤ P + 1; omega) _).setNew (p := ⟨P + 1, 3, none⟩) (by show _ ≤ P + 1; omega) _⟩
 ·obtain rfl : N = 1 := by simpa using hN.symm
  rw [hV]; obtain ⟨b, o, rfl, hb, u, hu, hus, hcl⟩ := HX.out 0 (by simp); rw [hide_size] at hb; obtain ⟨ky, ty, my, ly⟩ := y; have hy2 := hu; rw [List.getElem_cons_zero, ndAt_mk] at hy2; obtain ⟨ay, cy, rfl, -⟩ := hy2; have q2 : w.cell? ⟨b, o + 2, none⟩ = some (.int .i64 my) := (keeps_bare H w).2 _ _ (by have h := hcl 2 (by decide); simp only [Nat.zero_mul, Nat.add_zero] at h; exact h); have q2' : w2.cell? ⟨b, o + 2, none⟩ = some (.int .i64 my) := (HE2.out.cell (p := ⟨b, o + 2, none⟩) hb id).trans q2; have hmy0 : 0 ≤ my := hy0; have hmy1 : my < 9223372036854775808 := hy1; have hw1 : IntKind.i64.wrap my = my := wrap_small _ hmy0 (by omega); have hw2 : wrap64 my = my := by unfold wrap64; omega
  have HQ := Z_ q2'; have HCL := Z_ hcl; have hVP : V ≠ P + 1 := by omega
  clear hu hcl hus q2 hy0 hy1; go_wp2_with fail
  refine ends_at rfl rfl rfl (((((HR2.out.setOther (p := ⟨V, 3, none⟩) (by show P + 1 ≠ V; omega) _).set 0 _).set 1 _).set 2 _).set 3 _) Tryz.underlying82 rfl (by kernel_rfl) ?_
  have hv0 : varOf (.mk k t m [.mk ky ty my ly]) = ⟨t, b1, m2, my⟩ := by show FVar.mk t (decide (2 ≤ m % 4)) (m % 2) my = _; rw [hb1, hm2]
  exact ⟨by rw [hv0]; rfl, ((((HE2.out.setNew (p := ⟨V, 3, none⟩) (by show _ ≤ V; omega) _).setNew (p := ⟨P + 1, 0, none⟩) (by show _ ≤ P + 1; omega) _).setNew (p := ⟨P + 1, 1, none⟩) (by show _ ≤ P + 1; omega) _).setNew (p := ⟨P + 1, 2, none⟩) (by show _ ≤ P + 1; omega) _).setNew (p := ⟨P + 1, 3, none⟩) (by show _ ≤ P + 1; omega) _⟩
structure PC (w u : World) (P V : Nat) (nc : Array Value) (t : ByteArray) (b1 : Bool) (m2 : Int) (b4 : Bool) (m8 : Int) (rowN row : Value) (acc : List Int) : Prop where
 ext : Ext w u
 nd : Blk u P nc 66
 res : Blk u (P + 1) #[.string ⟨#[]⟩, .bool false, .slice none 0 0, .int .i64 0, .bool false, .int .i64 0] 179
 pv : Blk u V #[.string t, .bool b1, rowN, .int .i64 m2, .bool b4, .int .i64 m8] 179
 grow : Grow 1 3 OInt (V + 1) u row acc
 hw : w.heap.size ≤ P
 hV : P + 1 < V
theorem PC.extend {w u u' : World} {P V : Nat} {nc : Array Value} {t : ByteArray} {b1 : Bool} {m2 : Int} {b4 : Bool} {m8 : Int} {rowN row : Value} {acc : List Int} (h : PC w u P V nc t b1 m2 b4 m8 rowN row acc) (hE : Ext u u') : PC w u' P V nc t b1 m2 b4 m8 rowN row acc :=
 ⟨h.ext.ext hE, h.nd.ext hE, h.res.ext hE, h.pv.ext hE, h.grow.chg ofp.int_keeps hE (fun _ e => e.elim), h.hw, h.hV⟩
theorem PC.more {w u u' : World} {P V : Nat} {nc : Array Value} {t : ByteArray} {b1 : Bool} {m2 : Int} {b4 : Bool} {m8 : Int} {rowN row r : Value} {acc acc1 : List Int} (h : PC w u P V nc t b1 m2 b4 m8 rowN row acc) (hG : Grow 1 3 OInt (V + 1) u' r acc1) (hC : Chg (fun i => row.ownBlock = some i) u u') : PC w u' P V nc t b1 m2 b4 m8 rowN r acc1 := by
 have h1 := h.hw; have h2 := h.hV
 have ho := ofp.grow_own h.grow; exact ⟨h.ext.trans hC (fun i hi e => by have := ho i e; omega), h.nd.chg hC (fun e => by have := ho _ e; omega), h.res.chg hC (fun e => by have := ho _ e; omega), h.pv.chg hC (fun e => by have := ho _ e; omega), hG, h1, h2⟩
theorem PC.put {w u : World} {P V : Nat} {nc : Array Value} {t : ByteArray} {b1 : Bool} {m2 : Int} {b4 : Bool} {m8 : Int} {rowN row : Value} {acc : List Int} (h : PC w u P V nc t b1 m2 b4 m8 rowN row acc) : PC w (u.setCell ⟨V, 2, none⟩ row) P V nc t b1 m2 b4 m8 row row acc := by
 have h1 := h.hw; have h2 := h.hV
 have hC := chg_set (S := V) (Chg.refl _ u) 2 row; exact ⟨h.ext.trans hC (fun i hi e => by omega), h.nd.chg hC (by omega), h.res.chg hC (by omega), by have := h.pv.set 2 row; exact this, h.grow.chg ofp.int_keeps hC (fun i e => by omega), h1, h2⟩
theorem drop_take {l : List Nd} {j : Nat} (h : j < l.dropLast.length) : (l.dropLast.map Nd.nm).take (j + 1) = (l.dropLast.map Nd.nm).take j ++ [(l[j]'(by simp at h; omega)).nm] := by
 rw [List.take_succ_eq_append_getElem (by simpa using h)]; simp
set_option maxRecDepth 100000 in
set_option maxHeartbeats 4000000 in
theorem rproc_any {x : Nd} {v : Value} {w : World} {H : Nat → Bool} (hx : NdAt (hide H w) x v) (hk : ProcOk x) (hfew : x.kids.length ≤ 1000) :
  Calls Tryz.prog 120 #[v] w fun e w' => ∃ v', e = .returned v' ∧ OProc (procOf x) v' (hide (below w.heap.size) w') ∧ Ext w w' := by
 obtain ⟨k, t, m, l⟩ := x; obtain ⟨hk1, ⟨hm0, hm1⟩, hk3⟩ := hk; have hm0' : 0 ≤ m := hm0; have hm1' : m ≤ 11 := hm1; have hN1 : 1 ≤ l.length := by obtain ⟨ps, b, e, -⟩ := hk3; have e2 : l = ps ++ [b] := e; rw [e2]; simp
 have hfew' : l.length ≤ 1000 := hfew; rw [ndAt_mk] at hx; obtain ⟨a, cc, rfl, hx1, hx2, hx3, hx4⟩ := hx; obtain ⟨L, hL⟩ : ∃ L, l.dropLast.map Nd.nm = L := ⟨_, rfl⟩; have hLl : L.length = l.length - 1 := by rw [← hL]; simp
 have HLT := Z_ (fun j (h : j < l.dropLast.length) => drop_take h); rw [hL] at HLT; have hpo : procOf (.mk k t m l) = ⟨t, decide (2 ≤ m % 4), L, m % 2, decide (4 ≤ m), m / 8⟩ := by rw [← hL]; rfl
 rw [hpo]; obtain ⟨N, hN⟩ : ∃ N, l.length = N := ⟨_, rfl⟩; rw [hN] at hN1 hfew' hLl ⊢; have HN := Z_ hN; have HI := Z_ (fun (u : World) (hE : Ext w u) => hx4.keeps (keeps_chg hE fun i _ e => e.elim) fun b o y => ndIn_keeps (keeps_chg hE fun i _ e => e.elim) b o y); have hE1 := ((Chg.refl (fun _ => False) w).alloc (.cells #[.int .i64 k, .string t, .int .i64 m, .slice a N cc] 66)).alloc (.cells #[.string ⟨#[]⟩, .bool false, .slice none 0 0, .int .i64 0, .bool false, .int .i64 0] 179); have HK := Z_ ((Blk.made w #[.int .i64 k, .string t, .int .i64 m, .slice a N cc] 66).alloc (.cells #[.string ⟨#[]⟩, .bool false, .slice none 0 0, .int .i64 0, .bool false, .int .i64 0] 179)); have HR := Z_ (Blk.made2 w (.cells #[.int .i64 k, .string t, .int .i64 m, .slice a N cc] 66) #[.string ⟨#[]⟩, .bool false, .slice none 0 0, .int .i64 0, .bool false, .int .i64 0] 179)
 have HE1 := Z_ hE1; clear hx4 hE1 hm0 hm1 hk3 hL hpo hN; obtain ⟨P, hP⟩ : ∃ P, w.heap.size = P := ⟨_, rfl⟩; rw [hP] at HK HR; go_enter Tryz.func120, Tryz.ntmps120
 go_upto_region 1 with (fail)
 generalize (w.alloc (.cells #[.int .i64 k, .string t, .int .i64 m, .slice a N cc] 66)).alloc (.cells #[.string ⟨#[]⟩, .bool false, .slice none 0 0, .int .i64 0, .bool false, .int .i64 0] 179) = w1 at *; have hc := HK.out.cell; go_upto_region 2 with (fail)
 obtain ⟨b1, hb1⟩ : ∃ b, decide (2 ≤ m % 4) = b := ⟨_, rfl⟩; obtain ⟨m2, hm2⟩ : ∃ z, m % 2 = z := ⟨_, rfl⟩; obtain ⟨b4, hb4⟩ : ∃ b, decide (4 ≤ m) = b := ⟨_, rfl⟩; obtain ⟨m8, hm8⟩ : ∃ z, m / 8 = z := ⟨_, rfl⟩; simp only [hb1, hm2, hb4, hm8]; have HM := Z_ (And.intro hb1 (And.intro hm2 (And.intro hb4 hm8))); clear hb1 hm2 hb4 hm8 hm0' hm1'; have hVR : P + 1 < w1.heap.size := HR.out.lt
 have hB0 : PC w (w1.alloc (.cells #[.string t, .bool b1, .slice none 0 0, .int .i64 m2, .bool b4, .int .i64 m8] 179)) P w1.heap.size #[.int .i64 k, .string t, .int .i64 m, .slice a N cc] t b1 m2 b4 m8 (.slice none 0 0) (.slice none 0 0) [] :=
  ⟨HE1.out.alloc _, HK.out.alloc _, HR.out.alloc _, Blk.made _ _ _, Grow.nil _ _ _ _ _, by omega, hVR⟩
 have HB := Z_ hB0; obtain ⟨V, hV⟩ : ∃ V, w1.heap.size = V := ⟨_, rfl⟩; rw [hV] at HB
 try rw [hV]
 clear hc HK HR HE1 hB0 hVR; generalize w1.alloc (.cells #[.string t, .bool b1, .slice none 0 0, .int .i64 m2, .bool b4, .int .i64 m8] 179) = w2 at *; clear hV; go_wp2_with fail
 go_loopw [4] (fun i wr => ∃ (q : Nat) (row : Value), q + 1 ≤ N ∧ i = .int .i64 q ∧ Hid (PC w wr P V #[.int .i64 k, .string t, .int .i64 m, .slice a N cc] t b1 m2 b4 m8 row row (L.take q))) (fun i _ => N - (intOf i).toNat)
 case atStart => exact ⟨0, _, hN1, rfl, HB⟩
 clear HB
 case round =>
  obtain ⟨q, row, hq, rfl, HB⟩ := hrel; have hc := HB.out.nd.cell; obtain ⟨q1, hq1⟩ : ∃ q1, q1 = q + 1 := ⟨_, rfl⟩; have HW1 := Z_ (show IntKind.i64.wrap ((q : Int) + 1) = (q1 : Int) by rw [wrap_small _ (by omega) (by omega)]; omega); by_cases hlt : q + 1 < N
  ·have hqi : (q1 : Int) < (N : Int) := by omega
   have hqd : decide ((q1 : Int) < (N : Int)) = true := by simpa using hqi
   have hqd2 : decide (q1 < N) = true := by simp; omega
   have hql : q < l.length := by rw [HN.out]; omega
   obtain ⟨b0, o0, e0, hb, -⟩ := HI.out w (Chg.refl _ _) q hql; obtain ⟨b, o, e1, -, u, hu, hus, hcl⟩ := HI.out wr HB.out.ext q hql; obtain ⟨rfl, rfl⟩ : b = b0 ∧ o = o0 := by have := e0; rw [e1] at this; cases this; exact ⟨rfl, rfl⟩
   subst e1; clear e0; rw [hide_size] at hb; have hbl := Nat.lt_of_lt_of_le hb HB.out.ext.size; have HLQ := Z_ (HLT.out q (by simp only [List.length_dropLast]; have := HN.out; omega)); generalize l[q] = y at *; obtain ⟨ky, ty, my, ly⟩ := y; rw [ndAt_mk] at hu; obtain ⟨ay, cy, rfl, -⟩ := hu; have q2 : wr.cell? ⟨b, o + q * 4 + 2, none⟩ = some (.int .i64 my) := (keeps_bare H wr).2 _ _ (hcl 2 (by decide)); have hqi2 : (q : Int) < (N : Int) := by omega
   have hLq : (L.take q).length = q := by rw [List.length_take]; omega
   obtain ⟨LA, hLA⟩ : ∃ A, L.take q = A := ⟨_, rfl⟩; rw [hLA] at HB hLq HLQ; obtain ⟨ra, rc, hrow, hrc⟩ := ofp.grow_slice HB.out.grow; subst hrow; clear hcl hus; have hw1 := HW1.out; have HQ1 := Z_ hq1; have hPl := HB.out.nd.lt; have HLq := Z_ hLq; clear hq1 hLq; go_upto_region 5 with (fail)
   clear hc hw1 hqd hqd2 hqi; generalize decide ((q1 : Int) < (N : Int)) = bb at *; refine wp_region_weave [8, 9, 11] (fun i v _ => v = ([.pointer (some ⟨V, 2, none⟩), .slice ra LA.length rc, .pointer (some ⟨P, 3, none⟩), .slice (some ⟨b, o, none⟩) N cc, .int .i64 (q : Nat), .pointer (some ⟨b, o + q * 4, none⟩), .pointer (some ⟨b, o + q * 4 + 2, none⟩), .int .i64 my, undef, undef, .pointer (some ⟨V, 2, none⟩), undef] : List Value).getD i undef) (ofp.PushG (fun u rN r l => PC w u P V #[.int .i64 k, .string t, .int .i64 m, .slice (some ⟨b, o, none⟩) N cc] t b1 m2 b4 m8 rN r l ∧ u.cell? ⟨b, o + q * 4 + 2, none⟩ = some (.int .i64 my) ∧ b < w.heap.size) OInt (V + 1) 3 (.slice ra LA.length rc) LA my (.int .i64 my)) (fun _ _ => True) (frame := ?fraa) (fun x => ?hfaa) synw.mixed (by kernel_rfl) (by kernel_rfl) (fun _ _ _ _ h _ => h) ?h0a ?sta ?fina
   case hfaa =>
    simp only [chain.frameOf, chain.fill, chain.setOpt, chain.dstOf, List.size_toArray, List.length_cons, List.length_nil, List.getElem?_toArray, List.getElem?_cons_succ, List.getElem?_cons_zero, List.setIfInBounds_toArray, List.set_cons_succ, List.set_cons_zero]; exact rfl
   case h0a => exact ⟨⟨HB.out.extend (Chg.refl _ _).drew, q2, hb⟩, rfl⟩
   case sta =>
    refine AllFrom.cons (fun x vs u hF hm hb hd K' hK' => ?sa0) (AllFrom.cons (fun x vs u hF hm hb hd K' hK' => ?sa1) (AllFrom.cons (fun x vs u hF hm hb hd K' hK' => ?sa2) (AllFrom.cons (fun x vs u hF hm hb hd K' hK' => ?sa3) (AllFrom.cons (fun x vs u hF hm hb hd K' hK' => ?sa4) (AllFrom.cons (fun x vs u hF hm hb hd K' hK' => ?sa5) (AllFrom.cons (fun x vs u hF hm hb hd K' hK' => ?sa6) (AllFrom.cons (fun x vs u hF hm hb hd K' hK' => ?sa7) (AllFrom.cons (fun x vs u hF hm hb hd K' hK' => ?sa8) (AllFrom.cons (fun x vs u hF hm hb hd K' hK' => ?sa9) (AllFrom.cons (fun x vs u hF hm hb hd K' hK' => ?sa10) (AllFrom.cons (fun x vs u hF hm hb hd K' hK' => ?sa11) (AllFrom.nil))))))))))))
    case sa0 =>
     have HF := Z_ hF; clear hd hm hb hF; go_simp; exact hK'.out _ _ _ (rfl) trivial ⟨rfl, HF.out⟩
    case sa1 =>
     have hc := (ofp.PushG.B hF (by have := hb 1 _ (by decide) rfl (by kernel_rfl); omega)).1.pv.cell; have y0 := hd 0 (by decide) (by kernel_rfl); replace y0 : x 29 = .pointer (some ⟨V, 2, none⟩) := y0; have HF := Z_ hF; clear hd hm hb hF; go_simp; exact hK'.out _ _ _ (by simp only [y0]; rfl) trivial ⟨rfl, HF.out⟩
    case sa2 =>
     have HF := Z_ hF; clear hd hm hb hF; go_simp; exact hK'.out _ _ _ (rfl) trivial ⟨rfl, HF.out⟩
    case sa3 =>
     obtain ⟨_, _, _, hBA, hcA, hbA⟩ := ofp.PushG.any hF; have hc := hBA.nd.cell; clear hBA hcA hbA; have y0 := hd 2 (by decide) (by kernel_rfl); replace y0 : x 31 = .pointer (some ⟨P, 3, none⟩) := y0; have HF := Z_ hF; clear hd hm hb hF; go_simp; exact hK'.out _ _ _ (by simp only [y0]; rfl) trivial ⟨rfl, HF.out⟩
    case sa4 =>
     have HF := Z_ hF; clear hd hm hb hF; go_simp; exact hK'.out _ _ _ (rfl) trivial ⟨rfl, HF.out⟩
    case sa5 =>
     have y0 := hd 3 (by decide) (by kernel_rfl); replace y0 : x 32 = .slice (some ⟨b, o, none⟩) N cc := y0; have y1 := hd 4 (by decide) (by kernel_rfl); replace y1 : x 33 = .int .i64 (q : Nat) := y1; have HF := Z_ hF; clear hd hm hb hF; go_simp; exact hK'.out _ _ _ (by simp only [y0, y1]; rfl) trivial ⟨rfl, HF.out⟩
    case sa6 =>
     have y0 := hd 5 (by decide) (by kernel_rfl); replace y0 : x 34 = .pointer (some ⟨b, o + q * 4, none⟩) := y0; have HF := Z_ hF; clear hd hm hb hF; go_simp; exact hK'.out _ _ _ (by simp only [y0]; rfl) trivial ⟨rfl, HF.out⟩
    case sa7 =>
     obtain ⟨_, _, _, hBA, hcA, hbA⟩ := ofp.PushG.any hF; have hc := hcA; clear hBA hcA hbA; have y0 := hd 6 (by decide) (by kernel_rfl); replace y0 : x 35 = .pointer (some ⟨b, o + q * 4 + 2, none⟩) := y0; have HF := Z_ hF; clear hd hm hb hF; go_simp; exact hK'.out _ _ _ (by simp only [y0]; rfl) trivial ⟨rfl, HF.out⟩
    case sa8 =>
     obtain rfl := List.eq_nil_of_length_eq_zero (hm 0 (by kernel_rfl)); have y0 := hd 7 (by decide) (by kernel_rfl); replace y0 : x 36 = .int .i64 my := y0; have HG := Z_ (ofp.grow_own (show Grow _ _ _ _ _ _ _ from (hF.1.1.grow))); have HF := Z_ hF; clear hd hm hb hF; go_simp; exact hK'.out _ _ _ (by simp only [y0]; rfl) trivial (ofp.pushg_slice ofp.int_keeps (fun u' hE => ⟨HF.out.1.1.extend hE, (hE.cell (p := ⟨b, o + q * 4 + 2, none⟩) (Nat.lt_of_lt_of_le HF.out.1.2.2 HF.out.1.1.ext.size) id).trans HF.out.1.2.1, HF.out.1.2.2⟩) (fun i e => (HG.out i e).2) HF.out rfl)
    case sa9 =>
     obtain ⟨v0, rfl⟩ : ∃ v0, vs = [v0] := by match vs, hm 1 (by kernel_rfl) with | [v0], _ => exact ⟨_, rfl⟩
     have y0 := hd 1 (by decide) (by kernel_rfl); replace y0 : x 30 = .slice ra LA.length rc := y0; have y1 := hd 8 (by decide) (by kernel_rfl) 37 (by kernel_rfl); replace y1 : x 37 = v0 := y1; have hF2 := hF; obtain ⟨hBB, hxx, gg, rfl, hgb, hgr⟩ := hF2; obtain ⟨us, hu1, ho, hu3⟩ := (hBB.1.grow).ex; obtain ⟨i0_, hi_, hz0, hz1, hz2⟩ := synw.info_split ofp.info_int; have hbz : V + 1 ≤ u.heap.size := by have := hBB.1.pv.lt; omega
     refine wp_append_lies _ _ _ 36 rfl (V + 1) 3 i0_ (.int .i64 0) 1 8 Tryz.underlying36 hi_ hz0 hz1 hz2 rfl (by decide) (.slice ra LA.length rc) LA.length (us.flatMap fun u => u.cells.toList) y0 ho ⟨gg, 0, none⟩ 1 1 [.int .i64 my] y1 rfl ?_ (by intro z_ hz_; simp only [List.mem_cons, List.not_mem_nil, or_false] at hz_; rcases hz_ with rfl <;> rfl) (by decide) (by unfold maxLen; have := HLq.out; omega) (by have := HLq.out; omega) hbz u.heap.size rfl ?_
     ·intro j q hj; have e : (⟨gg, 0, none⟩ : Addr).add j = ⟨gg, j, none⟩ := (by unfold Addr.add; split <;> simp_all); rw [e, hgb.cell]; simpa [Value.cells] using hj
     ·intro g9 c9 w9 ho9 hg9 ha9 hl9
      exact hK'.out _ _ _ rfl trivial (ofp.pushg_append ofp.int_keeps hF hu1 hu3 rfl (fun r acc1 hG hC => ⟨hBB.1.more hG hC, (hC.cell (p := ⟨b, o + q * 4 + 2, none⟩) (by have := hBB.1.ext.size; exact Nat.lt_of_lt_of_le hBB.2.2 this) (fun e => by have := ofp.grow_own hBB.1.grow b e; have := hBB.1.hw; have := hBB.1.hV; have := hBB.2.2; omega)).trans hBB.2.1, hBB.2.2⟩) ho9 hg9 ha9)
    case sa10 =>
     have HF := Z_ hF; clear hd hm hb hF; go_simp; exact hK'.out _ _ _ (rfl) trivial ⟨rfl, HF.out⟩
    case sa11 =>
     obtain ⟨v0, v1, rfl⟩ : ∃ v0 v1, vs = [v0, v1] := by match vs, hm 2 (by kernel_rfl) with | [v0, v1], _ => exact ⟨_, _, rfl⟩
     have y0 := hd 10 (by decide) (by kernel_rfl); replace y0 : x 39 = .pointer (some ⟨V, 2, none⟩) := y0; have y1 := hd 9 (by decide) (by kernel_rfl) 38 (by kernel_rfl); replace y1 : x 38 = v1 := y1; have hF2 := hF; obtain ⟨hBB, gg, cc, rfl⟩ := hF2; have hc := hBB.1.pv.cell 2; have hf := hBB.1.pv.frozen 2; have hl := hBB.1.pv.lt; simp at hc
     have HF := Z_ hF; clear hd hm hb hF hBB; go_simp; exact hK'.out _ _ undef (by simp only [y0, y1]; rfl) trivial (ofp.pushg_store (z := undef) HF.out (fun h => ⟨h.1.put, ((chg_set (S := V) (Chg.refl _ _) 2 _).cell (p := ⟨b, o + q * 4 + 2, none⟩) (Nat.lt_of_lt_of_le h.2.2 h.1.ext.size) (by have := h.1.hV; have := h.1.hw; have := h.2.2; show b ≠ V; omega)).trans h.2.1, h.2.2⟩))
   case fina =>
    intro x vs w9 hl hF hk; obtain ⟨v0, v1, v2, rfl⟩ : ∃ v0 v1 v2, vs = [v0, v1, v2] := by match vs, hl with | [v0, v1, v2], _ => exact ⟨_, _, _, rfl⟩
    clear hk hl; have HB9 := Z_ (show PC _ _ _ _ _ _ _ _ _ _ _ _ _ from hF.1); clear hF HB; go_wp2_with fail
    go_roundw
    case rel => exact ⟨q + 1, _, by omega, by go_num, by rw [HLQ.out]; exact HB9⟩
    case measure => simp [intOf]; omega
  ·obtain rfl : q1 = N := by omega
   have hqd : decide ((q1 : Int) < (q1 : Int)) = false := by simp
   have hqd2 : decide (q1 < q1) = false := by simp
   have hLq : L.take q = L := List.take_of_length_le (by omega); rw [hLq] at HB; obtain ⟨ra, rc, hrow, -, -⟩ := ofp.grow_slice HB.out.grow; have hLq2 : L.length = q := by omega
   rw [hLq2] at hrow; subst hrow; have hv := HB.out.pv.cell; have hr := HB.out.res.cell; have hrf := HB.out.res.frozen; have hrl := HB.out.res.lt; have hPV := HB.out.hV; have hw1 := HW1.out; go_wp2_with fail
   clear hw1; refine ends_at rfl rfl rfl ((((((HB.out.res.set 0 _).set 1 _).set 2 _).set 3 _).set 4 _).set 5 _) Tryz.underlying179 rfl (by kernel_rfl) ?_
   have hC1 := chg_set (S := P + 1) (Chg.refl _ wr) 0 (.string t); have hC2 := chg_set hC1 1 (.bool b1); have hC3 := chg_set hC2 2 (.slice ra q rc); have hC4 := chg_set hC3 3 (.int .i64 m2); have hC5 := chg_set hC4 4 (.bool b4); have hC6 := chg_set hC5 5 (.int .i64 m8); clear hC1 hC2 hC3 hC4 hC5; have hrw := (HB.out.grow.chg ofp.int_keeps hC6 (fun i e => by omega)).row ofp.int_keeps ofp.int_lies; obtain ⟨ra', rc', e1, h1, h2, h3⟩ := hrw; injection e1 with e1 e2 e3
   subst e1 e3; have h4 := h3.keeps (ofp.keeps_low (show w.heap.size ≤ V + 1 by have := HB.out.hw; omega)) (fun b o x => ofp.intIn_keeps (ofp.keeps_low (show w.heap.size ≤ V + 1 by have := HB.out.hw; omega))); have hC7 := HB.out.ext.trans hC6 (fun i hi e => by have := HB.out.hw; omega); simp only [List.setIfInBounds_toArray, List.set_cons_succ, List.set_cons_zero]; refine ⟨_, rfl, ?_, hC7⟩
   refine ⟨ra, rc, ?_, h4, h1, h2, hx3⟩
   obtain ⟨hb1, hm2, hb4, hm8⟩ := HM.out; show Value.agg _ = Value.agg #[.string t, .bool (decide (2 ≤ m % 4)), .slice ra L.length rc, .int .i64 (m % 2), .bool (decide (4 ≤ m)), .int .i64 (m / 8)]
   rw [hb1, hm2, hb4, hm8, hLq2]
end ofw
end Go.Proofs.YtpcihajmcejliabGreatDoor
namespace Go.Proofs.YtpcihajmcejliabGreatDoor
open Go.RowKit
structure GrowX {α : Type} (X : Nat → Bool) (k : Nat) (E : TypeId) (V : α → Value → World → Prop) (B : Nat) (w : World) (v : Value) (l : List α) : Prop where
 ex : ∃ us : List Value, us.length = l.length ∧ w.ownsRow B E k v l.length (us.flatMap fun u => u.cells.toList) ∧ ∀ j (h : j < l.length) (h' : j < us.length), V l[j] us[j] (hide (fun i => rowHid B v i || X i) w) ∧ us[j].cells.size = k
namespace ofp
theorem growx_nil {α : Type} (X : Nat → Bool) (k : Nat) (E : TypeId) (V : α → Value → World → Prop) (B : Nat) (w : World) : GrowX X k E V B w (.slice none 0 0) [] :=
 ⟨[], rfl, World.ownsRow_nil _ _ _ _, fun j h => by simp at h⟩
theorem growx_slice {α : Type} {X : Nat → Bool} {k : Nat} {E : TypeId} {V : α → Value → World → Prop} {B : Nat} {w : World} {row : Value} {acc : List α} (h : GrowX X k E V B w row acc) : ∃ a c, row = .slice a acc.length c ∧ (acc.length ≤ c ∧ c ≤ maxLen) := by
 obtain ⟨us, _, ho, _⟩ := h.ex; rcases ho.2 with ⟨rfl, h0⟩ | ⟨g, cap, cur, rfl, _, _, h1, h2, _⟩
 ·exact ⟨_, _, by rw [h0], by rw [h0]; exact ⟨Nat.le_refl _, by decide⟩⟩
 ·exact ⟨_, _, rfl, h1, h2⟩
theorem growx_own {α : Type} {X : Nat → Bool} {k : Nat} {E : TypeId} {V : α → Value → World → Prop} {B : Nat} {w : World} {row : Value} {acc : List α} (h : GrowX X k E V B w row acc) : ∀ i, row.ownBlock = some i → B ≤ i ∧ i < w.heap.size := by
 obtain ⟨us, _, ho, _⟩ := h.ex; exact fun i e => World.ownsRow.lt ho i e
theorem growx_chg {α : Type} {X X' : Nat → Bool} {k : Nat} {E : TypeId} {V : α → Value → World → Prop} {B : Nat} {w w' : World} {row : Value} {acc : List α} (h : GrowX X k E V B w row acc) (hV : ∀ x u w w', Keeps w w' → V x u w → V x u w') {S : Nat → Prop} (hC : Chg S w w')
  (hS : ∀ i, S i → i < B ∨ X i = true) (hO : ∀ i, row.ownBlock = some i → ¬ S i) (hX : ∀ i, X' i = true → X i = true ∨ w.heap.size ≤ i) : GrowX X' k E V B w' row acc := by
 obtain ⟨us, h1, ⟨h2, h4⟩, h3⟩ := h.ex; refine ⟨us, h1, ⟨h2, ?_⟩, fun j hj hj' => ⟨hV _ _ _ _ (keeps_hide hC.size fun i hi hm => ?_) (h3 j hj hj').1, (h3 j hj hj').2⟩⟩
 ·rcases h4 with h4 | ⟨g, cap, cur, hv, hg, hh, r⟩
  ·exact .inl h4
  ·refine .inr ⟨g, cap, cur, hv, hg, ?_, r⟩
   rw [hC.block g (Array.getElem?_eq_some_iff.1 hh).1 (hO g (by rw [hv]; rfl))]; exact hh
 ·simp only [Bool.or_eq_false_iff, rowHid, decide_eq_false_iff_not] at hm ⊢
  have h5 : X' i = false := by
   cases hx : X' i with
   | false => rfl
   | true =>
    rcases hX i hx with h | h
    ·rw [h] at hm; cases hm.2
    ·omega
  refine ⟨⟨⟨hm.1.1, hm.1.2⟩, h5⟩, hC.block i hi fun hs => ?_⟩
  rcases hS i hs with h | h
  ·exact hm.1.1 h
  ·rw [h] at hm; cases hm.2
theorem growx_push {α : Type} {X : Nat → Bool} {k : Nat} {E : TypeId} {V : α → Value → World → Prop} {u w4 : World} {B : Nat} {row : Value} {acc : List α} {x : α} {v : Value} {us : List Value} {o : Obj} {g c : Nat} (hV : ∀ x u w w', Keeps w w' → V x u w → V x u w') (hu1 : us.length = acc.length)
  (hu3 : ∀ j (h : j < acc.length) (h' : j < us.length), V acc[j] us[j] (hide (fun i => rowHid B row i || X i) u) ∧ us[j].cells.size = k) (hx : V x v (hide (fun i => rowHid B row i || X i) u)) (hk : v.cells.size = k)
  (hown : w4.ownsRow B E k (.slice (some ⟨g, 0, none⟩) (acc.length + 1) c) (acc.length + 1) (us.flatMap (fun u => u.cells.toList) ++ v.cells.toList)) (hgrow : (u.alloc o).grownBy w4 row.ownBlock) (hat : row.ownBlock = some g ∨ g = u.heap.size + 1) :
  GrowX X k E V B w4 (.slice (some ⟨g, 0, none⟩) (acc.length + 1) c) (acc ++ [x]) ∧ Chg (fun i => row.ownBlock = some i) u w4 := by
 have hC : Chg (fun i => row.ownBlock = some i) u w4 := (((Chg.refl (fun _ => False) u).alloc o).weak (fun _ _ h => h.elim)).then (grown_own hgrow)
 have hK : Keeps (hide (fun i => rowHid B row i || X i) u) (hide (fun i => rowHid B (.slice (some ⟨g, 0, none⟩) (acc.length + 1) c) i || X i) w4) := keeps_hide hC.size fun i hi hm => by
  simp only [Bool.or_eq_false_iff, rowHid, decide_eq_false_iff_not] at hm ⊢; refine ⟨⟨⟨hm.1.1, fun e => ?_⟩, hm.2⟩, hC.block i hi hm.1.2⟩
  have e2 : g = i := by simpa [Value.ownBlock] using e
  subst e2; rcases hat with h | h
  ·exact hm.1.2 h
  ·omega
 refine ⟨⟨us ++ [v], by simp [hu1], by simpa using hown, fun j hj hj' => ?_⟩, hC⟩
 by_cases hl : j < acc.length
 ·have hl' : j < us.length := by omega
  rw [List.getElem_append_left hl, List.getElem_append_left hl']; obtain ⟨h4, h5⟩ := hu3 j hl hl'; exact ⟨hV _ _ _ _ hK h4, h5⟩
 ·rw [List.length_append, List.length_singleton] at hj
  obtain rfl : j = acc.length := by omega
  rw [List.getElem_append_right (Nat.le_refl _), List.getElem_append_right (by omega)]; simp only [Nat.sub_self, hu1, List.getElem_singleton]; exact ⟨hV _ _ _ _ hK hx, hk⟩
theorem growx_row {α : Type} {X : Nat → Bool} {k : Nat} {E : TypeId} {V : α → Value → World → Prop} {In : World → Nat → Nat → α → Prop} {B : Nat} {w : World} {v : Value} {l : List α} (h : GrowX X k E V B w v l)
  (hV : ∀ x u w w', Keeps w w' → V x u w → V x u w')
  (hI : ∀ (w : World) b o x u, V x u w → u.cells.size = k → (∀ i, i < k → w.cell? ⟨b, o + i, none⟩ = u.cells[i]?) → In w b o x) : RowAt k In l v (hide (below B) w) := by
 obtain ⟨us, h1, h2, h3⟩ := h.ex; refine Grow.row (E := E) ⟨us, h1, h2, fun j hj hj' => ⟨hV _ _ _ _ (keeps_hide (Nat.le_refl _) fun i hi hm => ?_) (h3 j hj hj').1, (h3 j hj hj').2⟩⟩ hV hI
 simp only [Bool.or_eq_false_iff] at hm; exact ⟨hm.1, rfl⟩
theorem fresh_keeps {X : Nat → Bool} {A B : Nat} {row : Value} {w : World} (hB : B ≤ A) (hr : ∀ i, row.ownBlock = some i → i < A) (hX : ∀ i, X i = true → i < A) : Keeps (hide (below A) w) (hide (fun i => rowHid B row i || X i) w) := keeps_hide (Nat.le_refl _) fun i hi hm => by
 simp only [below, decide_eq_false_iff_not] at hm; refine ⟨?_, rfl⟩
 simp only [Bool.or_eq_false_iff, rowHid, decide_eq_false_iff_not]; refine ⟨⟨by omega, fun e => hm (hr i e)⟩, ?_⟩
 cases hx : X i with
 | false => rfl
 | true => exact absurd (hX i hx) hm
def ownB (v : Value) : Nat → Bool := fun i => decide (v.ownBlock = some i)
structure Two (B : Nat) (u : World) (rv rp : Value) (vs : List FVar) (ps : List FProc) : Prop where
 gv : Grow 4 82 OVar B u rv vs
 gp : GrowX (ownB rv) 6 179 OProc B u rp ps
 apart : ∀ i, rv.ownBlock = some i → rp.ownBlock ≠ some i
theorem Two.nil (B : Nat) (u : World) : Two B u (.slice none 0 0) (.slice none 0 0) [] [] := ⟨Grow.nil _ _ _ _ _, growx_nil _ _ _ _ _ _, fun i e => by cases e⟩
theorem Two.chg {B : Nat} {u u' : World} {rv rp : Value} {vs : List FVar} {ps : List FProc} (h : Two B u rv rp vs ps) {S : Nat → Prop} (hC : Chg S u u') (hS : ∀ i, S i → i < B) : Two B u' rv rp vs ps :=
 ⟨h.gv.chg var_keeps hC hS, growx_chg h.gp proc_keeps hC (fun i hi => .inl (hS i hi)) (fun i e hs => by have := growx_own h.gp i e; have := hS i hs; omega) (fun i e => .inl e), h.apart⟩
theorem Two.ext {B : Nat} {u u' : World} {rv rp : Value} {vs : List FVar} {ps : List FProc} (h : Two B u rv rp vs ps) (hE : Ext u u') : Two B u' rv rp vs ps := h.chg hE fun _ e => e.elim
theorem Two.pushV {B : Nat} {u w4 : World} {rv rp : Value} {vs : List FVar} {ps : List FProc} (h : Two B u rv rp vs ps) {o : Obj} {g c : Nat} {x : FVar} (hG : Grow 4 82 OVar B w4 (.slice (some ⟨g, 0, none⟩) (vs.length + 1) c) (vs ++ [x])) (hg : (u.alloc o).grownBy w4 rv.ownBlock) (ha : rv.ownBlock = some g ∨ g = u.heap.size + 1) : Two B w4 (.slice (some ⟨g, 0, none⟩) (vs.length + 1) c) rp (vs ++ [x]) ps := by
 have hC : Chg (fun i => rv.ownBlock = some i) u w4 := (((Chg.refl (fun _ => False) u).alloc o).weak (fun _ _ h => h.elim)).then (grown_own hg)
 refine ⟨hG, growx_chg h.gp proc_keeps hC (fun i hi => .inr (by simp [ownB, hi])) (fun i e hs => h.apart i hs e) (fun i e => ?_), fun i hi e => ?_⟩
 ·have : g = i := by simpa [ownB, Value.ownBlock] using e
  subst this; rcases ha with ha | ha
  ·exact .inl (by simp [ownB, ha])
  ·exact .inr (by omega)
 ·have : g = i := by simpa [Value.ownBlock] using hi
  subst this; rcases ha with ha | ha
  ·exact h.apart g ha e
  ·have := growx_own h.gp g e; omega
theorem Two.pushP {B : Nat} {u w4 : World} {rv rp : Value} {vs : List FVar} {ps : List FProc} (h : Two B u rv rp vs ps) {o : Obj} {g c : Nat} {x : FProc} (hG : GrowX (ownB rv) 6 179 OProc B w4 (.slice (some ⟨g, 0, none⟩) (ps.length + 1) c) (ps ++ [x])) (hg : (u.alloc o).grownBy w4 rp.ownBlock) (ha : rp.ownBlock = some g ∨ g = u.heap.size + 1) : Two B w4 rv (.slice (some ⟨g, 0, none⟩) (ps.length + 1) c) vs (ps ++ [x]) := by
 refine ⟨?_, hG, fun i hi e => ?_⟩
 ·obtain ⟨us, h1, h2, h3⟩ := (h.gv.chg var_keeps ((Chg.refl (fun _ => False) u).alloc o) (fun _ e => e.elim)).ex
  refine ⟨us, h1, h2.kept hg ?_, fun j hj hj' => ⟨(h3 j hj hj').1, (h3 j hj hj').2⟩⟩
  cases hr : rv.ownBlock with
  | none => exact .inl rfl
  | some i => exact .inr fun e => h.apart i hr e.symm
 ·have : g = i := by simpa [Value.ownBlock] using e
  subst this; rcases ha with ha | ha
  ·exact h.apart g hi ha
  ·have := grow_own h.gv g hi; omega
theorem Two.face {B : Nat} {u : World} {rv rp : Value} {vs : List FVar} {ps : List FProc} (h : Two B u rv rp vs ps) (t : ByteArray) (ht : t.size ≤ 10000) : FaceAt (hide (below B) u) ⟨t, vs, ps⟩ (.agg #[.string t, rv, rp]) := by
 obtain ⟨a, m, rfl, h1, h2, h3⟩ := h.gv.row var_keeps var_lies; obtain ⟨c, d, rfl, h4, h5, h6⟩ := growx_row h.gp proc_keeps proc_lies; exact ⟨a, m, c, d, rfl, h3, h6, small _ ht, h1, h2, h4, h5⟩
theorem faceAt_keeps {w w' : World} (hk : Keeps w w') {x : FFace} {v : Value} (h : FaceAt w x v) : FaceAt w' x v := by
 obtain ⟨a, m, c, d, rfl, h1, h2, h3⟩ := h; exact ⟨a, m, c, d, rfl, h1.keeps hk fun _ _ _ => varIn_keeps hk, h2.keeps hk fun _ _ _ => procIn_keeps hk, h3⟩
end ofp
end Go.Proofs.YtpcihajmcejliabGreatDoor
namespace Go.Proofs.YtpcihajmcejliabGreatDoor
open Go.RowKit Go.WideMaps Go.Maps
def assF (L : List (ByteArray × Int)) (s : ByteArray) : Option Int := match L with
 | [] => none
 | (x, v) :: r => if x = s then some v else assF r s
def keysF (L : List (ByteArray × Int)) : List (List UInt8) := L.map fun p => p.1.data.toList
namespace ofmap
theorem keyed : Keyed Tryz.prog 9 := string_keyed Tryz.underlying9
theorem zeroI (w : World) : (zeroValue 3).run Tryz.prog w = .ok (.int .i64 0) w := by kernel_rfl
theorem ass_snoc (L : List (ByteArray × Int)) (x s : ByteArray) (v : Int) : assF (L ++ [(x, v)]) s = match assF L s with
  | some c => some c
  | none => if x = s then some v else none := by
 induction L with
 | nil => simp [assF]
 | cons p r ih =>
  obtain ⟨y, c⟩ := p; simp only [List.cons_append, assF]; by_cases hy : y = s
  ·simp [hy]
  ·rw [if_neg hy, if_neg hy, ih]
theorem ass_keys (L : List (ByteArray × Int)) (s : ByteArray) : (assF L s).isSome = (keysF L).contains s.data.toList := by
 induction L with
 | nil => rfl
 | cons p r ih =>
  obtain ⟨y, c⟩ := p; simp only [assF, keysF, List.map_cons, List.contains_cons]; by_cases hy : y = s
  ·simp [hy]
  ·rw [if_neg hy, ih]
   have : ¬ s.data.toList = y.data.toList := fun e => hy (ByteArray.ext (Array.toList_inj.1 e.symm))
   have h2 : (s.data.toList == y.data.toList) = false := beq_eq_false_iff_ne.2 this; rw [h2, Bool.false_or]; rfl
def WMap (w : World) (b : Nat) (L : List (ByteArray × Int)) : Prop :=
 ∃ (D : DataW Unit), w.ownsMap Tryz.prog 9 (plainElem Tryz.prog 3) b L.length D ∧ Maps.size D = L.length ∧
  ∀ s : ByteArray, has D (.string s.data.toList) = (assF L s).isSome ∧ ∀ c : Int, D.atKey (.string s.data.toList) (.lit (.int .i64 0)) = .lit (.int .i64 c) → c = (assF L s).getD 0
theorem WMap.kept {w w' : World} {b : Nat} {L : List (ByteArray × Int)} (h : WMap w b L) {row : Option Nat} (hg : w.grownBy w' row) (hne : some b ≠ row) : WMap w' b L := by
 obtain ⟨D, h1, h2⟩ := h; exact ⟨D, h1.kept hg hne, h2⟩
theorem WMap.lt {w : World} {b : Nat} {L : List (ByteArray × Int)} (h : WMap w b L) : b < w.heap.size := by
 obtain ⟨D, h1, _⟩ := h; exact h1.lt
theorem WMap.chg {w w' : World} {b : Nat} {L : List (ByteArray × Int)} (h : WMap w b L) {S : Nat → Prop} (hC : Chg S w w') (hn : ¬ S b) : WMap w' b L := by
 obtain ⟨D, ⟨es, clock, hb, F, hs, hD⟩, h2⟩ := h; exact ⟨D, ⟨es, clock, (hC.block b (Array.getElem?_eq_some_iff.1 hb).1 hn).trans hb, F, hs, hD⟩, h2⟩
theorem WMap.drewN {w : World} {b : Nat} {L : List (ByteArray × Int)} (h : WMap w b L) (n : Nat) : WMap (w.drewN n) b L := h
theorem WMap.made (w : World) : WMap (w.alloc (.map #[] 0)) w.heap.size [] := by
 refine ⟨.map [], World.ownsMap_made _ _ _ _, rfl, fun s => ⟨rfl, fun c h => ?_⟩⟩
 rw [WideAt.atKey_none _ (by simp)] at h; simp at h
 simp [assF]; exact h.symm
theorem WMap.put {w : World} {b : Nat} {L : List (ByteArray × Int)} (h : WMap w b L) {x : ByteArray} {v : Int} (hx : assF L x = none) (hs : x.size ≤ maxLen) (hl : L.length < maxLen) (hv0 : 0 ≤ v) (hv : v < 9223372036854775808) :
  ∃ w', (Instr.mapUpdate 91 (.map (some b)) (.string x) (.int .i64 v)).run Tryz.prog w = .ok () w' ∧ WMap w' b (L ++ [(x, v)]) ∧ w.grownBy w' (some b) := by
 obtain ⟨D, hown, hsz, h2⟩ := h; have hkey := keyOf_string_mk (P := Tryz.prog) (k := 9) Tryz.underlying9 hs
 have hwf : (Lit.int .i64 v).wf = true := by
  simp only [Lit.wf, Bool.and_eq_true, decide_eq_true_eq, show IntKind.i64.min = -9223372036854775808 from rfl, show IntKind.i64.max = 9223372036854775807 from rfl]; omega
 obtain ⟨w', hrun, hM, hg⟩ := hown.update (t := 91) keyed Tryz.underlying91 hl hkey (plainElem_int (P := Tryz.prog) (q := .i64) Tryz.underlying3 (a := v) hwf); have hk : WideAt.IsKeyLit (.string x.data.toList) := by trivial
 refine ⟨w', hrun, ⟨_, by rw [List.length_append]; exact hM, ?_, fun s => ?_⟩, hg⟩
 ·rw [size_put (hown.tidy keyed), (h2 x).1, hx, hsz]
  simp
 rw [ass_snoc]; by_cases e : x = s
 ·subst e
  rw [has_put_same hown.isMap hk, hx]; refine ⟨by simp, fun c hc => ?_⟩
  rw [atKey_put_same hown.isMap hk] at hc; simp at hc ⊢
  exact hc.symm
 ·have hne : (Lit.string s.data.toList) ≠ .string x.data.toList := by
   intro h; exact e (ByteArray.ext (Array.ext' (by simpa using h.symm)))
  rw [has_put_other hne, (h2 s).1]; refine ⟨by cases assF L s <;> simp [e], fun c hc => ?_⟩
  rw [atKey_put_other hne] at hc; rw [(h2 s).2 c hc]; cases assF L s <;> simp [e]
theorem WMap.look {w : World} {b : Nat} {L : List (ByteArray × Int)} (h : WMap w b L) {s : ByteArray} (hs : s.size ≤ maxLen) :
  (Instr.lookup 91 (.map (some b)) (.string s) true).run Tryz.prog w = .ok (.tuple #[.int .i64 ((assF L s).getD 0), .bool (assF L s).isSome]) w := by
 obtain ⟨D, hown, -, h2⟩ := h; have hkey := keyOf_string_mk (P := Tryz.prog) (k := 9) Tryz.underlying9 hs; obtain ⟨v, ps, hrun2, hv⟩ := hown.look_ok (t := 91) keyed Tryz.underlying91 (zeroI w) (plainElem_int (P := Tryz.prog) (q := .i64) Tryz.underlying3 (a := 0) (by decide)) hkey; obtain ⟨c2, rfl, hc2, -⟩ := plainElem_int_inv Tryz.underlying3 hv; simp only [Prod.mk.injEq] at hc2; rw [(h2 s).2 c2 hc2.1, (h2 s).1] at hrun2; exact hrun2
theorem WMap.len {w : World} {b : Nat} {L : List (ByteArray × Int)} (h : WMap w b L) (ty : TypeId) : (Builtin.len_ #[91] ty #[.map (some b)]).run Tryz.prog w = .ok (.int .i64 (L.length : Nat)) w := by
 obtain ⟨D, hown, hsz, -⟩ := h; rw [← hsz]; exact hown.len (t := 91) Tryz.underlying91 ty
def firstV (c p : Int) : List PanicEntry := [{ v := .iface 266 (.agg #[.int .i64 c, .int .i64 p]), recovered := false }]
set_option maxRecDepth 100000 in
theorem must_yes (c p : Int) (w : World) : Calls Tryz.prog 184 #[.bool true, .int .i64 c, .int .i64 p] w fun e w' => e = .returned (.tuple #[]) ∧ w' = w := by
 go_enter Tryz.func184, Tryz.ntmps184
 go_wp2_with fail
 go_end0
 exact ⟨rfl, rfl⟩
set_option maxRecDepth 100000 in
theorem must_no (c p : Int) (w : World) : Calls Tryz.prog 184 #[.bool false, .int .i64 c, .int .i64 p] w fun e w' => e = .panicked (firstV c p) ∧ w' = w := by
 go_enter Tryz.func184, Tryz.ntmps184
 go_wp2_with fail
 exact ⟨rfl, rfl, rfl⟩
end ofmap
end Go.Proofs.YtpcihajmcejliabGreatDoor
