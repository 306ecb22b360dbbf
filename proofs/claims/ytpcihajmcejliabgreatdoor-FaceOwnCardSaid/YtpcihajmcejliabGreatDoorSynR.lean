/- A region that draws its order: operations that turn what lies there wait for one another; those that only make memory, or only look, may come anywhere between. The parser: a node that is being built, and a kid that is appended to it. The parser in plain Lean: what is read makes the rest shorter. The parser: what a function of it stands in, a node in a local variable, and how a node is told. The reference's reader of modules: how it lies, and what its calls come to. -/
import Derived.Deep.AppendLies
import Derived.Deep.LoopGhost
import Derived.Test.YtpcihajmcejliabGreatDoorChain
import Derived.Test.YtpcihajmcejliabGreatDoorSynP
namespace Go.Proofs.YtpcihajmcejliabGreatDoor
open Go.RowKit
namespace weave
open chain
open specs (waitsB upTo unl unl_set unl_zero unl_all)
def known (ops : Array Oper) (c : List Nat) (Sp : Nat → Value → World → Prop) (x : Nat → Value) (vs : List Value) (w : World) (j : Nat) : Prop :=
 match at_ c j with
 | some m => ∀ t, dstOf ops j = some t → x t = vs.getD m undef
 | none => Sp j (x (dstAt ops j)) w
structure Inv (ops : Array Oper) (c : List Nat) (Sp : Nat → Value → World → Prop) (F : List Value → World → Prop) (l : Array Bool) (x : Nat → Value) (w : World) (vs : List Value) : Prop where
 size : l.size = ops.size
 holds : F vs w
 len : vs.length ≤ c.length
 closed : ∀ j o, ops[j]? = some o → l.getD j false = true → ∀ e ∈ o.after, Region.binds .any e = true → l.getD e.on false = true
 done : ∀ m, m < c.length → (l.getD (c.getD m 0) false = true ↔ m < vs.length)
 yes : ∀ i, i < ops.size → l.getD i false = true → known ops c Sp x vs w i
def slotB (ops : Array Oper) (c : List Nat) : Bool := (List.range ops.size).all fun i => (at_ c i).isSome || (dstOf ops i).isSome
def Step (P : Program) (ops : Array Oper) (n : Nat) (c : List Nat) (Sp : Nat → Value → World → Prop) (F : List Value → World → Prop) (G : World → World → Prop) (frame : (Nat → Value) → Act) (Q : Exit → Act → World → Prop) (i : Nat) (o : Oper) : Prop :=
 ∀ x vs w, F vs w → (∀ m, at_ c i = some m → vs.length = m) → (∀ m o', m < c.length → ops[c.getD m 0]? = some o' → waitsB o' i = true → vs.length ≤ m) → (∀ j, j < n → waitsB o j = true → known ops c Sp x vs w j) →
  ∀ K : Act → World → Prop, Shut (∀ a' w' v, a' = (frame x).put o.dst v → G w w' → (match at_ c i with | some _ => F (vs ++ [v]) w' | none => Sp i v w' ∧ F vs w') → K a' w') → Oper.wp P o (frame x) w K Q
theorem run {P : Program} {ops : Array Oper} {Q : Exit → Act → World → Prop} {a : Act} (c : List Nat) (Sp : Nat → Value → World → Prop) (F : List Value → World → Prop) (G : World → World → Prop) (hB : okB ops c = true) (hS : slotB ops c = true)
  (stab : ∀ i v w w', Sp i v w → G w w' → Sp i v w')
  (step : ∀ i o, ops[i]? = some o → Step P ops ops.size c Sp F G (frameOf ops a) Q i o)
  (fin : ∀ x vs w, vs.length = c.length → F vs w → (∀ i, i < ops.size → known ops c Sp x vs w i) → Q .normal (frameOf ops a x) w) :
  ∀ (fuel : Nat) (l : Array Bool) (x : Nat → Value) (w : World) (vs : List Value), unl l ops.size = fuel → Inv ops c Sp F l x w vs → wpAny P .any ops Q fuel l (frameOf ops a x) w := by
 intro fuel; induction fuel with
 | zero =>
  intro l x w vs hu hI; have hall := unl_zero _ hu; refine ⟨?_, fin x vs w ?_ hI.holds fun i hi => hI.yes i hi (hall i hi)⟩
  ·rw [List.eq_nil_iff_forall_not_mem]
   intro j hj; obtain ⟨h1, o, ho, -⟩ := mem_ready.1 hj; have hj' := (Array.getElem?_eq_some_iff.1 ho).1; have h2 := hall j hj'; have hjl : j < l.size := by rw [hI.size]; exact hj'
   simp [hjl] at h1 h2
   rw [h1] at h2; cases h2
  ·rcases Nat.lt_or_ge vs.length c.length with h | h
   ·have := (hI.done _ h).1 (hall _ (ok_chain hB h).1)
    omega
   ·have := hI.len; omega
 | succ fuel ih =>
  intro l x w vs hu hI; refine ⟨fun h0 => ?_, fun i hi => ?_⟩
  ·exfalso
   have : ∃ i, i < ops.size ∧ l.getD i false = false := by
    by_cases hc : ∃ i, i < ops.size ∧ l.getD i false = false
    ·exact hc
    ·exfalso
     have hz : ∀ n, n ≤ ops.size → unl l n = 0 := by
      intro n; induction n with
      | zero => intro _; rfl
      | succ n ihn =>
       intro hn; rw [unl, ihn (by omega), if_pos]; cases hb : l.getD n false
       ·exact absurd ⟨n, by omega, hb⟩ hc
       ·rfl
     rw [hz _ (Nat.le_refl _)] at hu; omega
   obtain ⟨i, hi, hb⟩ := this; obtain ⟨j, hj⟩ := any_ready hB hI.size i i rfl hi hb; rw [h0] at hj; cases hj
  ·obtain ⟨h1, o, ho, hall⟩ := mem_ready.1 hi
   have hio := (Array.getElem?_eq_some_iff.1 ho).1; have hil : i < l.size := by rw [hI.size]; exact hio
   have h1' : l.getD i false = false := by simp [hil] at h1 ⊢; exact h1
   have hdep : ∀ j, waitsB o j = true → l.getD j false = true := fun j hw => by
    obtain ⟨e, he, hb⟩ := Array.any_eq_true'.1 hw; simp only [Bool.and_eq_true, beq_iff_eq] at hb; rw [← hb.2]; exact hall e he hb.1
   have hlen : ∀ m, at_ c i = some m → vs.length = m := fun m hm => by
    obtain ⟨hmc, hmi⟩ := at_some hm
    have hno : ¬ m < vs.length := fun h => by
     have := (hI.done m hmc).2 h; rw [hmi, h1'] at this; cases this
    rcases (ok_chain hB hmc).2.1 with h | ⟨o', ho', hw⟩
    ·omega
    ·rw [hmi] at ho'
     obtain rfl : o' = o := Option.some.inj (ho'.symm.trans ho); rcases Nat.eq_zero_or_pos m with h0 | h0
     ·omega
     ·have := (hI.done (m - 1) (by omega)).1 (hdep _ hw)
      omega
   have hbef : ∀ m o', m < c.length → ops[c.getD m 0]? = some o' → waitsB o' i = true → vs.length ≤ m := fun m o' hm ho' hw => by
    rcases Nat.lt_or_ge m vs.length with h | h
    ·exfalso
     have hl := (hI.done m hm).2 h; obtain ⟨e, he, hb⟩ := Array.any_eq_true'.1 hw; simp only [Bool.and_eq_true, beq_iff_eq] at hb; have := hI.closed _ o' ho' hl e he hb.1; rw [hb.2, h1'] at this; cases this
    ·exact h
   refine wpOp_step ho fun K hK => ?_
   have hwd : Region.wanted o (yielded ops (frameOf ops a x).tmps) = true := by simp [Region.wanted, (ok_at hB ho).1]
   rw [if_pos hwd]; refine step i o ho x vs w hI.holds hlen hbef (fun j hj hw => hI.yes j hj (hdep j hw)) K (fun a' w' v ha' hG hv => hK a' w' ?_)
   subst ha'; rw [frame_put a x ho]
   have hne : ∀ j t u, j < ops.size → j ≠ i → dstOf ops j = some t → slots ops i x u t = x t := fun j t u hj hne ht => by
    unfold slots; cases hd : dstOf ops i with
    | none => rfl
    | some t' =>
     simp only [upTo]; rw [if_neg]; rintro rfl; exact dst_ne hB hio hj (Ne.symm hne) hd ht
   have heq : ∀ t u, dstOf ops i = some t → slots ops i x u t = u := fun t u ht => by
    unfold slots; rw [ht]; simp [upTo]
   have hdst : ∀ j, j < ops.size → at_ c j = none → dstOf ops j = some (dstAt ops j) := fun j hj hc => by
    have := List.all_eq_true.1 hS j (List.mem_range.2 hj); rw [hc] at this; simp only [Option.isSome_none, Bool.false_or] at this; obtain ⟨t, ht⟩ := Option.isSome_iff_exists.1 this; unfold dstAt; rw [ht]; rfl
   have hold : ∀ j, j < ops.size → l.getD j false = true → j ≠ i → ∀ vs', (∀ m, m < vs.length → vs'.getD m undef = vs.getD m undef) → known ops c Sp (slots ops i x v) vs' w' j := fun j hj hl hji vs' hvs => by
    have hk := hI.yes j hj hl; unfold known at hk ⊢; cases hcj : at_ c j with
    | none =>
     rw [hcj] at hk; simp only at hk ⊢; rw [hne j _ v hj hji (hdst j hj hcj)]; exact stab _ _ _ _ hk hG
    | some m =>
     rw [hcj] at hk; simp only at hk ⊢; intro t ht; rw [hne j t v hj hji ht, hk t ht]; obtain ⟨hmc, hmj⟩ := at_some hcj; exact (hvs m ((hI.done m hmc).1 (by rw [hmj]; exact hl))).symm
   cases hc : at_ c i with
   | none =>
    rw [hc] at hv; obtain ⟨hsp, hF⟩ := hv; refine ih _ _ _ vs (by have := unl_set hil h1' ops.size hio; omega) ⟨by simp [hI.size], hF, hI.len, fun j oj hoj hl e he hb => ?_, fun m hm => ?_, fun j hj hl => ?_⟩
    ·by_cases e' : i = j
     ·subst e'
      obtain rfl : oj = o := Option.some.inj (hoj.symm.trans ho); exact getD_set_true (hall e he hb)
     ·rw [getD_set_ne false e'] at hl
      exact getD_set_true (hI.closed j oj hoj hl e he hb)
    ·have hmi : c.getD m 0 ≠ i := fun e => by
      have := (ok_chain hB hm).2.2; rw [e, hc] at this; cases this
     rw [getD_set_ne false (Ne.symm hmi)]; exact hI.done m hm
    ·by_cases e' : j = i
     ·subst e'
      unfold known; rw [hc]; simp only
      rw [heq _ _ (hdst _ hj hc)]; exact hsp
     ·rw [getD_set_ne false (Ne.symm e')] at hl
      exact hold j hj hl e' vs fun _ _ => rfl
   | some m =>
    rw [hc] at hv; have hvl := hlen m hc; obtain ⟨hmc, hmi⟩ := at_some hc; refine ih _ _ _ (vs ++ [v]) (by have := unl_set hil h1' ops.size hio; omega) ⟨by simp [hI.size], hv, by simp; omega, fun j oj hoj hl e he hb => ?_, fun m' hm' => ?_, fun j hj hl => ?_⟩
    ·by_cases e' : i = j
     ·subst e'
      obtain rfl : oj = o := Option.some.inj (hoj.symm.trans ho); exact getD_set_true (hall e he hb)
     ·rw [getD_set_ne false e'] at hl
      exact getD_set_true (hI.closed j oj hoj hl e he hb)
    ·rw [List.length_append, List.length_singleton, hvl]
     by_cases e' : m' = m
     ·subst e'
      rw [hmi]; simp [hil]
     ·have hmi' : c.getD m' 0 ≠ i := fun e => by
       have := (ok_chain hB hm').2.2; rw [e, hc] at this; cases this; exact e' rfl
      rw [getD_set_ne false (Ne.symm hmi'), hI.done m' hm', hvl]; omega
    ·by_cases e' : j = i
     ·subst e'
      unfold known; rw [hc]; simp only
      intro t ht; rw [heq t _ ht]; simp [← hvl]
     ·rw [getD_set_ne false (Ne.symm e')] at hl
      exact hold j hj hl e' _ fun m' hm' => by simp [List.getElem?_append_left hm']
end weave
open specs weave in
theorem wp_region_weave {P : Program} {id : Nat} {l : List Oper} {Q : Exit → Act → World → Prop} {a : Act} {w : World} (c : List Nat) (Sp : Nat → Value → World → Prop) (F : List Value → World → Prop) (G : World → World → Prop) {frame : (Nat → Value) → Act} (hf : ∀ x, chain.frameOf l.toArray a x = frame x) (hm : P.follows .mixedOrders = true) (hB : chain.okB l.toArray c = true) (hS : slotB l.toArray c = true)
  (stab : ∀ i v w w', Sp i v w → G w w' → Sp i v w')
  (h0 : F [] w.drew)
  (step : AllFrom (fun i o => weave.Step P l.toArray l.length c Sp F G frame Q i o) 0 l)
  (fin : ∀ x vs w1, vs.length = c.length → F vs w1 → (∀ i, i < l.length → weave.known l.toArray c Sp x vs w1 i) → Q .normal (frame x) w1) : (Code.region id l.toArray true).wp P Q a w := by
 have ha : chain.frameOf l.toArray a (fun k => a.tmps.getD k undef) = a := by unfold chain.frameOf; rw [chain.fill_self]
 have hfe : chain.frameOf l.toArray a = frame := funext hf; refine wp_region_any hm ?_
 have h := weave.run (P := P) (ops := l.toArray) (Q := Q) (a := a) c Sp F G hB hS stab (fun i o ho => by
   have h := step.get i o (by simpa using ho); rw [Nat.zero_add] at h; rw [hfe]; simpa using h) (fun x vs w1 hl hF hs => by rw [hf]; exact fin x vs w1 hl hF fun i hi => hs i (by simpa using hi)) l.toArray.size (Array.replicate l.toArray.size false) (fun k => a.tmps.getD k undef) w.drew [] (unl_all _ _ (Nat.le_refl _))
  ⟨by simp, h0, by simp, fun j o ho hl => (by rw [getD_replicate_false] at hl; cases hl), fun m hm => (by rw [getD_replicate_false]; simp), fun i hi hl => (by rw [getD_replicate_false] at hl; cases hl)⟩
 rw [ha] at h; exact h
end Go.Proofs.YtpcihajmcejliabGreatDoor
namespace Go.Proofs.YtpcihajmcejliabGreatDoor
open Go.RowKit
namespace synw
theorem mixed : Tryz.prog.follows .mixedOrders = true := by kernel_rfl
theorem info_node : (Tryz.prog.info? 66).map (fun i => (i.zero, i.size, i.bytes)) = some (some (.agg #[.int .i64 0, .string ⟨#[]⟩, .int .i64 0, .slice none 0 0]), 4, 56) := by kernel_rfl
theorem info_split {o : Option TypeInfo} {z : Option Value} {s b : Nat} (h : o.map (fun i => (i.zero, i.size, i.bytes)) = some (z, s, b)) : ∃ i, o = some i ∧ i.zero = z ∧ i.size = s ∧ i.bytes = b := by
 cases o with
 | none => cases h
 | some i =>
  simp only [Option.map_some, Option.some.injEq, Prod.mk.injEq] at h; exact ⟨i, rfl, h.1, h.2.1, h.2.2⟩
def zeroNd : Array Value := #[.int .i64 0, .string ⟨#[]⟩, .int .i64 0, .slice none 0 0]
def VN (H : Nat) (x : Nd) (v : Value) (w' : World) : Prop := NdAt (hide (below H) w') x v
structure Bld (W w0 u : World) (S E A N : Nat) (l : List Tk) (kind : Int) (text : ByteArray) (num : Int) (rowN row : Value) (acc : List Nd) : Prop where
 pr : PrAt W u S E l
 chg : Chg (fun i => i = S) w0 u
 res : Blk u A zeroNd 66
 nd : Blk u N #[.int .i64 kind, .string text, .int .i64 num, rowN] 66
 grow : Grow 4 66 VNd (N + 1) u row acc
 hS : S < w0.heap.size
 hA : w0.heap.size ≤ A
 hAN : A < N
 few : acc.length + l.length ≤ 10000
theorem Bld.call {W w0 u u' : World} {S E A N : Nat} {l l' : List Tk} {kind num : Int} {text : ByteArray} {rowN row : Value} {acc : List Nd} (h : Bld W w0 u S E A N l kind text num rowN row acc) (hC : Chg (fun i => i = S) u u') (hP : PrAt W u' S E l') (hl : l'.length ≤ l.length) :
  Bld W w0 u' S E A N l' kind text num rowN row acc := by
 have h1 := h.hS; have h2 := h.hA; have h3 := h.hAN; have h4 := h.few
 exact ⟨hP, h.chg.then hC, h.res.chg hC (by omega), h.nd.chg hC (by omega), h.grow.chg vnd_keeps hC (fun i hi => by omega), h1, h2, h3, by omega⟩
theorem Bld.extend {W w0 u u' : World} {S E A N : Nat} {l : List Tk} {kind num : Int} {text : ByteArray} {rowN row : Value} {acc : List Nd} (h : Bld W w0 u S E A N l kind text num rowN row acc) (hE : Ext u u') : Bld W w0 u' S E A N l kind text num rowN row acc :=
 h.call (ext_at hE S) (h.pr.extend hE) (Nat.le_refl _)
theorem Bld.lt {W w0 u : World} {S E A N : Nat} {l : List Tk} {kind num : Int} {text : ByteArray} {rowN row : Value} {acc : List Nd} (h : Bld W w0 u S E A N l kind text num rowN row acc) : N < u.heap.size := h.nd.lt
theorem Bld.slice {W w0 u : World} {S E A N : Nat} {l : List Tk} {kind num : Int} {text : ByteArray} {rowN row : Value} {acc : List Nd} (h : Bld W w0 u S E A N l kind text num rowN row acc) : ∃ a c, row = .slice a acc.length c := by
 obtain ⟨us, _, ho, _⟩ := h.grow.ex; rcases ho.2 with ⟨rfl, h0⟩ | ⟨g, cap, cur, rfl, _⟩
 ·exact ⟨_, _, by rw [h0]⟩
 ·exact ⟨_, _, rfl⟩
theorem Bld.start {W w0 u : World} {S E A N : Nat} {l : List Tk} {kind num : Int} {text : ByteArray} (hP : PrAt W u S E l) (hC : Chg (fun i => i = S) w0 u) (hR : Blk u A zeroNd 66) (hN : Blk u N #[.int .i64 kind, .string text, .int .i64 num, .slice none 0 0] 66)
  (hS : S < w0.heap.size) (hA : w0.heap.size ≤ A) (hAN : A < N) (hl : l.length ≤ 10000) : Bld W w0 u S E A N l kind text num (.slice none 0 0) (.slice none 0 0) [] :=
 ⟨hP, hC, hR, hN, Grow.nil _ _ _ _ _, hS, hA, hAN, by simpa using hl⟩
theorem pr_len {W w : World} {S E : Nat} {l : List Tk} (h : PrAt W w S E l) : l.length ≤ 10000 := by
 obtain ⟨a, n, c, k, hb, h1, h2, h3⟩ := h.ex; omega
theorem Bld.done {W w0 u : World} {S E A N : Nat} {l : List Tk} {kind num : Int} {text : ByteArray} {row : Value} {acc : List Nd} (h : Bld W w0 u S E A N l kind text num row row acc) (ht : text.size ≤ 10000) : VN w0.heap.size (.mk kind text num acc) (.agg #[.int .i64 kind, .string text, .int .i64 num, row]) u := by
 have h2 := h.hA; have h3 := h.hAN
 exact ndAt_low (ndAt_grow h.grow ht) (by omega)
def PushF (W w0 : World) (S E A N : Nat) (l : List Tk) (kind : Int) (text : ByteArray) (num : Int) (row : Value) (acc : List Nd) (T : Out Nd) : List Value → World → Prop
 | [], u => Bld W w0 u S E A N l kind text num row row acc
 | [v], u => ∃ x l', Hid (T = .got x l') ∧ Bld W w0 u S E A N l' kind text num row row acc ∧ acc.length + 1 + l'.length ≤ 10000 ∧ NdAt (hide (rowHid (N + 1) row) u) x v
 | [v, s], u => ∃ x l', Hid (T = .got x l') ∧ Bld W w0 u S E A N l' kind text num row row acc ∧ acc.length + 1 + l'.length ≤ 10000 ∧ NdAt (hide (rowHid (N + 1) row) u) x v ∧ ∃ g, s = .slice (some ⟨g, 0, none⟩) 1 1 ∧ Blk u g v.cells 66 ∧ row.ownBlock ≠ some g
 | [_, _, r], u => ∃ x l', Hid (T = .got x l') ∧ Bld W w0 u S E A N l' kind text num row r (acc ++ [x]) ∧ ∃ g c, r = .slice (some ⟨g, 0, none⟩) (acc.length + 1) c
 | [_, _, r, _], u => ∃ x l', Hid (T = .got x l') ∧ Bld W w0 u S E A N l' kind text num r r (acc ++ [x])
 | _, _ => False
theorem PushF.cell {W w0 u : World} {S E A N : Nat} {l : List Tk} {kind num : Int} {text : ByteArray} {row : Value} {acc : List Nd} {T : Out Nd} {vs : List Value} (h : PushF W w0 S E A N l kind text num row acc T vs u) (hv : vs.length ≤ 2) : u.cell? ⟨N, 3, none⟩ = some row := by
 match vs, hv, h with
 | [], _, h => exact (show Bld .. from h).nd.cell 3
 | [_], _, ⟨x, l', _, h, _⟩ => exact h.nd.cell 3
 | [_, _], _, ⟨x, l', _, h, _⟩ => exact h.nd.cell 3
theorem push_call {W w0 u u2 : World} {S E A N : Nat} {l l' : List Tk} {kind num : Int} {text : ByteArray} {row : Value} {acc : List Nd} {T : Out Nd} {x : Nd} {v : Value} (h : Bld W w0 u S E A N l kind text num row row acc) (hC : Chg (fun i => i = S) u u2) (hT : T = .got x l') (hV : VN u.heap.size x v u2) (hP : PrAt W u2 S E l') (hl : l'.length < l.length) :
  PushF W w0 S E A N l kind text num row acc T [v] u2 := by
 have h4 := h.few; refine ⟨x, l', Z_ hT, h.call hC hP (by omega), by omega, ndAt_keeps (keeps_hide (Nat.le_refl _) fun i hi hm => ?_) _ _ hV⟩
 simp only [below, rowHid, decide_eq_false_iff_not, Bool.or_eq_false_iff] at hm ⊢; have h1 := h.lt; refine ⟨⟨by omega, fun e => ?_⟩, trivial⟩
 obtain ⟨us, _, ho, _⟩ := h.grow.ex; have := (World.ownsRow.lt ho i e).2; omega
theorem push_slice {W w0 u : World} {S E A N : Nat} {l : List Tk} {kind num : Int} {text : ByteArray} {row : Value} {acc : List Nd} {T : Out Nd} {v : Value} (h : PushF W w0 S E A N l kind text num row acc T [v] u) {c : Array Value} (hc : v.cells = c) :
  PushF W w0 S E A N l kind text num row acc T [v, .slice (some ⟨u.heap.size, 0, none⟩) 1 1] (u.alloc (.cells c 66)) := by
 obtain ⟨x, l', hT, hB, hl, hx⟩ := h; have hE := (Chg.refl (fun _ => False) u).alloc (.cells c 66); refine ⟨x, l', hT, hB.extend hE, hl, ndAt_keeps (keeps_chg hE fun _ _ h => h.elim) _ _ hx, _, rfl, by rw [hc]; exact Blk.made _ _ _, fun e => ?_⟩
 obtain ⟨us, _, ho, _⟩ := hB.grow.ex; have := (World.ownsRow.lt ho _ e).2; omega
theorem push_append {W w0 u u' : World} {S E A N : Nat} {l : List Tk} {kind num : Int} {text : ByteArray} {row v s : Value} {acc : List Nd} {T : Out Nd} {us : List Value} (h : PushF W w0 S E A N l kind text num row acc T [v, s] u) (hus : us.length = acc.length)
  (hu3 : ∀ j (h : j < acc.length) (h' : j < us.length), VNd acc[j] us[j] (hide (rowHid (N + 1) row) u) ∧ us[j].cells.size = 4) {g c : Nat}
  (ho : u'.ownsRow (N + 1) 66 4 (.slice (some ⟨g, 0, none⟩) (acc.length + 1) c) (acc.length + 1) (us.flatMap (fun u => u.cells.toList) ++ v.cells.toList))
  (hg : u.grownBy u' row.ownBlock) (ha : row.ownBlock = some g ∨ g = u.heap.size) :
  PushF W w0 S E A N l kind text num row acc T [v, s, .slice (some ⟨g, 0, none⟩) (acc.length + 1) c] u' := by
 obtain ⟨x, l', hT, hB, hl, hx, -⟩ := h; have h1 := hB.hS; have h2 := hB.hA; have h3 := hB.hAN; have h4 := hB.few
 have hrow : ∀ i, row.ownBlock = some i → N + 1 ≤ i := fun i e => by
  obtain ⟨us, _, ho, _⟩ := hB.grow.ex; exact (World.ownsRow.lt ho i e).1
 have hC : Chg (fun i => row.ownBlock = some i) u u' := ⟨hg.os, hg.tape, hg.output, hg.size, fun i hi hn => hg.block i hi (by first | exact hn | exact fun e => hn e.symm)⟩; have hn : N < u.heap.size := hB.lt; refine ⟨x, l', hT, ⟨hB.pr.chg hC (fun e => by have := hrow _ e; omega) (fun i e => by have := hrow _ e; have := hB.pr.hS; omega), hB.chg.trans hC (fun i hi e => by have := hrow _ e; omega), hB.res.chg hC (fun e => by have := hrow _ e; omega), hB.nd.chg hC (fun e => by have := hrow _ e; omega), ?_, h1, h2, h3, by rw [List.length_append, List.length_singleton]; omega⟩, g, c, rfl⟩
 exact Grow.push vnd_keeps hus hu3 hx (nd_size hx) ho hg.size (fun i hi hne => hC.block i hi hne) (fun i e => by
  have : g = i := by simpa [Value.ownBlock] using e
  subst this; rcases ha with ha | ha
  ·exact .inl ha
  ·exact .inr (by omega))
theorem push_store {W w0 u : World} {S E A N : Nat} {l : List Tk} {kind num : Int} {text : ByteArray} {row v s r z : Value} {acc : List Nd} {T : Out Nd} (h : PushF W w0 S E A N l kind text num row acc T [v, s, r] u) : PushF W w0 S E A N l kind text num row acc T [v, s, r, z] (u.setCell ⟨N, 3, none⟩ r) := by
 obtain ⟨x, l', hT, hB, -⟩ := h; have h1 := hB.hS; have h2 := hB.hA; have h3 := hB.hAN
 have hWS := hB.pr.hS; have hC : Chg (fun i => i = N) u (u.setCell ⟨N, 3, none⟩ r) := chg_set (Chg.refl _ _) 3 r; refine ⟨x, l', hT, hB.pr.chg hC (by omega) (fun i e => by omega), hB.chg.setNew (p := ⟨N, 3, none⟩) (by show w0.heap.size ≤ N; omega) _, hB.res.setOther (p := ⟨N, 3, none⟩) (by show A ≠ N; omega) _, ?_, hB.grow.chg vnd_keeps hC (fun i e => by omega), h1, h2, h3, hB.few⟩
 have := hB.nd.set 3 r; exact this
theorem Bld.ret {W w0 u : World} {S E A N : Nat} {l : List Tk} {kind num : Int} {text : ByteArray} {row : Value} {acc : List Nd} {T : Out Nd} (h : Bld W w0 u S E A N l kind text num row row acc) (ht : text.size ≤ 10000) (hT : T = .got (.mk kind text num acc) l) (a b c d : Value) :
  Pst (VN w0.heap.size) W w0 S E T (.returned (.agg #[.int .i64 kind, .string text, .int .i64 num, row])) ((((u.setCell ⟨A, 0, none⟩ a).setCell ⟨A, 1, none⟩ b).setCell ⟨A, 2, none⟩ c).setCell ⟨A, 3, none⟩ d) := by
 have h1 := h.hS; have h2 := h.hA; have h3 := h.hAN
 have hWS := h.pr.hS; have hC : Chg (fun i => i = A) u ((((u.setCell ⟨A, 0, none⟩ a).setCell ⟨A, 1, none⟩ b).setCell ⟨A, 2, none⟩ c).setCell ⟨A, 3, none⟩ d) := chg_set (chg_set (chg_set (chg_set (Chg.refl _ _) 0 a) 1 b) 2 c) 3 d; refine Pst.reads (h.chg.trans hC fun i hi e => by omega) hT ?_ (h.pr.chg hC (by omega) (fun i e => by omega))
 exact ndAt_low (ndAt_chg (ndAt_grow h.grow ht) hC (fun i e => by omega)) (by omega)
def argsOf (S : Nat) : NT → Option (FuncId × Array Value)
 | .expr => some (323, #[.pointer (some ⟨S, 0, none⟩)])
 | .bound k => some (353, #[.pointer (some ⟨S, 0, none⟩), .int .i64 (k : Nat)])
 | .unary => some (363, #[.pointer (some ⟨S, 0, none⟩)])
 | .asked => some (326, #[.pointer (some ⟨S, 0, none⟩)])
 | .place s => some (327, #[.pointer (some ⟨S, 0, none⟩), .string s])
 | .call s => some (324, #[.pointer (some ⟨S, 0, none⟩), .string s])
 | .block => some (255, #[.pointer (some ⟨S, 0, none⟩)])
 | .stat => some (289, #[.pointer (some ⟨S, 0, none⟩)])
 | .decl => some (152, #[.pointer (some ⟨S, 0, none⟩)])
 | .proc pub => some (223, #[.pointer (some ⟨S, 0, none⟩), .int .i64 pub])
 | .module => some (85, #[.pointer (some ⟨S, 0, none⟩)])
 | _ => none
def askOf : NT → Prop
 | .bound k => k ≤ 3
 | .place s => s.size ≤ 7000
 | .call s => s.size ≤ 7000
 | .proc pub => 0 ≤ pub ∧ pub ≤ 2
 | _ => True
def Good (n : Nat) : Prop := ∀ {W w : World} {S E : Nat} {l : List Tk} (X : NT) (f : FuncId) (a : Array Value), PrAt W w S E l → MaxVar W → argsOf S X = some (f, a) → askOf X → prs n X l ≠ .out → Calls Tryz.prog f a w (Pst (VN w.heap.size) W w S E (prs n X l))
end synw
end Go.Proofs.YtpcihajmcejliabGreatDoor
namespace Go.Proofs.YtpcihajmcejliabGreatDoor
open Go.RowKit
def NT.weak : NT → Nat
 | .loop _ _ => 0
 | .imports _ _ => 0
 | .decls _ _ => 0
 | .place _ => 0
 | _ => 1
namespace synm
theorem got_bind {α β : Type} {o : Out α} {f : α → List Tk → Out β} {x : β} {r : List Tk} (h : o.bind f = .got x r) : ∃ y l, o = .got y l ∧ f y l = .got x r := by
 cases o with
 | out => cases h
 | bad l => cases h
 | got y l => exact ⟨y, l, rfl, h⟩
theorem tail_lt {l : List Tk} {ws : List ByteArray} (h : isB l ws = true) : l.tail.length < l.length := by
 cases l with
 | nil => cases h
 | cons t r => simp
theorem need_lt {s : ByteArray} {l r : List Tk} {u : Unit} (h : pNeed s l = .got u r) : r.length < l.length := by
 unfold pNeed at h; split at h
 ·rename_i h1
  injection h with _ h2
  subst h2; exact tail_lt h1
 ·cases h
theorem name_lt {l r : List Tk} {s : ByteArray} (h : pName l = .got s r) : r.length < l.length := by
 cases l with
 | nil => cases h
 | cons t q =>
  simp only [pName] at h; split at h
  ·injection h with _ h2
   subst h2; simp
  ·cases h
theorem number_lt {l r : List Tk} {x : Nd} (h : pNumber l = .got x r) : r.length < l.length := by
 cases l with
 | nil => cases h
 | cons t q =>
  simp only [pNumber] at h; split at h
  ·injection h with _ h2
   subst h2; simp
  ·cases h
theorem whole_lt {l r : List Tk} {s : ByteArray} (h : pWhole l = .got s r) : r.length < l.length := by
 unfold pWhole at h; obtain ⟨y, q, h1, h2⟩ := got_bind h; have := name_lt h1; split at h2
 ·rename_i hb
  obtain ⟨z, q2, h3, h4⟩ := got_bind h2; have := name_lt h3; have := tail_lt hb; injection h4 with _ h5
  subst h5; omega
 ·injection h2 with _ h5
  subst h5; omega
theorem label_lt {l r : List Tk} {b : Int} (h : pLabel l = .got b r) : r.length < l.length := by
 unfold pLabel at h; split at h
 ·rename_i hb
  injection h with _ h5
  subst h5; exact tail_lt hb
 ·obtain ⟨z, q2, h3, h4⟩ := got_bind h
  have := need_lt h3; injection h4 with _ h5
  subst h5; omega
theorem semi_lt {l r : List Tk} {x y : Nd} (h : semi x l = .got y r) : r.length < l.length := by
 unfold semi at h; obtain ⟨z, q2, h3, h4⟩ := got_bind h; have := need_lt h3; injection h4 with _ h5
 subst h5; omega
theorem got_len {x y : Nd} {l r : List Tk} (h : Out.got x l = Out.got y r) : r.length = l.length := by injection h with _ h; rw [h]
theorem head_lt {l : List Tk} (h : kindOf l = 3) : l.tail.length < l.length := by
 cases l with
 | nil => simp [kindOf] at h
 | cons t r => simp
theorem prs_lt : ∀ (n : Nat) (X : NT) (l : List Tk) (x : Nd) (r : List Tk), prs n X l = .got x r → r.length + X.weak ≤ l.length := by
 intro n; induction n with
 | zero => intro X l x r h; cases X <;> cases h
 | succ n ih =>
  intro X l x r h; cases X with
  | expr =>
   simp only [prs] at h; have := ih _ _ _ _ h; exact this
  | bound k =>
   simp only [prs] at h; split at h
   ·have := ih _ _ _ _ h
    exact this
   ·obtain ⟨y, q, h1, h2⟩ := got_bind h
    have a := ih _ _ _ _ h1; have b := ih _ _ _ _ h2; simp only [NT.weak] at a b ⊢; omega
  | loop k z =>
   simp only [prs] at h; split at h
   ·rename_i hk
    have := head_lt hk.1; obtain ⟨y, q, h1, h2⟩ := got_bind h; have a := ih _ _ _ _ h1; split at h2
    ·have b := got_len h2
     simp only [NT.weak] at a ⊢; omega
    ·have b := ih _ _ _ _ h2
     simp only [NT.weak] at a b ⊢; omega
   ·have b := got_len h
    simp only [NT.weak]; omega
  | unary =>
   simp only [prs] at h; simp only [NT.weak]; split at h
   ·rename_i hb
    have := tail_lt hb; obtain ⟨y, q, h1, h2⟩ := got_bind h; have a := ih _ _ _ _ h1; have b := got_len h2; simp only [NT.weak] at a; omega
   ·split at h
    ·rename_i hb
     have := tail_lt hb; obtain ⟨y, q, h1, h2⟩ := got_bind h; have a := ih _ _ _ _ h1; have b := got_len h2; simp only [NT.weak] at a; omega
    ·split at h
     ·have a := ih _ _ _ _ h
      exact a
     ·split at h
      ·have := number_lt h; omega
      ·obtain ⟨y, q, h1, h2⟩ := got_bind h
       have := whole_lt h1; split at h2
       ·have b := ih _ _ _ _ h2
        simp only [NT.weak] at b; omega
       ·have b := ih _ _ _ _ h2
        simp only [NT.weak] at b; omega
  | asked =>
   simp only [prs] at h; simp only [NT.weak]; obtain ⟨y, q, h1, h2⟩ := got_bind h; have := need_lt h1; obtain ⟨y2, q2, h3, h4⟩ := got_bind h2; have a := ih _ _ _ _ h3; obtain ⟨y3, q3, h5, h6⟩ := got_bind h4; have := need_lt h5; have := got_len h6; omega
  | place s =>
   simp only [prs] at h; simp only [NT.weak]; split at h
   ·rename_i hb
    have := tail_lt hb; obtain ⟨y2, q2, h3, h4⟩ := got_bind h; have a := ih _ _ _ _ h3; obtain ⟨y3, q3, h5, h6⟩ := got_bind h4; have := need_lt h5; have := got_len h6; omega
   ·have := got_len h
    omega
  | call s =>
   simp only [prs] at h; simp only [NT.weak]; obtain ⟨y, q, h1, h2⟩ := got_bind h; have := need_lt h1; have a := ih _ _ _ _ h2; omega
  | args s acc =>
   simp only [prs] at h; simp only [NT.weak]; split at h
   ·obtain ⟨y3, q3, h5, h6⟩ := got_bind h
    have := need_lt h5; have := got_len h6; omega
   ·obtain ⟨y, q, h1, h2⟩ := got_bind h
    have a := ih _ _ _ _ h1; split at h2
    ·rename_i hb
     have := tail_lt hb; have b := ih _ _ _ _ h2; simp only [NT.weak] at a b; omega
    ·obtain ⟨y3, q3, h5, h6⟩ := got_bind h2
     have := need_lt h5; have := got_len h6; simp only [NT.weak] at a; omega
  | block =>
   simp only [prs] at h; simp only [NT.weak]; obtain ⟨y, q, h1, h2⟩ := got_bind h; have := need_lt h1; have a := ih _ _ _ _ h2; omega
  | stats acc =>
   simp only [prs] at h; simp only [NT.weak]; split at h
   ·rename_i hb
    have := tail_lt hb; have := got_len h; omega
   ·obtain ⟨y, q, h1, h2⟩ := got_bind h
    have a := ih _ _ _ _ h1; have b := ih _ _ _ _ h2; simp only [NT.weak] at a b; omega
  | stat =>
   simp only [prs] at h; simp only [NT.weak]; split at h
   ·obtain ⟨y1, q1, h1, h2⟩ := got_bind h
    have := label_lt h1; obtain ⟨y3, q3, h3, h4⟩ := got_bind h2; have := name_lt h3; obtain ⟨y5, q5, h5, h6⟩ := got_bind h4; have := need_lt h5; obtain ⟨y7, q7, h7, h8⟩ := got_bind h6; have a := ih _ _ _ _ h7; have := semi_lt h8; omega
   split at h
   ·rename_i hb
    have := tail_lt hb; obtain ⟨y1, q1, h1, h2⟩ := got_bind h; have := whole_lt h1; obtain ⟨y7, q7, h7, h8⟩ := got_bind h2; have a := ih _ _ _ _ h7; have := semi_lt h8; omega
   split at h
   ·rename_i hb
    have := tail_lt hb; obtain ⟨y1, q1, h1, h2⟩ := got_bind h; have a := ih _ _ _ _ h1; obtain ⟨y3, q3, h3, h4⟩ := got_bind h2; have b := ih _ _ _ _ h3; split at h4
    ·rename_i hb
     have := tail_lt hb; obtain ⟨y5, q5, h5, h6⟩ := got_bind h4; have c := ih _ _ _ _ h5; have := got_len h6; omega
    ·have := got_len h4
     omega
   split at h
   ·rename_i hb
    have := tail_lt hb; obtain ⟨y1, q1, h1, h2⟩ := got_bind h; have a := ih _ _ _ _ h1; obtain ⟨y3, q3, h3, h4⟩ := got_bind h2; have b := ih _ _ _ _ h3; have := got_len h4; omega
   split at h
   ·rename_i hb
    have := tail_lt hb; obtain ⟨y1, q1, h1, h2⟩ := got_bind h; have := label_lt h1; obtain ⟨y7, q7, h7, h8⟩ := got_bind h2; have a := ih _ _ _ _ h7; have := semi_lt h8; omega
   split at h
   ·rename_i hb
    have := tail_lt hb; obtain ⟨y1, q1, h1, h2⟩ := got_bind h; have := label_lt h1; obtain ⟨y3, q3, h3, h4⟩ := got_bind h2; have := whole_lt h3; obtain ⟨y7, q7, h7, h8⟩ := got_bind h4; have a := ih _ _ _ _ h7; have := semi_lt h8; omega
   split at h
   ·rename_i hb
    have := tail_lt hb; obtain ⟨y7, q7, h7, h8⟩ := got_bind h; have a := ih _ _ _ _ h7; have := semi_lt h8; omega
   ·obtain ⟨y1, q1, h1, h2⟩ := got_bind h
    have := whole_lt h1; obtain ⟨y3, q3, h3, h4⟩ := got_bind h2; have a := ih _ _ _ _ h3; obtain ⟨y5, q5, h5, h6⟩ := got_bind h4; have := need_lt h5; obtain ⟨y7, q7, h7, h8⟩ := got_bind h6; have b := ih _ _ _ _ h7; have := semi_lt h8; omega
  | decl =>
   simp only [prs] at h; simp only [NT.weak]
   obtain ⟨l2, hl2, hle⟩ : ∃ l2, (if isB l [sPub] = true then l.tail else l) = l2 ∧ l2.length ≤ l.length := by
    refine ⟨_, rfl, ?_⟩
    split
    ·rename_i hb; have := tail_lt hb; omega
    ·exact Nat.le_refl _
   rw [hl2] at h; split at h
   ·rename_i hb
    have := tail_lt hb; have a := ih _ _ _ _ h; simp only [NT.weak] at a; omega
   ·obtain ⟨y1, q1, h1, h2⟩ := got_bind h
    have := label_lt h1; obtain ⟨y3, q3, h3, h4⟩ := got_bind h2; have := name_lt h3; split at h4
    ·rename_i hb
     have := tail_lt hb; obtain ⟨y5, q5, h5, h6⟩ := got_bind h4; have := number_lt h5; obtain ⟨y7, q7, h7, h8⟩ := got_bind h6; have := need_lt h7; have := semi_lt h8; omega
    ·have := semi_lt h4
     omega
  | proc pub =>
   simp only [prs] at h; simp only [NT.weak]; obtain ⟨y1, q1, h1, h2⟩ := got_bind h; have := name_lt h1; obtain ⟨y3, q3, h3, h4⟩ := got_bind h2; have := need_lt h3; have a := ih _ _ _ _ h4; omega
  | params s pub acc =>
   simp only [NT.weak]
   have done : ∀ (acc : List Nd) (l : List Tk), ((pNeed sClose l).bind fun _ l => (pLabel l).bind fun b l =>
     if isB l [sGives] = true then (pLabel l.tail).bind fun g l => (prs n .block l).bind fun x l => .got (.mk 4 s (pub + b + (4 + 4 * g)) (acc ++ [x])) l
     else (prs n .block l).bind fun x l => .got (.mk 4 s (pub + b) (acc ++ [x])) l) = .got x r → r.length + 1 ≤ l.length := by
    intro acc l h; obtain ⟨y1, q1, h1, h2⟩ := got_bind h; have := need_lt h1; obtain ⟨y3, q3, h3, h4⟩ := got_bind h2; have := label_lt h3; split at h4
    ·rename_i hb
     have := tail_lt hb; obtain ⟨y5, q5, h5, h6⟩ := got_bind h4; have := label_lt h5; obtain ⟨y7, q7, h7, h8⟩ := got_bind h6; have a := ih _ _ _ _ h7; have := got_len h8; omega
    ·obtain ⟨y7, q7, h7, h8⟩ := got_bind h4
     have a := ih _ _ _ _ h7; have := got_len h8; omega
   simp only [prs] at h; split at h
   ·exact done _ _ h
   ·obtain ⟨y1, q1, h1, h2⟩ := got_bind h
    have := label_lt h1; obtain ⟨y3, q3, h3, h4⟩ := got_bind h2; have := name_lt h3; split at h4
    ·rename_i hb
     have := tail_lt hb; have a := ih _ _ _ _ h4; simp only [NT.weak] at a; omega
    ·have := done _ _ h4
     omega
  | module =>
   simp only [prs] at h; simp only [NT.weak]; obtain ⟨y1, q1, h1, h2⟩ := got_bind h; have := need_lt h1; obtain ⟨y3, q3, h3, h4⟩ := got_bind h2; have := name_lt h3; obtain ⟨y5, q5, h5, h6⟩ := got_bind h4; have := need_lt h5; have a := ih _ _ _ _ h6; simp only [NT.weak] at a; omega
  | imports s acc =>
   simp only [prs] at h; simp only [NT.weak]; split at h
   ·rename_i hb
    have := tail_lt hb; obtain ⟨y3, q3, h3, h4⟩ := got_bind h; have := name_lt h3; obtain ⟨y5, q5, h5, h6⟩ := got_bind h4; have := need_lt h5; have a := ih _ _ _ _ h6; simp only [NT.weak] at a; omega
   ·have a := ih _ _ _ _ h
    simp only [NT.weak] at a; omega
  | decls s acc =>
   simp only [prs] at h; simp only [NT.weak]; split at h
   ·have := got_len h; omega
   ·obtain ⟨y1, q1, h1, h2⟩ := got_bind h
    have a := ih _ _ _ _ h1; have b := ih _ _ _ _ h2; simp only [NT.weak] at a b; omega
end synm
end Go.Proofs.YtpcihajmcejliabGreatDoor
namespace Go.Proofs.YtpcihajmcejliabGreatDoor
open Go.RowKit
namespace synw
structure At (W w0 u : World) (S E A : Nat) (l : List Tk) : Prop where
 pr : PrAt W u S E l
 chg : Chg (fun i => i = S) w0 u
 res : Blk u A zeroNd 66
 hS : S < w0.heap.size
 hA : w0.heap.size ≤ A
theorem At.start {W w : World} {S E : Nat} {l : List Tk} (h : PrAt W w S E l) : At W w (w.alloc (.cells zeroNd 66)) S E w.heap.size l :=
 ⟨h.alloc _, (Chg.refl _ _).alloc _, Blk.made _ _ _, h.lt, Nat.le_refl _⟩
theorem At.call {W w0 u u' : World} {S E A : Nat} {l l' : List Tk} (h : At W w0 u S E A l) (hC : Chg (fun i => i = S) u u') (hP : PrAt W u' S E l') : At W w0 u' S E A l' := by
 have h1 := h.hS; have h2 := h.hA
 exact ⟨hP, h.chg.then hC, h.res.chg hC (by omega), h1, h2⟩
theorem At.extend {W w0 u u' : World} {S E A : Nat} {l : List Tk} (h : At W w0 u S E A l) (hE : Ext u u') : At W w0 u' S E A l := h.call (ext_at hE S) (h.pr.extend hE)
theorem At.alloc {W w0 u : World} {S E A : Nat} {l : List Tk} (h : At W w0 u S E A l) (o : Obj) : At W w0 (u.alloc o) S E A l := h.extend ((Chg.refl _ _).alloc o)
theorem At.far {W w0 u u' : World} {S E A N : Nat} {l : List Tk} (h : At W w0 u S E A l) (hC : Chg (fun i => i = N) u u') (hN : A < N) : At W w0 u' S E A l := by
 have h1 := h.hS; have h2 := h.hA; have h3 := h.pr.hS
 exact ⟨h.pr.chg hC (by omega) (fun i e => by omega), h.chg.trans hC (fun i hi e => by omega), h.res.chg hC (by omega), h1, h2⟩
theorem At.lt {W w0 u : World} {S E A : Nat} {l : List Tk} (h : At W w0 u S E A l) : A < u.heap.size := h.res.lt
theorem At.bld {W w0 u : World} {S E A : Nat} {l : List Tk} (h : At W w0 u S E A l) {N : Nat} {kind num : Int} {text : ByteArray} (hN : Blk u N #[.int .i64 kind, .string text, .int .i64 num, .slice none 0 0] 66) (hAN : A < N) :
  Bld W w0 u S E A N l kind text num (.slice none 0 0) (.slice none 0 0) [] := Bld.start h.pr h.chg h.res hN h.hS h.hA hAN (pr_len h.pr)
theorem Bld.slice3 {W w0 u : World} {S E A N : Nat} {l : List Tk} {kind num : Int} {text : ByteArray} {rowN row : Value} {acc : List Nd} (h : Bld W w0 u S E A N l kind text num rowN row acc) : ∃ a n c, row = .slice a n c := by
 obtain ⟨a, c, h⟩ := h.slice; exact ⟨a, _, c, h⟩
theorem Bld.at {W w0 u : World} {S E A N : Nat} {l : List Tk} {kind num : Int} {text : ByteArray} {rowN row : Value} {acc : List Nd} (h : Bld W w0 u S E A N l kind text num rowN row acc) : At W w0 u S E A l := ⟨h.pr, h.chg, h.res, h.hS, h.hA⟩
theorem nd_form {w : World} {x : Nd} {v : Value} (h : NdAt w x v) : ∃ k t m a n c, v = .agg #[.int .i64 k, .string t, .int .i64 m, .slice a n c] := by
 cases x with
 | mk k t m l =>
  rw [ndAt_mk] at h; obtain ⟨a, c, rfl, -⟩ := h; exact ⟨_, _, _, _, _, _, rfl⟩
theorem ret_value {W w0 u : World} {S E A : Nat} {l : List Tk} {T : Out Nd} {x : Nd} {a b c d : Value} (h : At W w0 u S E A l) (M : Nat → Bool) (hx : NdAt (hide M u) x (.agg #[a, b, c, d])) (hMA : M A = true) (hM0 : ∀ i, i < w0.heap.size → M i = true) (hT : T = .got x l) :
  Pst (VN w0.heap.size) W w0 S E T (.returned (.agg #[a, b, c, d])) ((((u.setCell ⟨A, 0, none⟩ a).setCell ⟨A, 1, none⟩ b).setCell ⟨A, 2, none⟩ c).setCell ⟨A, 3, none⟩ d) := by
 have h1 := h.hS; have h2 := h.hA; have hWS := h.pr.hS
 have hC : Chg (fun i => i = A) u ((((u.setCell ⟨A, 0, none⟩ a).setCell ⟨A, 1, none⟩ b).setCell ⟨A, 2, none⟩ c).setCell ⟨A, 3, none⟩ d) := chg_set (chg_set (chg_set (chg_set (Chg.refl _ _) 0 a) 1 b) 2 c) 3 d; refine Pst.reads (h.chg.trans hC fun i hi e => by omega) hT ?_ (h.pr.chg hC (by omega) (fun i e => by omega))
 refine ndAt_keeps (keeps_hide (Nat.le_refl _) fun i hi hm => ⟨?_, rfl⟩) _ _ (ndAt_keeps (keeps_chg hC fun i _ e => by rw [e]; exact hMA) _ _ hx)
 simp only [below, decide_eq_false_iff_not]; intro hlt; rw [hM0 i hlt] at hm; cases hm
def hidB (B N : Nat) : Nat → Bool := fun i => decide (i < B) || decide (i = N)
theorem below_yes {i B : Nat} (h : i < B) : below B i = true := by simpa [below] using h
theorem hidB_yes {i B N : Nat} (h : i < B) : hidB B N i = true := by simp [hidB, h]
structure Loc (S B N : Nat) (u : World) (x : Nd) (v : Value) : Prop where
 nd : Blk u N v.cells 66
 dat : NdAt (hide (hidB B N) u) x v
 hSB : S < B
 hSN : S ≠ N
theorem Loc.call {S B N : Nat} {u u' : World} {x : Nd} {v : Value} (h : Loc S B N u x v) (hC : Chg (fun i => i = S) u u') : Loc S B N u' x v :=
 ⟨h.nd.chg hC fun e => h.hSN e.symm, ndAt_keeps (keeps_chg hC fun i _ e => by rw [e]; exact hidB_yes h.hSB) _ _ h.dat, h.hSB, h.hSN⟩
theorem Loc.extend {S B N : Nat} {u u' : World} {x : Nd} {v : Value} (h : Loc S B N u x v) (hE : Ext u u') : Loc S B N u' x v := h.call (ext_at hE S)
theorem Loc.start {S B : Nat} {u : World} {x : Nd} {v : Value} (h : VN B x v u) (hSB : S < B) (hB : B ≤ u.heap.size) {c : Array Value} (hc : v.cells = c) : Loc S B u.heap.size (u.alloc (.cells c 66)) x v := by
 subst hc; refine ⟨Blk.made _ _ _, ndAt_keeps (keeps_hide (by simp) fun i hi hm => ?_) _ _ h, hSB, by omega⟩
 simp only [below, hidB, decide_eq_false_iff_not, Bool.or_eq_false_iff] at hm ⊢; exact ⟨⟨hm, by omega⟩, Below.heap_alloc _ _ _ hi⟩
theorem nd_row1 {u : World} {M : Nat → Bool} {x : Nd} {v : Value} (hx : NdAt (hide M u) x v) (hM : M u.heap.size = false) (k m : Int) (t : ByteArray) (ht : t.size ≤ 10000) {c : Array Value} (hc : v.cells = c) :
  NdAt (hide M (u.alloc (.cells c 66))) (.mk k t m [x]) (.agg #[.int .i64 k, .string t, .int .i64 m, .slice (some ⟨u.heap.size, 0, none⟩) 1 1]) := by
 subst hc; have hE := (Chg.refl (fun _ => False) u).alloc (.cells v.cells 66); rw [ndAt_mk]; refine ⟨_, 1, rfl, by simp, by decide, ht, fun j hj => ⟨_, _, rfl, by rw [hide_size]; simp, v, ?_, nd_size hx, fun i hi => ?_⟩⟩
 ·obtain rfl : j = 0 := by simpa using hj
  exact ndAt_keeps (keeps_chg hE fun _ _ h => h.elim) _ _ hx
 ·obtain rfl : j = 0 := by simpa using hj
  rw [hide_cell _ _ _ hM, Nat.zero_mul, Nat.zero_add]; exact (Blk.made u v.cells 66).cell i
theorem nd_row2 {u : World} {M : Nat → Bool} {x y : Nd} {v z : Value} (hx : NdAt (hide M u) x v) (hy : NdAt (hide M u) y z) (hM : M u.heap.size = false) (k m : Int) (t : ByteArray) (ht : t.size ≤ 10000) {c : Array Value} (hc : v.cells ++ z.cells = c) :
  NdAt (hide M (u.alloc (.cells c 66))) (.mk k t m [x, y]) (.agg #[.int .i64 k, .string t, .int .i64 m, .slice (some ⟨u.heap.size, 0, none⟩) 2 2]) := by
 subst hc; have hE := (Chg.refl (fun _ => False) u).alloc (.cells (v.cells ++ z.cells) 66); have h1 := nd_size hx; have h2 := nd_size hy; rw [ndAt_mk]; refine ⟨_, 2, rfl, by simp, by decide, ht, fun j hj => ⟨_, _, rfl, by rw [hide_size]; simp, ?_⟩⟩
 have hj2 : j < 2 := by simpa using hj
 by_cases e : j = 0
 ·subst e
  refine ⟨v, ndAt_keeps (keeps_chg hE fun _ _ h => h.elim) _ _ hx, h1, fun i hi => ?_⟩
  rw [hide_cell _ _ _ hM, Nat.zero_mul, Nat.zero_add, (Blk.made u _ 66).cell i, Array.getElem?_append_left (by omega)]
 ·obtain rfl : j = 1 := by omega
  refine ⟨z, ndAt_keeps (keeps_chg hE fun _ _ h => h.elim) _ _ hy, h2, fun i hi => ?_⟩
  rw [hide_cell _ _ _ hM, Nat.zero_add, Nat.one_mul, (Blk.made u _ 66).cell (4 + i), Array.getElem?_append_right (by omega), h1]; congr 1; omega
theorem grow_one {u : World} {B N : Nat} {x : Nd} {v : Value} (hx : VN B x v u) (hN : N + 1 ≤ B) (hB : B ≤ u.heap.size) {c : Array Value} (hc : v.cells = c) : Grow 4 66 VNd (N + 1) (u.alloc (.cells c 66)) (.slice (some ⟨u.heap.size, 0, none⟩) 1 1) [x] := by
 subst hc; have hs := nd_size hx; refine ⟨[v], rfl, ⟨by simp [hs], .inr ⟨u.heap.size, 1, v.cells, rfl, by omega, heap_alloc_new u _, Nat.le_refl _, by decide, by rw [hs], by simp only [List.length_singleton, Nat.one_mul, List.flatMap_cons, List.flatMap_nil, List.append_nil]; exact List.take_of_length_le (by rw [Array.length_toList, hs]; exact Nat.le_refl _)⟩⟩, fun j hj hj' => ?_⟩
 obtain rfl : j = 0 := by simpa using hj
 refine ⟨ndAt_keeps (keeps_hide (by simp) fun i hi hm => ?_) _ _ hx, hs⟩
 simp only [below, rowHid, decide_eq_false_iff_not, Bool.or_eq_false_iff] at hm ⊢; refine ⟨⟨by omega, fun e => ?_⟩, Below.heap_alloc _ _ _ hi⟩
 simp only [Value.ownBlock, Option.some.injEq] at e; omega
theorem Bld.put {W w0 u : World} {S E A N : Nat} {l : List Tk} {k0 m0 kind num : Int} {t0 text : ByteArray} {r0 r1 row : Value} {acc0 acc : List Nd} (h : Bld W w0 u S E A N l k0 t0 m0 r0 r1 acc0) (hg : Grow 4 66 VNd (N + 1) u row acc) (hf : acc.length + l.length ≤ 10000) :
  Bld W w0 ((((u.setCell ⟨N, 0, none⟩ (.int .i64 kind)).setCell ⟨N, 1, none⟩ (.string text)).setCell ⟨N, 2, none⟩ (.int .i64 num)).setCell ⟨N, 3, none⟩ row) S E A N l kind text num row row acc := by
 have h1 := h.hS; have h2 := h.hA; have h3 := h.hAN
 have hWS := h.pr.hS; have hC : Chg (fun i => i = N) u ((((u.setCell ⟨N, 0, none⟩ (.int .i64 kind)).setCell ⟨N, 1, none⟩ (.string text)).setCell ⟨N, 2, none⟩ (.int .i64 num)).setCell ⟨N, 3, none⟩ row) := chg_set (chg_set (chg_set (chg_set (Chg.refl _ _) 0 _) 1 _) 2 _) 3 _; refine ⟨h.pr.chg hC (by omega) (fun i e => by omega), h.chg.trans hC (fun i hi e => by omega), h.res.chg hC (by omega), ?_, hg.chg vnd_keeps hC (fun i e => by omega), h1, h2, h3, hf⟩
 have := (((h.nd.set 0 (.int .i64 kind)).set 1 (.string text)).set 2 (.int .i64 num)).set 3 row; exact this
end synw
end Go.Proofs.YtpcihajmcejliabGreatDoor
namespace Go.Proofs.YtpcihajmcejliabGreatDoor
open Go.RowKit
def stO {α : Type} (b : Bool) (l : List Tk) (o : Out α) : Out α := if b = true then .bad l else o
def Rel {α : Type} (T : Out α) (y : α) (l2 : List Tk) (b2 : Bool) : Prop := match T with
 | .out => True
 | .bad l => l2 = l ∧ b2 = true
 | .got x l => y = x ∧ l2 = l ∧ b2 = false
def Tag (W : World) (a : Option Addr) (n : Nat) : Prop := ∃ p, W.drawn = 20000 * p + n ∧ ∀ b o, a = some ⟨b, o, none⟩ → b = p ∧ o = 0
structure RdrAt (W w : World) (S : Nat) (l : List Tk) (b : Bool) : Prop where
 ex : ∃ a n c k, Blk w S #[.slice a n c, .int .i64 (k : Nat), .bool b] 160 ∧ k + l.length = n ∧ (n ≤ 10000 ∧ Tag W a n) ∧ TksIn W a k l
 ext : Ext W w
 hS : W.heap.size ≤ S
theorem RdrAt.chg {W w w' : World} {S : Nat} {l : List Tk} {b : Bool} (h : RdrAt W w S l b) {M : Nat → Prop} (hE : Chg M w w') (hn : ¬ M S) (hM : ∀ i, M i → W.heap.size ≤ i) : RdrAt W w' S l b := by
 obtain ⟨a, n, c, k, hb, h1, h2, h3⟩ := h.ex; exact ⟨⟨a, n, c, k, hb.chg hE hn, h1, h2, h3⟩, h.ext.trans hE (fun i hi hm => by have := hM i hm; omega), h.hS⟩
theorem RdrAt.extend {W w w' : World} {S : Nat} {l : List Tk} {b : Bool} (h : RdrAt W w S l b) (hE : Ext w w') : RdrAt W w' S l b := h.chg hE id fun _ h => h.elim
theorem RdrAt.lt {W w : World} {S : Nat} {l : List Tk} {b : Bool} (h : RdrAt W w S l b) : S < w.heap.size := by obtain ⟨a, n, c, k, hb, -⟩ := h.ex; exact hb.lt
theorem RdrAt.len {W w : World} {S : Nat} {l : List Tk} {b : Bool} (h : RdrAt W w S l b) : l.length ≤ 10000 := by obtain ⟨a, n, c, k, hb, h1, h2, -⟩ := h.ex; omega
namespace synr
open synw
theorem now_bind {α β : Type} {b b2 : Bool} {l l2 : List Tk} {p : Out α} {f : α → List Tk → Out β} {T : Out β} {y : α} (h : stO b l (p.bind f) = T) (hT : T ≠ .out) (hr : Rel (stO b l p) y l2 b2) : stO b2 l2 (f y l2) = T := by
 cases b with
 | true =>
  obtain ⟨rfl, rfl⟩ := hr; exact h
 | false =>
  cases p with
  | out => exact absurd h.symm hT
  | bad q => obtain ⟨rfl, rfl⟩ := hr; exact h
  | got x q => obtain ⟨rfl, rfl, rfl⟩ := hr; exact h
theorem now_ne {α β : Type} {b : Bool} {l : List Tk} {p : Out α} {f : α → List Tk → Out β} {T : Out β} (h : stO b l (p.bind f) = T) (hT : T ≠ .out) : stO b l p ≠ .out := by
 cases b with
 | true => intro e; cases e
 | false =>
  intro e; have e2 : p = .out := e; subst e2; exact hT h.symm
theorem st_ne {α : Type} {b : Bool} {l : List Tk} {p : Out α} (h : p ≠ .out) : stO b l p ≠ .out := by
 cases b with
 | true => intro e; cases e
 | false => exact h
theorem now_eat {α : Type} {b : Bool} {l : List Tk} {s : ByteArray} {p q : Out α} {T : Out α} (h : stO b l (if isB l [s] = true then p else q) = T) (he : (!b && isB l [s]) = true) : b = false ∧ isB l [s] = true ∧ p = T := by
 simp only [Bool.and_eq_true, Bool.not_eq_true'] at he; obtain ⟨rfl, h2⟩ := he; refine ⟨rfl, h2, ?_⟩
 have h3 : (if isB l [s] = true then p else q) = T := h; rw [if_pos h2] at h3; exact h3
theorem now_not {α : Type} {b : Bool} {l : List Tk} {s : ByteArray} {p q : Out α} {T : Out α} (h : stO b l (if isB l [s] = true then p else q) = T) (he : (!b && isB l [s]) = false) : stO b l q = T := by
 cases b with
 | true => exact h
 | false =>
  have h2 : isB l [s] = false := by simpa using he
  have h3 : (if isB l [s] = true then p else q) = T := h; rw [h2] at h3; exact h3
def Rst {α : Type} (V : α → Value → World → Prop) (W w : World) (S : Nat) (T : Out α) (e : Ending) (w' : World) : Prop :=
 Chg (fun i => i = S) w w' ∧ ∃ y v l2 b2, e = .returned v ∧ V y v w' ∧ RdrAt W w' S l2 b2 ∧ Rel T y l2 b2
theorem Rst.mk {α : Type} {V : α → Value → World → Prop} {W w : World} {S : Nat} {T : Out α} {w' : World} {y : α} {v : Value} {l2 : List Tk} {b2 : Bool} (hC : Chg (fun i => i = S) w w') (hV : V y v w') (hR : RdrAt W w' S l2 b2) (h : stO b2 l2 (.got y l2) = T) : Rst V W w S T (.returned v) w' := by
 refine ⟨hC, y, v, l2, b2, rfl, hV, hR, ?_⟩
 subst h; cases b2 with
 | true => exact ⟨rfl, rfl⟩
 | false => exact ⟨rfl, rfl, rfl⟩
def textN : List Tk → ByteArray
 | [] => ⟨#[]⟩
 | t :: _ => if t.kind = 2 then ⟨#[]⟩ else t.text
theorem rdr_ok {W w : World} {S : Nat} {t : Tk} {r : List Tk} {b : Bool} (h : RdrAt W w S (t :: r) b) : TkOk t := by
 obtain ⟨a, n, c, k, hb, h1, h2, h3⟩ := h.ex; obtain ⟨q, o, -, -, ht⟩ := h3 0 (by simp); exact ht.ok
theorem rdr_step {W w : World} {S : Nat} {t : Tk} {r : List Tk} {b : Bool} (h : RdrAt W w S (t :: r) b) : ∃ k : Nat, w.cell? ⟨S, 1, none⟩ = some (.int .i64 k) ∧ k < 10000 ∧ RdrAt W (w.setCell ⟨S, 1, none⟩ (.int .i64 ((k : Int) + 1))) S r b := by
 obtain ⟨a, n, c, k, hb, h1, h2, h3⟩ := h.ex; refine ⟨k, hb.cell 1, by simp at h1; omega, ⟨a, n, c, k + 1, ?_, by simp at h1; omega, h2, h3.tail⟩, h.ext.setNew h.hS _, h.hS⟩
 have := hb.set 1 (.int .i64 ((k : Int) + 1)); exact this
theorem rdr_fail {W w : World} {S : Nat} {l : List Tk} {b : Bool} (h : RdrAt W w S l b) : RdrAt W (w.setCell ⟨S, 2, none⟩ (.bool true)) S l true := by
 obtain ⟨a, n, c, k, hb, h1, h2, h3⟩ := h.ex; refine ⟨⟨a, n, c, k, ?_, h1, h2, h3⟩, h.ext.setNew h.hS _, h.hS⟩
 have := hb.set 2 (.bool true); exact this
theorem rdr_blk {W w : World} {S : Nat} {l : List Tk} {b : Bool} (h : RdrAt W w S l b) : ∃ a n c k, Blk w S #[.slice a n c, .int .i64 (k : Nat), .bool b] 160 ∧ k + l.length = n ∧ n ≤ 10000 := by
 obtain ⟨a, n, c, k, hb, h1, h2, h3⟩ := h.ex; exact ⟨a, n, c, k, hb, h1, h2.1⟩
set_option maxRecDepth 100000 in
set_option maxHeartbeats 4000000 in
theorem text_any {W w : World} {S : Nat} {l : List Tk} {b : Bool} (h : RdrAt W w S l b) :
  Calls Tryz.prog 158 #[.pointer (some ⟨S, 0, none⟩)] w fun e w' => e = .returned (.string (if b = true then ⟨#[]⟩ else textN l)) ∧ Ext w w' := by
 obtain ⟨a, n, c, k, hb, h1, h2, h3⟩ := h.ex; have hc0 := hb.cell 0; have hc1 := hb.cell 1; have hc2 := hb.cell 2; simp at hc0 hc1 hc2
 cases b with
 | true =>
  clear h3 h hb; simp only [↓reduceIte]; go_enter Tryz.func158, Tryz.ntmps158
  go_wp2_with fail
  go_quiet (fail)
  go_wp2_with fail
  go_ret
  exact ⟨rfl, (Chg.refl _ _).drewN _⟩
 | false =>
  simp only [Bool.false_eq_true, ↓reduceIte]; cases l with
  | nil =>
   simp only [List.length_nil, Nat.add_zero] at h1; subst h1; clear h3 h hb; have hge : ((k : Int) ≥ (k : Int)) := Int.le_refl _; go_enter Tryz.func158, Tryz.ntmps158
   go_wp2_with fail
   go_quiet (fail)
   go_wp2_with fail
   go_ret
   exact ⟨rfl, (Chg.refl _ _).drewN _⟩
  | cons t r =>
   obtain ⟨q, o, rfl, hbb, ht⟩ := h3 0 (by simp); obtain ⟨t0, t1, t2, -⟩ := ht; have e : ∀ i, w.cell? ⟨q, i, none⟩ = W.cell? ⟨q, i, none⟩ := fun i => h.ext.cell (by exact hbb) id
   have hbW := Nat.lt_of_lt_of_le hbb h.ext.size; rw [← e] at t0 t1 t2; simp only [Nat.add_zero, List.getElem_cons_zero] at t0 t1 t2; have hkn : (k : Int) < (n : Int) := by simp at h1; omega
   have hkn2 : ¬ ((n : Int) ≤ (k : Int)) := by omega
   have hkn3 : decide (n ≤ k) = false := by simp; omega
   clear h3 h hb e h1 hbb; obtain ⟨tk, tt, ta⟩ := t; simp only at t0 t1 t2; by_cases hk : tk = 2
   ·subst hk
    simp only [textN, ↓reduceIte]; clear t1 t2; go_enter Tryz.func158, Tryz.ntmps158
    go_wp2_with fail
    go_quiet (fail)
    go_wp2_with fail
    go_ret
    exact ⟨rfl, (Chg.refl _ _).drewN _⟩
   ·have hk2 : (tk == 2) = false := by simpa using hk
    simp only [textN, if_neg hk]; go_enter Tryz.func158, Tryz.ntmps158
    go_wp2_with fail
    go_quiet (fail)
    have t1' : (w.drewN nq).cell? ⟨q, o + k * 3 + 1, none⟩ = _ := t1; have hc0' : (w.drewN nq).cell? ⟨S, 0, none⟩ = _ := hc0; have hc1' : (w.drewN nq).cell? ⟨S, 1, none⟩ = _ := hc1; have HX := Z_ ((Chg.refl (fun _ => False) w).drewN nq); have hbq : q < (w.drewN nq).heap.size := hbW; generalize w.drewN nq = w2 at *; go_wp2_with fail
    go_quiet (fail)
    go_wp2_with fail
    go_ret
    exact ⟨rfl, HX.out.drewN _⟩
end synr
end Go.Proofs.YtpcihajmcejliabGreatDoor
