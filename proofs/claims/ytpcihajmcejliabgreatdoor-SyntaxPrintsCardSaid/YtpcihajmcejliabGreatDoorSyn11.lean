/- A region that draws its order, by what each of its operations comes to: whatever order is drawn, no order is walked. Every operation leaves what was there. The parser: a node that is being built, and a kid that is appended to it. The walk of syntax.weigh. Nodes of any texts as values; the walk of weigh over them. A node that comes in, opened: a tree of any depth. The reference's signs. How large and how deep a node is, in plain Lean. The reference's Many, Deep, Fits, of nodes of any texts. What a module's declarations are, in plain Lean: its face, its imports, the first fault. The walk of the program's parser: expressions. The walk of syntax.Parse. -/
import Derived.Deep.RegionHeld
import Derived.Deep.AppendLies
import Derived.Deep.LoopGhost
import Derived.Deep.Slices
import Derived.ChangeArms
import Derived.ChangeShapes
import Derived.WideShapes
import Derived.DataReads
import Derived.Deep.CutBlock
import Derived.Deep.DeepCutAuto
import Derived.WalkKit
import Derived.Defers
import Derived.Recover
import Derived.StillTactics
import Derived.Test.YtpcihajmcejliabGreatDoorLexTok
import Derived.Test.YtpcihajmcejliabGreatDoorName
namespace Go.Proofs.YtpcihajmcejliabGreatDoor
open Go.RowKit
inductive Comes where
 | val (v : Value)
 | row (cs : List Value) (n : Nat) (T : TypeId)
def Comes.holds : Comes → Value → World → Prop
 | .val v, u, _ => u = v
 | .row cs n T, u, w => ∃ g, u = .slice (some ⟨g, 0, none⟩) n n ∧ Blk w g cs.toArray T
theorem Comes.mono {c : Comes} {u : Value} {w w' : World} (h : c.holds u w) (hE : Ext w w') : c.holds u w' := by
 cases c with
 | val v => exact h
 | row cs n T => obtain ⟨g, e, hb⟩ := h; exact ⟨g, e, hb.ext hE⟩
namespace specs
def dstAt (ops : Array Oper) (i : Nat) : Nat := match ops[i]? with | some o => o.dst.getD 0 | none => 0
def waitsB (o : Oper) (j : Nat) : Bool := o.after.any fun e => Region.binds .any e && e.on == j
def upTo (x : Nat → Value) (t : Nat) (v : Value) : Nat → Value := fun k => if k = t then v else x k
def okB (ops : Array Oper) : Bool :=
 (List.range ops.size).all fun i => (match ops[i]? with | some o => o.dst.isSome && o.after.all (fun e => decide (e.on < i)) | none => false) && (List.range i).all fun j => dstAt ops i != dstAt ops j
def unl (l : Array Bool) : Nat → Nat
 | 0 => 0
 | n + 1 => unl l n + if l.getD n false = true then 0 else 1
theorem unl_set {l : Array Bool} {i : Nat} (hi : i < l.size) (h : l.getD i false = false) : ∀ n, i < n → unl (l.setIfInBounds i true) n + 1 = unl l n := by
 intro n; induction n with
 | zero => intro h; omega
 | succ n ih =>
  intro hn
  have hlo : ∀ m, m ≤ i → unl (l.setIfInBounds i true) m = unl l m := by
   intro m; induction m with
   | zero => intro _; rfl
   | succ m ihm =>
    intro hm; rw [unl, unl, ihm (by omega), getD_set_ne false (by omega)]
  rw [unl, unl]; by_cases e : i = n
  ·subst e
   rw [hlo i (Nat.le_refl _), if_pos (by simp [hi]), h]; simp
  ·rw [getD_set_ne false e]
   have := ih (by omega); omega
theorem unl_zero {l : Array Bool} : ∀ n, unl l n = 0 → ∀ i, i < n → l.getD i false = true := by
 intro n; induction n with
 | zero => intro _ i hi; omega
 | succ n ih =>
  intro h i hi; rw [unl] at h; by_cases e : i = n
  ·subst e
   by_cases hb : l.getD i false = true
   ·exact hb
   ·rw [if_neg hb] at h; omega
  ·exact ih (by omega) i (by omega)
theorem unl_all (n m : Nat) (h : n ≤ m) : unl (Array.replicate m false) n = n := by
 induction n with
 | zero => rfl
 | succ n ih => rw [unl, ih (by omega), getD_replicate_false, if_neg (by simp)]
theorem ok_at {ops : Array Oper} (h : okB ops = true) {i : Nat} {o : Oper} (ho : ops[i]? = some o) : o.dst = some (dstAt ops i) ∧ (∀ e ∈ o.after, e.on < i) ∧ ∀ j, j < i → dstAt ops i ≠ dstAt ops j := by
 have hi := (Array.getElem?_eq_some_iff.1 ho).1; have h1 := List.all_eq_true.1 h i (List.mem_range.2 hi); rw [ho] at h1; simp only [Bool.and_eq_true, List.all_eq_true, List.mem_range, bne_iff_ne, Array.all_eq_true_iff_forall_mem, decide_eq_true_eq] at h1; refine ⟨?_, h1.1.2, h1.2⟩
 obtain ⟨t, ht⟩ := Option.isSome_iff_exists.1 h1.1.1; have : dstAt ops i = t := by unfold dstAt; rw [ho]; simp [ht]
 rw [this, ht]
theorem dst_ne {ops : Array Oper} (h : okB ops = true) {i j : Nat} (hi : i < ops.size) (hj : j < ops.size) (hne : i ≠ j) : dstAt ops i ≠ dstAt ops j := by
 rcases Nat.lt_or_gt_of_ne hne with h' | h'
 ·exact fun e => (ok_at h (Array.getElem?_eq_getElem hj)).2.2 i h' e.symm
 ·exact (ok_at h (Array.getElem?_eq_getElem hi)).2.2 j h'
def fill (ops : Array Oper) (T : Array Value) (x : Nat → Value) : Nat → Array Value
 | 0 => T
 | n + 1 => (fill ops T x n).setIfInBounds (dstAt ops n) (x (dstAt ops n))
theorem fill_size (ops : Array Oper) (T : Array Value) (x : Nat → Value) (n : Nat) : (fill ops T x n).size = T.size := by
 induction n with
 | zero => rfl
 | succ n ih => rw [fill, Array.size_setIfInBounds, ih]
theorem fill_at (ops : Array Oper) (T : Array Value) (x : Nat → Value) (n k : Nat) : (fill ops T x n)[k]? = if (∃ i, i < n ∧ dstAt ops i = k) ∧ k < T.size then some (x k) else T[k]? := by
 induction n with
 | zero => rw [fill, if_neg (by rintro ⟨⟨i, hi, _⟩, _⟩; omega)]
 | succ n ih =>
  rw [fill, Array.getElem?_setIfInBounds, ih, fill_size]; by_cases e : dstAt ops n = k
  ·rw [if_pos e]
   by_cases hk : k < T.size
   ·rw [if_pos (by omega), if_pos ⟨⟨n, by omega, e⟩, hk⟩, e]
   ·rw [if_neg (by omega), if_neg (fun h => hk h.2), Array.getElem?_eq_none (by omega)]
  ·rw [if_neg e]
   by_cases hc : (∃ i, i < n ∧ dstAt ops i = k) ∧ k < T.size
   ·rw [if_pos hc]
    obtain ⟨⟨i, hi, e'⟩, hk⟩ := hc; rw [if_pos ⟨⟨i, by omega, e'⟩, hk⟩]
   ·rw [if_neg hc, if_neg]
    rintro ⟨⟨i, hi, e'⟩, hk⟩; rcases Nat.lt_or_ge i n with h | h
    ·exact hc ⟨⟨i, h, e'⟩, hk⟩
    ·obtain rfl : i = n := by omega
     exact e e'
theorem fill_put (ops : Array Oper) (T : Array Value) (x : Nat → Value) (n i : Nat) (hi : i < n) (v : Value) : (fill ops T x n).setIfInBounds (dstAt ops i) v = fill ops T (upTo x (dstAt ops i) v) n := by
 refine Array.ext_getElem? fun k => ?_
 rw [Array.getElem?_setIfInBounds, fill_at, fill_at, fill_size]; by_cases e : dstAt ops i = k
 ·subst e
  rw [if_pos rfl]; by_cases hk : dstAt ops i < T.size
  ·rw [if_pos hk, if_pos ⟨⟨i, hi, rfl⟩, hk⟩]
   unfold upTo; rw [if_pos rfl]
  ·rw [if_neg hk, if_neg (fun h => hk h.2), Array.getElem?_eq_none (by omega)]
 ·rw [if_neg e]
  have : upTo x (dstAt ops i) v k = x k := by unfold upTo; rw [if_neg (fun h => e h.symm)]
  rw [this]
theorem fill_self (ops : Array Oper) (T : Array Value) (n : Nat) : fill ops T (fun k => T.getD k undef) n = T := by
 refine Array.ext_getElem? fun k => ?_
 rw [fill_at]; split
 ·rename_i h
  rw [Array.getElem?_eq_getElem h.2]; simp [h.2]
 ·rfl
def frameOf (ops : Array Oper) (a : Act) (x : Nat → Value) : Act := { a with tmps := fill ops a.tmps x ops.size }
theorem frame_put {ops : Array Oper} (hB : okB ops = true) (a : Act) (x : Nat → Value) {i : Nat} {o : Oper} (ho : ops[i]? = some o) (v : Value) : (frameOf ops a x).put o.dst v = frameOf ops a (upTo x (dstAt ops i) v) := by
 rw [(ok_at hB ho).1]; unfold frameOf Act.put; simp only
 rw [fill_put _ _ _ _ _ (Array.getElem?_eq_some_iff.1 ho).1]
structure Inv (ops : Array Oper) (Sp : Nat → Comes) (x0 : Nat → Value) (w0 : World) (l : Array Bool) (x : Nat → Value) (w : World) : Prop where
 size : l.size = ops.size
 ext : Ext w0 w
 closed : ∀ j o, ops[j]? = some o → l.getD j false = true → ∀ e ∈ o.after, Region.binds .any e = true → l.getD e.on false = true
 yes : ∀ i, i < ops.size → l.getD i false = true → (Sp i).holds (x (dstAt ops i)) w
 no : ∀ i, i < ops.size → l.getD i false = false → x (dstAt ops i) = x0 (dstAt ops i)
theorem any_ready {ops : Array Oper} {l : Array Bool} (hB : okB ops = true) (hs : l.size = ops.size) : ∀ d i, i = d → i < ops.size → l.getD i false = false → ∃ j, j ∈ Region.ready .any ops l := by
 intro d; induction d using Nat.strongRecOn with
 | _ d ih =>
  intro i hd hi hun; have ho := Array.getElem?_eq_getElem hi; by_cases hall : ∀ e ∈ ops[i].after, Region.binds .any e = true → l.getD e.on false = true
  ·have hil : i < l.size := by omega
   have hun2 : l.getD i true = false := by simp [hil] at hun ⊢; exact hun
   exact ⟨i, mem_ready.2 ⟨hun2, ops[i], ho, hall⟩⟩
  ·simp only [Classical.not_forall] at hall
   obtain ⟨e, he, -, hl⟩ := hall; have hlt := (ok_at hB ho).2.1 e he; exact ih e.on (by omega) e.on rfl (by omega) (by simpa using hl)
theorem run {P : Program} {ops : Array Oper} {Q : Exit → Act → World → Prop} {a : Act} {w0 : World} (Sp : Nat → Comes) (x0 : Nat → Value) (hB : okB ops = true)
  (step : ∀ i o, ops[i]? = some o → ∀ x w1, Ext w0 w1 → (∀ j, j < ops.size → waitsB o j = true → (Sp j).holds (x (dstAt ops j)) w1) → (∀ j oj, ops[j]? = some oj → waitsB oj i = true → x (dstAt ops j) = x0 (dstAt ops j)) →
   ∀ K : Act → World → Prop, Shut (∀ a' w' v, a' = (frameOf ops a x).put o.dst v → (Sp i).holds v w' → Ext w1 w' → K a' w') → if Region.wanted o (yielded ops (frameOf ops a x).tmps) = true then Oper.wp P o (frameOf ops a x) w1 K Q else K ((frameOf ops a x).put o.dst undef) w1)
  (fin : ∀ x w1, Ext w0 w1 → (∀ i, i < ops.size → (Sp i).holds (x (dstAt ops i)) w1) → Q .normal (frameOf ops a x) w1) :
  ∀ (fuel : Nat) (l : Array Bool) (x : Nat → Value) (w : World), unl l ops.size = fuel → Inv ops Sp x0 w0 l x w → wpAny P .any ops Q fuel l (frameOf ops a x) w := by
 intro fuel; induction fuel with
 | zero =>
  intro l x w hu hI; have hall := unl_zero _ hu; refine ⟨?_, fin x w hI.ext fun i hi => hI.yes i hi (hall i hi)⟩
  rw [List.eq_nil_iff_forall_not_mem]; intro j hj; obtain ⟨h1, o, ho, -⟩ := mem_ready.1 hj; have hj' := (Array.getElem?_eq_some_iff.1 ho).1; have h2 := hall j hj'; have hjl : j < l.size := by rw [hI.size]; exact hj'
  simp [hjl] at h1 h2
  rw [h1] at h2; cases h2
 | succ fuel ih =>
  intro l x w hu hI; refine ⟨fun h0 => ?_, fun i hi => ?_⟩
  ·exfalso
   have : ∃ i, i < ops.size ∧ l.getD i false = false := by
    by_cases hc : ∃ i, i < ops.size ∧ l.getD i false = false
    ·exact hc
    ·exfalso
     have hz : ∀ n, n ≤ ops.size → unl l n = 0 := by
      intro n; induction n with
      | zero => intro _; rfl
      | succ n ihn =>
       intro hn; rw [unl, ihn (by omega), if_pos]; cases hb : l.getD n false
       ·exact absurd ⟨n, by omega, hb⟩ hc
       ·rfl
     rw [hz _ (Nat.le_refl _)] at hu; omega
   obtain ⟨i, hi, hb⟩ := this; obtain ⟨j, hj⟩ := any_ready hB hI.size i i rfl hi hb; rw [h0] at hj; cases hj
  ·obtain ⟨h1, o, ho, hall⟩ := mem_ready.1 hi
   have hio := (Array.getElem?_eq_some_iff.1 ho).1; have hil : i < l.size := by rw [hI.size]; exact hio
   have h1' : l.getD i false = false := by simp [hil] at h1 ⊢; exact h1
   refine wpOp_step ho fun K hK => ?_
   refine step i o ho x w hI.ext (fun j hj hw => ?_) (fun j oj hoj hw => ?_) K (fun a' w' v ha' hv hE => hK a' w' ?_)
   ·obtain ⟨e, he, hb⟩ := Array.any_eq_true'.1 hw
    simp only [Bool.and_eq_true, beq_iff_eq] at hb; exact hI.yes j hj (by rw [← hb.2]; exact hall e he hb.1)
   ·have hj := (Array.getElem?_eq_some_iff.1 hoj).1
    refine hI.no j hj ?_
    cases hb : l.getD j false
    ·rfl
    ·obtain ⟨e, he, hb2⟩ := Array.any_eq_true'.1 hw
     simp only [Bool.and_eq_true, beq_iff_eq] at hb2; have := hI.closed j oj hoj hb e he hb2.1; rw [hb2.2, h1'] at this; cases this
   ·subst ha'
    rw [frame_put hB a x ho]; have hne : ∀ j, j < ops.size → j ≠ i → dstAt ops j ≠ dstAt ops i := fun j hj hne => dst_ne hB hj hio hne
    refine ih _ _ _ (by have := unl_set hil h1' ops.size hio; omega) ⟨by simp [hI.size], hI.ext.then hE, fun j oj hoj hl e he hb => ?_, fun j hj hl => ?_, fun j hj hl => ?_⟩
    ·by_cases e' : i = j
     ·subst e'
      obtain rfl : oj = o := Option.some.inj (hoj.symm.trans ho); exact getD_set_true (hall e he hb)
     ·rw [getD_set_ne false e'] at hl
      exact getD_set_true (hI.closed j oj hoj hl e he hb)
    ·unfold upTo
     by_cases e' : j = i
     ·subst e'
      rw [if_pos rfl]; exact hv
     ·rw [if_neg (hne j hj e')]
      rw [getD_set_ne false (Ne.symm e')] at hl; exact Comes.mono (hI.yes j hj hl) hE
    ·unfold upTo
     by_cases e' : j = i
     ·subst e'
      simp [hil] at hl
     ·rw [if_neg (hne j hj e')]
      rw [getD_set_ne false (Ne.symm e')] at hl; exact hI.no j hj hl
end specs
inductive AllFrom (Pr : Nat → Oper → Prop) : Nat → List Oper → Prop where
 | nil {k : Nat} : AllFrom Pr k []
 | cons {k : Nat} {o : Oper} {r : List Oper} (h : Pr k o) (t : AllFrom Pr (k + 1) r) : AllFrom Pr k (o :: r)
theorem AllFrom.get {Pr : Nat → Oper → Prop} {k : Nat} {l : List Oper} (h : AllFrom Pr k l) : ∀ i o, l[i]? = some o → Pr (k + i) o := by
 induction h with
 | nil => intro i o h; simp at h
 | @cons k o' r h t ih =>
  intro i o ho; cases i with
  | zero => simp at ho; subst ho; exact h
  | succ i =>
   have := ih i o (by simpa using ho); rw [show k + (i + 1) = k + 1 + i by omega]; exact this
open specs in
theorem wp_region_specs {P : Program} {id : Nat} {l : List Oper} {Q : Exit → Act → World → Prop} {a : Act} {w : World} (Sp : Nat → Comes) {frame : (Nat → Value) → Act} (hf : ∀ x, frameOf l.toArray a x = frame x) (hm : P.follows .mixedOrders = true) (hB : okB l.toArray = true)
  (step : AllFrom (fun i o => ∀ x w1, Ext w.drew w1 → (∀ j, j < l.length → waitsB o j = true → (Sp j).holds (x (dstAt l.toArray j)) w1) → (∀ j oj, l[j]? = some oj → waitsB oj i = true → x (dstAt l.toArray j) = a.tmps.getD (dstAt l.toArray j) undef) →
   ∀ K : Act → World → Prop, Shut (∀ a' w' v, a' = (frame x).put o.dst v → (Sp i).holds v w' → Ext w1 w' → K a' w') → if Region.wanted o (yielded l.toArray (frame x).tmps) = true then Oper.wp P o (frame x) w1 K Q else K ((frame x).put o.dst undef) w1) 0 l)
  (fin : ∀ x w1, Ext w.drew w1 → (∀ i, i < l.length → (Sp i).holds (x (dstAt l.toArray i)) w1) → Q .normal (frame x) w1) : (Code.region id l.toArray true).wp P Q a w := by
 have ha : frameOf l.toArray a (fun k => a.tmps.getD k undef) = a := by unfold frameOf; rw [fill_self]
 refine wp_region_any hm ?_
 have h := run (P := P) (ops := l.toArray) (Q := Q) (a := a) (w0 := w.drew) Sp (fun k => a.tmps.getD k undef) hB (fun i o ho x w1 hE hd hr K hK => by have h := step.get i o (by simpa using ho); rw [Nat.zero_add] at h; rw [hf] at hK ⊢; exact h x w1 hE (fun j hj => hd j (by simpa using hj)) (fun j oj hoj => hr j oj (by simpa using hoj)) K hK) (fun x w1 hE hs => by rw [hf]; exact fin x w1 hE fun i hi => hs i (by simpa using hi)) l.toArray.size (Array.replicate l.toArray.size false) (fun k => a.tmps.getD k undef) w.drew (unl_all _ _ (Nat.le_refl _))
  ⟨by simp, Chg.refl _ _, fun j o ho hl => (by rw [getD_replicate_false] at hl; cases hl), fun i hi hl => (by rw [getD_replicate_false] at hl; cases hl), fun i hi hl => rfl⟩
 rw [ha] at h; exact h
end Go.Proofs.YtpcihajmcejliabGreatDoor
namespace Go.Proofs.YtpcihajmcejliabGreatDoor
open Go.RowKit
namespace synw
theorem info_split {o : Option TypeInfo} {z : Option Value} {s b : Nat} (h : o.map (fun i => (i.zero, i.size, i.bytes)) = some (z, s, b)) : ∃ i, o = some i ∧ i.zero = z ∧ i.size = s ∧ i.bytes = b := by
 cases o with
 | none => cases h
 | some i =>
  simp only [Option.map_some, Option.some.injEq, Prod.mk.injEq] at h; exact ⟨i, rfl, h.1, h.2.1, h.2.2⟩
end synw
end Go.Proofs.YtpcihajmcejliabGreatDoor
namespace Go.Proofs.YtpcihajmcejliabGreatDoor
open Go.RowKit
mutual
/-- is a node neither too deep nor of too many? g: how many levels more may be; m: how many nodes there were -/
def weighF : Nat → Nd → Nat → Bool × Nat
 | 0, _, m => (false, m + 1)
 | g + 1, .mk _ _ _ l, m => if 500 < m + 1 then (false, m + 1) else weighL g l (m + 1)
def weighL : Nat → List Nd → Nat → Bool × Nat
 | _, [], m => (true, m)
 | g, x :: r, m => if (weighF g x m).1 = true then weighL g r (weighF g x m).2 else (false, (weighF g x m).2)
end
namespace synw
theorem weigh_le : ∀ g x m, (weighF g x m).2 ≤ max m 500 + 1 ∧ ((weighF g x m).1 = true → (weighF g x m).2 ≤ 500) := by
 intro g; induction g with
 | zero => intro x m; simp only [weighF]; exact ⟨by omega, fun h => by cases h⟩
 | succ g ih =>
  have hl : ∀ (l : List Nd) (m : Nat), m ≤ 500 → (weighL g l m).2 ≤ 501 ∧ ((weighL g l m).1 = true → (weighL g l m).2 ≤ 500) := by
   intro l; induction l with
   | nil => intro m hm; simp only [weighL]; exact ⟨by omega, fun _ => hm⟩
   | cons x r ih2 =>
    intro m hm; obtain ⟨h1, h2⟩ := ih x m; simp only [weighL]; split
    ·rename_i h; exact ih2 _ (h2 h)
    ·exact ⟨by simp only; omega, fun h => by cases h⟩
  intro x m; cases x with
  | mk k t n l =>
   simp only [weighF]; split
   ·exact ⟨by simp only; omega, fun h => by cases h⟩
   ·obtain ⟨h1, h2⟩ := hl l (m + 1) (by omega)
    exact ⟨by omega, h2⟩
theorem weighL_drop {g m k : Nat} {l : List Nd} (h : k < l.length) : weighL g (l.drop k) m = if (weighF g l[k] m).1 = true then weighL g (l.drop (k + 1)) (weighF g l[k] m).2 else (false, (weighF g l[k] m).2) := by
 rw [List.drop_eq_getElem_cons h]; simp only [weighL]
end synw
end Go.Proofs.YtpcihajmcejliabGreatDoor
namespace Go.Proofs.YtpcihajmcejliabGreatDoor
open Go.RowKit
def NgAt (w : World) : Nd → Value → Prop
 | .mk k t m l, v => ∃ a c, v = .agg #[.int .i64 k, .string t, .int .i64 m, .slice a l.length c] ∧ l.length ≤ c ∧ c ≤ maxLen ∧ (t.size ≤ maxLen ∧ -9223372036854775808 ≤ m ∧ m ≤ 9223372036854775807) ∧
   ∀ (j : Nat) (h : j < l.length), ∃ b o, a = some ⟨b, o, none⟩ ∧ b < w.heap.size ∧ ∃ u, NgAt w l[j] u ∧ u.cells.size = 4 ∧ ∀ i, i < 4 → w.cell? ⟨b, o + j * 4 + i, none⟩ = u.cells[i]?
 termination_by x => SizeOf.sizeOf x
 decreasing_by exact Nd.sizeOf_kid k t m l j h
def NgIn (w : World) (b o : Nat) (x : Nd) : Prop := ∃ u, NgAt w x u ∧ u.cells.size = 4 ∧ ∀ i, i < 4 → w.cell? ⟨b, o + i, none⟩ = u.cells[i]?
theorem ngAt_mk (w : World) (k : Int) (t : ByteArray) (m : Int) (l : List Nd) (v : Value) : NgAt w (.mk k t m l) v ↔ ∃ a c, v = .agg #[.int .i64 k, .string t, .int .i64 m, .slice a l.length c] ∧ l.length ≤ c ∧ c ≤ maxLen ∧ (t.size ≤ maxLen ∧ -9223372036854775808 ≤ m ∧ m ≤ 9223372036854775807) ∧ AllIn 4 NgIn w a l := by
 rw [NgAt]; exact Iff.rfl
theorem ngAt_keeps {w w' : World} (hk : Keeps w w') : ∀ x v, NgAt w x v → NgAt w' x v := by
 refine nd_ind fun k t m l ih v h => ?_
 rw [ngAt_mk] at h ⊢; obtain ⟨a, c, e, h1, h2, h3, h4⟩ := h; refine ⟨a, c, e, h1, h2, h3, fun j hj => ?_⟩
 obtain ⟨b, o, ea, hb, u, hu, hs, hc⟩ := h4 j hj; refine ⟨b, o, ea, Nat.lt_of_lt_of_le hb hk.1, u, ih _ (List.getElem_mem hj) _ hu, hs, fun i hi => ?_⟩
 have h5 : u.cells[i]? = some (u.cells[i]'(by omega)) := Array.getElem?_eq_getElem (by omega); rw [h5]; exact hk.2 _ _ ((hc i hi).trans h5)
theorem ngIn_keeps {w w' : World} (hk : Keeps w w') (b o : Nat) (x : Nd) (h : NgIn w b o x) : NgIn w' b o x := by
 obtain ⟨u, hu, hs, hc⟩ := h; refine ⟨u, ngAt_keeps hk _ _ hu, hs, fun i hi => ?_⟩
 have h5 : u.cells[i]? = some (u.cells[i]'(by omega)) := Array.getElem?_eq_getElem (by omega); rw [h5]; exact hk.2 _ _ ((hc i hi).trans h5)
namespace synw
theorem ng_form {w : World} {x : Nd} {v : Value} (h : NgAt w x v) : ∃ k t m a n c, v = .agg #[.int .i64 k, .string t, .int .i64 m, .slice a n c] := by
 cases x with
 | mk k t m l =>
  rw [ngAt_mk] at h; obtain ⟨a, c, rfl, -⟩ := h; exact ⟨_, _, _, _, _, _, rfl⟩
set_option maxRecDepth 100000 in
set_option maxHeartbeats 4000000 in
theorem weighg_any (g : Nat) : ∀ (x : Nd) (v : Value) (w : World) (M m : Nat) (d : Int) (H : Nat → Bool), NgAt (hide H w) x v → H M = true → Blk w M #[.int .i64 (m : Nat)] 3 → m ≤ 500 → d = 17 - (g : Int) → g ≤ 17 →
  Calls Tryz.prog 86 #[v, .int .i64 d, .pointer (some ⟨M, 0, none⟩)] w fun e w' => e = .returned (.bool (weighF g x m).1) ∧ Chg (fun i => i = M) w w' ∧ Blk w' M #[.int .i64 ((weighF g x m).2 : Nat)] 3 := by
 induction g with
 | zero =>
  intro x v w M m d H hx hH hM hm hd hg; obtain ⟨k, t, n, a, c, cc, rfl⟩ := ng_form hx; have hM1 := hM.alloc (.cells #[.int .i64 k, .string t, .int .i64 n, .slice a c cc] 66); have hc := hM1.cell 0; have hf := hM1.frozen 0; have hl := hM1.lt; simp at hc
  have hw1 : IntKind.i64.wrap ((m : Int) + 1) = ((m + 1 : Nat) : Int) := by rw [wrap_small _ (by omega) (by omega)]; rfl
  have hd2 : d = 17 := by omega
  subst hd2; have HM := Z_ hM1; have HC := Z_ ((Chg.refl (fun i => i = M) w).alloc (.cells #[.int .i64 k, .string t, .int .i64 n, .slice a c cc] 66)); simp only [weighF]; clear hM hM1 hx hd hg; go_enter Tryz.func86, Tryz.ntmps86
  go_wp2_with fail
  go_ret
  exact ⟨rfl, chg_set HC.out 0 _, HM.out.set 0 _⟩
 | succ g ih =>
  intro x v w M m d H hx hH hM hm hd hg; cases x with
  | mk k t n l =>
   rw [ngAt_mk] at hx; obtain ⟨a, cc, rfl, hx1, hx2, hx3, hx4⟩ := hx; obtain ⟨N, hN⟩ : ∃ N, l.length = N := ⟨_, rfl⟩; have hNm : N ≤ 9223372036854775807 := by unfold maxLen at hx2; omega
   have HN := Z_ hN; rw [hN]; have hM1 := hM.alloc (.cells #[.int .i64 k, .string t, .int .i64 n, .slice a N cc] 66); have hc := hM1.cell 0; have hf := hM1.frozen 0; have hlM := hM1.lt; simp at hc
   obtain ⟨m1, hm1e⟩ : ∃ q, m + 1 = q := ⟨_, rfl⟩; have hw1 : IntKind.i64.wrap ((m : Int) + 1) = (m1 : Int) := by rw [wrap_small _ (by omega) (by omega)]; omega
   have hdd : ¬ (16 < d) := by omega
   have hdw : IntKind.i64.wrap (d + 1) = 17 - (g : Int) := by rw [wrap_small _ (by omega) (by omega)]; omega
   have hdw2 : wrap64 (d + 1) = 17 - (g : Int) := by unfold wrap64; omega
   have hMw := hM.lt; have hcm : (w.setCell ⟨M, 0, none⟩ (.int .i64 (m1 : Nat))).cell? ⟨M, 0, none⟩ = some (.int .i64 (m1 : Nat)) := (hM.set 0 (.int .i64 (m1 : Nat))).cell 0; have hdd2 : decide (16 < d) = false := by simpa using hdd
   clear hd; obtain ⟨K, hK⟩ : ∃ K, w.heap.size = K := ⟨_, rfl⟩; rw [hK] at hMw; obtain ⟨R, hR⟩ : ∃ R, weighF (g + 1) (.mk k t n l) m = R := ⟨_, rfl⟩; rw [hR]; simp only [weighF] at hR; rw [hm1e] at hR; have HR := Z_ hR; have hM2 := (hM.set 0 (.int .i64 (m1 : Nat))).alloc (.cells #[.int .i64 k, .string t, .int .i64 n, .slice a N cc] 66); have hK2 := Blk.made (w.setCell ⟨M, 0, none⟩ (.int .i64 (m1 : Nat))) #[.int .i64 k, .string t, .int .i64 n, .slice a N cc] 66; rw [World.size_setCell, hK] at hK2; have hX := (chg_set (Chg.refl (fun i => i = M) w) 0 (.int .i64 (m1 : Nat))).alloc (.cells #[.int .i64 k, .string t, .int .i64 n, .slice a N cc] 66); have hK3 := hK2.cell; have HM2 := Z_ hM2; have HX := Z_ hX; have HI := Z_ (fun (u : World) (hC : Chg (fun i => i = M) w u) => hx4.keeps (keeps_chg hC fun i _ e => by rw [e]; exact hH) fun b o y => ngIn_keeps (keeps_chg hC fun i _ e => by rw [e]; exact hH) b o y)
   clear hM hM1 hR hM2 hX hx4 hK2 hN; by_cases hb : 500 < m1
   ·have HR2 := Z_ (show R = (false, m1) by have := HR.out; rw [if_pos hb] at this; exact this.symm)
    have hb2 : (500 : Int) < (m1 : Int) := by omega
    clear HR; go_enter Tryz.func86, Tryz.ntmps86
    go_wp2_with fail
    go_ret
    rw [HR2.out]; exact ⟨rfl, HX.out, HM2.out⟩
   ·have HR2 := Z_ (show weighL g l m1 = R by have := HR.out; rw [if_neg hb] at this; exact this)
    have hb2 : ¬ ((500 : Int) < (m1 : Int)) := by omega
    have hm1 : m1 ≤ 500 := by omega
    clear HR hb hm1e; go_enter Tryz.func86, Tryz.ntmps86
    go_wp2_with fail
    have HI2 := Z_ (HI.out _ HX.out); clear hc hf hlM hw1 hb2 hK3; have hX9 := HX.out; have hM9 := HM2.out; generalize (w.setCell ⟨M, 0, none⟩ (.int .i64 (m1 : Nat))).alloc (.cells #[.int .i64 k, .string t, .int .i64 n, .slice a N cc] 66) = w1 at *; go_loopw [25] (fun i wr => ∃ q mm : Nat, q ≤ N ∧ i = .int .i64 q ∧ mm ≤ 500 ∧ Hid (weighL g (l.drop q) mm = R) ∧ Chg (fun i => i = M) w wr ∧ Blk wr M #[.int .i64 (mm : Nat)] 3) (fun i _ => N - (intOf i).toNat)
    case atStart => exact ⟨0, m1, Nat.zero_le _, rfl, hm1, HR2, hX9, hM9⟩
    case round =>
     obtain ⟨q, mm, hq, rfl, hmm, hr, hC, hB⟩ := hrel; by_cases hlt : q < N
     ·have hql : q < l.length := by rw [HN.out]; exact hlt
      have hqi : (q : Int) < (N : Int) := by omega
      obtain ⟨b, o, rfl, hb, u, hu, hus, hcl⟩ := HI.out wr hC q hql; obtain ⟨k1, t1, n1, a1, l1, c1, rfl⟩ := ng_form hu; have q0 : wr.cell? ⟨b, o + q * 4, none⟩ = some (.int .i64 k1) := (keeps_bare H wr).2 _ _ ((hcl 0 (by decide)).trans rfl); have q1 : wr.cell? ⟨b, o + q * 4 + 1, none⟩ = some (.string t1) := (keeps_bare H wr).2 _ _ ((hcl 1 (by decide)).trans rfl); have q2 : wr.cell? ⟨b, o + q * 4 + 2, none⟩ = some (.int .i64 n1) := (keeps_bare H wr).2 _ _ ((hcl 2 (by decide)).trans rfl); have q3 : wr.cell? ⟨b, o + q * 4 + 3, none⟩ = some (.slice a1 l1 c1) := (keeps_bare H wr).2 _ _ ((hcl 3 (by decide)).trans rfl); have hE := (Chg.refl (fun _ => False) wr).alloc (.cells #[.int .i64 k1, .string t1, .int .i64 n1, .slice a1 l1 c1] 66); have HP := Z_ ((Blk.made wr #[.int .i64 k1, .string t1, .int .i64 n1, .slice a1 l1 c1] 66)); have hPc := HP.out.cell; have HIH := Z_ (ih l[q] _ (wr.alloc (.cells #[.int .i64 k1, .string t1, .int .i64 n1, .slice a1 l1 c1] 66)) M mm (17 - (g : Int)) H (ngAt_keeps (keeps_chg hE fun _ _ h => h.elim) _ _ hu) hH (hB.ext hE) hmm rfl (by omega))
      have hr2 := hr.out; rw [weighL_drop hql] at hr2; have hle := weigh_le g l[q] mm; generalize weighF g l[q] mm = Q at *; obtain ⟨qb, qm⟩ := Q; simp only at hr2 hle HIH; have HR3 := Z_ hr2; have HLE := Z_ hle; have HC3 := Z_ (hC.ext hE); clear hr hr2 hcl hu hE hC hB hle; go_wp2_with fail
      refine HIH.out.mono ?_
      rintro e w5 ⟨rfl, hC5, hB5⟩; have HC5 := Z_ (HC3.out.then hC5); have HB5 := Z_ hB5; clear hC5 hB5; cases qb with
      | true =>
       have HR4 := Z_ (show weighL g (l.drop (q + 1)) qm = R by have := HR3.out; simpa using this); have hqm := HLE.out.2 rfl; clear HR3 HLE; go_wp2_with fail
       go_roundw
       case rel => exact ⟨q + 1, qm, by omega, by go_num, hqm, HR4, HC5.out, HB5.out⟩
       case measure => simp [intOf]; omega
      | false =>
       have HR4 := Z_ (show R = (false, qm) by have := HR3.out; simpa using this.symm); clear HR3 HLE; go_wp2_with fail
       go_ret
       rw [HR4.out]; exact ⟨rfl, HC5.out, HB5.out⟩
     ·obtain rfl : q = N := by omega
      have hT := Z_ (show R = (true, mm) by have := hr.out; rw [List.drop_of_length_le (by rw [HN.out]; exact Nat.le_refl _)] at this; simp only [weighL] at this; exact this.symm); clear hr; go_wp2_with fail
      go_ret
      rw [hT.out]; exact ⟨rfl, hC, hB⟩
end synw
end Go.Proofs.YtpcihajmcejliabGreatDoor
namespace Go.Proofs.YtpcihajmcejliabGreatDoor.nodeOpen
open Go.ChangeShapes Go.WideShapes Go.Deep Go.RowKit Go.Proofs.YtpcihajmcejliabGreatDoor
variable {H : Type} {enc : TypeId × Value → H} {w : World} {base : Nat} {spare : Nat → Bool} {held : Bool}
theorem cN : Tryz.prog.cellsOf 66 = 4 := by kernel_rfl
theorem open_rowsS {α : Type} [Inhabited α] {In : World → Nat → Nat → α → Prop} {t e : TypeId} {k fuel : Nat} {u : Value} {x : DataW H × List MemPlace} (hk : 0 < k) (ht : Tryz.prog.underlying t = some (.slice e)) (hc : Tryz.prog.cellsOf e = k)
  (h : DataW.trod enc Tryz.prog w base spare held fuel t [u] = some x)
  (each : ∀ (n : Nat) (cs : List Value) (y : DataW H × List MemPlace), SizeOf.sizeOf y.1 < SizeOf.sizeOf x.1 → DataW.trod enc Tryz.prog w base spare held n e cs = some y → ∃ z : α, ∀ b o, b < w.heap.size → (∀ j, j < k → w.cell? ⟨b, o + j, none⟩ = cs[j]?) → In w b o z) :
  ∃ a l cap, u = .slice a l.length cap ∧ AllIn k In w a l ∧ l.length ≤ cap ∧ cap ≤ maxLen := by
 rcases open_slice ht h with ⟨h0, rfl⟩ | ⟨a, len, cap, m, n, D, Pl, h0, hb, hl, hm, hmm, rfl, hx⟩
 ·cases h0
  exact ⟨none, [], 0, rfl, fun j hj => absurd hj (Nat.not_lt_zero _), Nat.zero_le _, Nat.zero_le _⟩
 ·cases h0
  have hlm : len ≤ m := by rw [hmm]; split <;> omega
  rw [hc] at hx
  have hZ : ∀ i, i < len → ∃ z : α, ∀ b o, a = ⟨b, o, none⟩ → b < w.heap.size → In w b (o + i * k) z := by
   intro i hi; obtain ⟨cs', h1, h2⟩ := hx i (by omega)
   have hlt : SizeOf.sizeOf (D i) < SizeOf.sizeOf (DataW.slice ((List.range len).map D) ((List.range (m - len)).map fun j => D (len + j))) := by
    have := List.sizeOf_lt_of_mem (List.mem_map_of_mem (f := D) (List.mem_range.2 hi)); rw [DataW.slice.sizeOf_spec]; omega
   obtain ⟨z, hz⟩ := each n cs' _ hlt h2; refine ⟨z, fun b o e hb => hz b _ hb fun j hj => ?_⟩
   subst e; obtain ⟨_, _, h3⟩ := World.cells?_some h1; have := h3 j hj; rw [add_add] at this; rw [← this]; unfold Addr.add; split
   ·rename_i h0
    rw [show o + i * k + j = o by omega]
   ·simp [Nat.add_assoc]
  obtain ⟨Z, hZ⟩ := choose_lt hZ; refine ⟨some a, (List.range len).map Z, cap, by simp, fun j hj => ?_, by simpa using hl, hm⟩
  have hj' : j < len := by simpa using hj
  obtain ⟨b, off, spot⟩ := a; obtain ⟨cs', h1, _⟩ := hx 0 (by omega); obtain ⟨_, hlen, h3⟩ := World.cells?_some h1; have h4 := h3 0 hk; simp [Addr.add] at h4
  rw [List.getElem?_eq_getElem (by omega)] at h4; have hs := World.cell?_spot h4; simp only at hs; subst hs; have hblt := World.block_lt_of_cell? w _ h4; refine ⟨b, off, rfl, hblt, ?_⟩
  simpa using hZ j hj' b off rfl hblt
instance : Inhabited Nd := ⟨.mk 0 noText 0 []⟩
theorem int_range {n : Int} (h : (Lit.int .i64 n).wf = true) : -9223372036854775808 ≤ n ∧ n ≤ 9223372036854775807 := by
 unfold Lit.wf at h; simp only [Bool.and_eq_true, decide_eq_true_eq] at h; exact h
set_option maxRecDepth 100000 in
theorem open_cells : ∀ (q fuel : Nat) (cs : List Value) (x : DataW H × List MemPlace), SizeOf.sizeOf x.1 ≤ q → DataW.trod enc Tryz.prog w base spare held fuel 66 cs = some x → cs.length = 4 ∧ ∃ z : Nd, NgAt w z (.agg cs.toArray) := by
 intro q; induction q with
 | zero =>
  intro fuel cs x hq h; obtain ⟨xs, n, _, hx, -⟩ := DataW.trod_struct Tryz.underlying66 h; have := congrArg Prod.fst hx; simp only at this; rw [this, DataW.agg.sizeOf_spec] at hq; omega
 | succ q ih =>
  intro fuel cs x hq h; obtain ⟨xs, n, _, hx, hl, hlen, hf⟩ := DataW.trod_struct Tryz.underlying66 h; rw [cN] at hl; replace hlen : xs.length = 4 := hlen; match cs, hl, xs, hlen, hx with
  | [v0, v1, v2, v3], _, [y0, y1, y2, y3], _, hx =>
   have g0 := hf 0 _ rfl; have g1 := hf 1 _ rfl; have g2 := hf 2 _ rfl; have g3 := hf 3 _ rfl; simp only [List.getElem?_cons_zero, List.getElem?_cons_succ] at g0 g1 g2 g3; obtain ⟨i0, e0, _⟩ := DataW.trod_int Tryz.underlying3 g0; obtain ⟨s, e1, _, hs⟩ := DataW.trod_string Tryz.underlying9 g1; obtain ⟨i2, e2, _, hw⟩ := DataW.trod_int Tryz.underlying2 g2
   have hsz : SizeOf.sizeOf y3.1 ≤ q := by
    have := congrArg Prod.fst hx; simp only at this; rw [this, DataW.agg.sizeOf_spec] at hq; have h9 := List.sizeOf_lt_of_mem (show y3.1 ∈ [y0, y1, y2, y3].map (·.1) by simp); omega
   obtain ⟨a, l, cap, e3, h1, h2, h3⟩ := open_rowsS (In := NgIn) (k := 4) (by decide) Tryz.underlying35 cN g3 fun n' cs' y hy hyt => by
    obtain ⟨hl', z, hz⟩ := ih n' cs' y (by omega) hyt; exact ⟨z, fun b o hb hc => ⟨_, hz, by show cs'.toArray.size = 4; simpa using hl', fun i hi => by rw [hc i hi]; show _ = cs'.toArray[i]?; simp⟩⟩
   cases e0; cases e1; cases e2
   subst e3; refine ⟨rfl, .mk i0 s i2 l, ?_⟩
   rw [ngAt_mk]; exact ⟨a, cap, rfl, h2, h3, ⟨hs, int_range hw⟩, h1⟩
set_option maxRecDepth 100000 in
theorem open_node {v : Value} {d : DataW H} {p : List MemPlace} {r : Reach} {b0 : Nat} (hv : Value.okWide Tryz.prog w r b0 66 v) (h : DataW.Trod enc Tryz.prog w base spare held 66 v d p) : ∃ x : Nd, NgAt w x v := by
 obtain ⟨cs, rfl, hsz⟩ := okWide_struct Tryz.underlying66 hv; obtain ⟨fuel, hf⟩ := h; exact (open_cells _ fuel _ _ (Nat.le_refl _) hf).2
end Go.Proofs.YtpcihajmcejliabGreatDoor.nodeOpen
namespace Go.Proofs.YtpcihajmcejliabGreatDoor
open Go.RowKit
namespace synr
open synw
def signsL : List (ByteArray × Int × Int) := [(⟨#[61, 61]⟩, 9, 0), (⟨#[60]⟩, 8, 0), (⟨#[43]⟩, 1, 1), (⟨#[45]⟩, 2, 1), (⟨#[124]⟩, 7, 1), (⟨#[42]⟩, 3, 2), (⟨#[47]⟩, 4, 2), (⟨#[37]⟩, 5, 2), (⟨#[38]⟩, 6, 2)]
set_option maxRecDepth 100000 in
set_option maxHeartbeats 4000000 in
theorem signs_any (w : World) :
  Calls Tryz.prog 236 #[] w fun e w' => ∃ g1 g2 g3, e = .returned (.tuple #[.slice (some ⟨g1, 0, none⟩) 9 9, .slice (some ⟨g2, 0, none⟩) 9 9, .slice (some ⟨g3, 0, none⟩) 9 9]) ∧
   (∀ (j : Nat) (hj : j < signsL.length), w'.cell? ⟨g1, j, none⟩ = some (.string signsL[j].1) ∧ w'.cell? ⟨g2, j, none⟩ = some (.int .i64 signsL[j].2.1) ∧ w'.cell? ⟨g3, j, none⟩ = some (.int .i64 signsL[j].2.2)) ∧ (g1 < w'.heap.size ∧ g2 < w'.heap.size ∧ g3 < w'.heap.size) ∧ Ext w w' := by
 have hB1 := ((Blk.made w (signsL.map fun x => Value.string x.1).toArray 9).alloc (.cells (signsL.map fun x => Value.int .i64 x.2.1).toArray 2)).alloc (.cells (signsL.map fun x => Value.int .i64 x.2.2).toArray 3); have hB2 := (Blk.made2 w (.cells (signsL.map fun x => Value.string x.1).toArray 9) (signsL.map fun x => Value.int .i64 x.2.1).toArray 2).alloc (.cells (signsL.map fun x => Value.int .i64 x.2.2).toArray 3); have hB3 := Blk.made ((w.alloc (.cells (signsL.map fun x => Value.string x.1).toArray 9)).alloc (.cells (signsL.map fun x => Value.int .i64 x.2.1).toArray 2)) (signsL.map fun x => Value.int .i64 x.2.2).toArray 3; have e3 : ((w.alloc (.cells (signsL.map fun x => Value.string x.1).toArray 9)).alloc (.cells (signsL.map fun x => Value.int .i64 x.2.1).toArray 2)).heap.size = w.heap.size + 1 + 1 := by simp
 rw [e3] at hB3; have hE : Ext w (((w.alloc (.cells (signsL.map fun x => Value.string x.1).toArray 9)).alloc (.cells (signsL.map fun x => Value.int .i64 x.2.1).toArray 2)).alloc (.cells (signsL.map fun x => Value.int .i64 x.2.2).toArray 3)) := (((Chg.refl _ _).alloc _).alloc _).alloc _; have HF := Z_ hE; have H1 := Z_ hB1; have H2 := Z_ hB2; have H3 := Z_ hB3; clear hE hB1 hB2 hB3 e3; go_enter Tryz.func236, Tryz.ntmps236
 go_wp2
 go_ret3
 refine ⟨_, _, _, rfl, fun j hj => ⟨?_, ?_, ?_⟩, ⟨H1.out.lt, H2.out.lt, H3.out.lt⟩, HF.out⟩
 ·exact (H1.out.cell j).trans (by simp [hj])
 ·exact (H2.out.cell j).trans (by simp [hj])
 ·exact (H3.out.cell j).trans (by simp [hj])
end synr
end Go.Proofs.YtpcihajmcejliabGreatDoor
namespace Go.Proofs.YtpcihajmcejliabGreatDoor
open Go.RowKit
mutual
def szF : Nd → Nat
 | .mk _ _ _ l => szL l + 1
def szL : List Nd → Nat
 | [] => 0
 | x :: r => szF x + szL r
end
mutual
def dpF : Nd → Nat
 | .mk _ _ _ l => dpL l + 1
def dpL : List Nd → Nat
 | [] => 0
 | x :: r => max (dpF x) (dpL r)
end
theorem dp_pos (x : Nd) : 1 ≤ dpF x := by cases x; simp only [dpF]; omega
theorem weigh_law : ∀ g x m, m ≤ 500 → ((weighF g x m).1 = true ↔ dpF x ≤ g ∧ m + szF x ≤ 500) ∧ ((weighF g x m).1 = true → (weighF g x m).2 = m + szF x) := by
 intro g; induction g with
 | zero =>
  intro x m hm; have := dp_pos x; simp only [weighF]; exact ⟨⟨fun h => (by cases h), fun h => by omega⟩, fun h => by cases h⟩
 | succ g ih =>
  have hl : ∀ (l : List Nd) (m : Nat), m ≤ 500 → ((weighL g l m).1 = true ↔ dpL l ≤ g ∧ m + szL l ≤ 500) ∧ ((weighL g l m).1 = true → (weighL g l m).2 = m + szL l) := by
   intro l; induction l with
   | nil => intro m hm; simp only [weighL, dpL, szL]; exact ⟨⟨fun _ => ⟨by omega, by omega⟩, fun _ => trivial⟩, fun _ => rfl⟩
   | cons x r ih2 =>
    intro m hm; obtain ⟨h1, h2⟩ := ih x m hm; simp only [weighL, dpL, szL]; by_cases hx : (weighF g x m).1 = true
    ·rw [if_pos hx]
     have e := h2 hx; obtain ⟨h3, h4⟩ := h1.1 hx; rw [e]; obtain ⟨h5, h6⟩ := ih2 (m + szF x) h4; refine ⟨h5.trans ⟨fun h => ⟨by omega, by omega⟩, fun h => ⟨by omega, by omega⟩⟩, fun h => by rw [h6 h]; omega⟩
    ·rw [if_neg hx]
     refine ⟨⟨fun h => (by cases h), fun h => absurd (h1.2 ⟨by omega, by omega⟩) hx⟩, fun h => by cases h⟩
  intro x m hm; cases x with
  | mk k t n l =>
   simp only [weighF, dpF, szF]; by_cases h : 500 < m + 1
   ·rw [if_pos h]
    exact ⟨⟨fun h => (by cases h), fun h => by omega⟩, fun h => by cases h⟩
   ·rw [if_neg h]
    obtain ⟨h1, h2⟩ := hl l (m + 1) (by omega); exact ⟨h1.trans ⟨fun h => ⟨by omega, by omega⟩, fun h => ⟨by omega, by omega⟩⟩, fun h => by rw [h2 h]; omega⟩
theorem szL_drop {l : List Nd} {k : Nat} (h : k < l.length) : szL (l.drop k) = szF l[k] + szL (l.drop (k + 1)) := by
 rw [List.drop_eq_getElem_cons h]; simp only [szL]
theorem dpL_drop {l : List Nd} {k : Nat} (h : k < l.length) : dpL (l.drop k) = max (dpF l[k]) (dpL (l.drop (k + 1))) := by
 rw [List.drop_eq_getElem_cons h]; simp only [dpL]
end Go.Proofs.YtpcihajmcejliabGreatDoor
namespace Go.Proofs.YtpcihajmcejliabGreatDoor
open Go.RowKit
namespace synr
open synw
set_option maxRecDepth 100000 in
set_option maxHeartbeats 4000000 in
theorem manyg_any : ∀ (x : Nd) (v : Value) (w : World) (most : Nat) (H : Nat → Bool), NgAt (hide H w) x v → most ≤ 500 →
  Calls Tryz.prog 163 #[v, .int .i64 (most : Nat)] w fun e w' => e = .returned (.int .i64 (min (szF x) (most + 1) : Nat)) ∧ Ext w w' := by
 refine nd_ind fun k t n l ih v w most H hx hmo => ?_
 rw [ngAt_mk] at hx; obtain ⟨a, cc, rfl, hx1, hx2, hx3, hx4⟩ := hx; obtain ⟨N, hN⟩ : ∃ N, l.length = N := ⟨_, rfl⟩; have hNm : N ≤ 9223372036854775807 := by unfold maxLen at hx2; omega
 have HN := Z_ hN; rw [hN]; have HIH := Z_ ih; have HI := Z_ (fun (u : World) (hE : Ext w u) => hx4.keeps (keeps_chg hE fun i _ e => e.elim) fun b o y => ngIn_keeps (keeps_chg hE fun i _ e => e.elim) b o y); obtain ⟨R, hR⟩ : ∃ R, min (szF (.mk k t n l)) (most + 1) = R := ⟨_, rfl⟩; rw [hR]; have HR := Z_ hR; have hK := (Blk.made w #[.int .i64 k, .string t, .int .i64 n, .slice a N cc] 66).cell; have hE1 := (Chg.refl (fun _ => False) w).alloc (.cells #[.int .i64 k, .string t, .int .i64 n, .slice a N cc] 66); have HK := Z_ (Blk.made w #[.int .i64 k, .string t, .int .i64 n, .slice a N cc] 66); have HE1 := Z_ hE1; obtain ⟨P, hP⟩ : ∃ P, w.heap.size = P := ⟨_, rfl⟩; rw [hP] at HK; clear hR hx4 hN ih hE1 hK; go_enter Tryz.func163, Tryz.ntmps163
 go_upto_region 1 with (fail)
 generalize w.alloc (.cells #[.int .i64 k, .string t, .int .i64 n, .slice a N cc] 66) = w1 at *; go_wp2_with fail
 go_loopw [5, 6] (fun kk i wr => ∃ q m : Nat, q ≤ N ∧ kk = .int .i64 m ∧ i = .int .i64 q ∧ m ≤ most + 1 ∧ Hid (min (m + szL (l.drop q)) (most + 1) = R) ∧ Hid (Ext w wr) ∧ Hid (Blk wr P #[.int .i64 k, .string t, .int .i64 n, .slice a N cc] 66)) (fun _ i _ => N - (intOf i).toNat)
 case atStart => exact ⟨0, 1, Nat.zero_le _, rfl, rfl, by omega, by have := HR.out; simp only [szF] at this; rw [List.drop_zero, Nat.add_comm]; exact this, HE1, HK⟩
 clear HE1 HK
 case round =>
  obtain ⟨q, m, hq, rfl, rfl, hm, hr, HE, HK⟩ := hrel; have hc := HK.out.cell; by_cases hlt : q < N
  ·have hql : q < l.length := by rw [HN.out]; exact hlt
   have hqi : (q : Int) < (N : Int) := by omega
   have hqd : decide ((q : Int) < (N : Int)) = true := by simpa using hqi
   by_cases hmm : m ≤ most
   ·have hmi : decide ((m : Int) ≤ (most : Int)) = true := by simp; omega
    obtain ⟨b, o, rfl, hb, u, hu, hus, hcl⟩ := HI.out wr HE.out q hql; obtain ⟨k1, t1, n1, a1, l1, c1, rfl⟩ := ng_form hu; have q0 : wr.cell? ⟨b, o + q * 4, none⟩ = some (.int .i64 k1) := (keeps_bare H wr).2 _ _ ((hcl 0 (by decide)).trans rfl); have q1 : wr.cell? ⟨b, o + q * 4 + 1, none⟩ = some (.string t1) := (keeps_bare H wr).2 _ _ ((hcl 1 (by decide)).trans rfl); have q2 : wr.cell? ⟨b, o + q * 4 + 2, none⟩ = some (.int .i64 n1) := (keeps_bare H wr).2 _ _ ((hcl 2 (by decide)).trans rfl); have q3 : wr.cell? ⟨b, o + q * 4 + 3, none⟩ = some (.slice a1 l1 c1) := (keeps_bare H wr).2 _ _ ((hcl 3 (by decide)).trans rfl); have hsw : IntKind.i64.wrap ((most : Int) - (m : Int)) = ((most - m : Nat) : Int) := by rw [wrap_small _ (by omega) (by omega)]; omega
    have hsw2 : wrap64 ((most : Int) - (m : Int)) = ((most - m : Nat) : Int) := by unfold wrap64; omega
    have HC := Z_ (HIH.out l[q] (List.getElem_mem hql) _ wr (most - m) H hu (by omega)); have hr2 := hr.out; rw [szL_drop hql] at hr2; obtain ⟨z, hz⟩ : ∃ z, szF l[q] = z := ⟨_, rfl⟩; rw [hz] at hr2 HC; have hpw : IntKind.i64.wrap ((m : Int) + ((min z (most - m + 1) : Nat) : Int)) = ((m + min z (most - m + 1) : Nat) : Int) := by rw [wrap_small _ (by omega) (by omega)]; omega
    have HR3 := Z_ hr2; clear hr hr2 hcl hu hz; go_wp2_with fail
    refine HC.out.mono ?_
    rintro e w5 ⟨rfl, hE5⟩; have HE5 := Z_ (HE.out.ext hE5); have HK5 := Z_ (HK.out.ext hE5); clear hE5 HC HE HK q0 q1 q2 q3 hc; go_wp2_with fail
    go_roundw
    case rel => exact ⟨q + 1, m + min z (most - m + 1), by omega, by first | rfl | simp [hpw], by go_num, by omega, by have := HR3.out; show min (_ + szL (l.drop (q + 1))) (most + 1) = R; omega, HE5, HK5⟩
    case measure => simp [intOf]; omega
   ·have hmi : decide ((m : Int) ≤ (most : Int)) = false := by simp; omega
    have hT := Z_ (show R = m by have := hr.out; omega); clear hr; go_wp2_with fail
    go_ret
    refine ⟨?_, HE.out⟩; have e := hT.out; subst e; first | rfl | simp
  ·obtain rfl : q = N := by omega
   have hqd : decide ((q : Int) < (q : Int)) = false := by simp
   have hT := Z_ (show R = m by have := hr.out; rw [List.drop_of_length_le (by rw [HN.out]; exact Nat.le_refl _)] at this; simp only [szL] at this; omega); clear hr; go_wp2_with fail
   go_ret
   refine ⟨?_, HE.out⟩; have e := hT.out; subst e; first | rfl | simp
set_option maxRecDepth 100000 in
set_option maxHeartbeats 4000000 in
theorem deepg_any : ∀ (x : Nd) (v : Value) (w : World) (most : Nat) (H : Nat → Bool), NgAt (hide H w) x v → most ≤ 500 →
  Calls Tryz.prog 164 #[v, .int .i64 (most : Nat)] w fun e w' => e = .returned (.int .i64 (min (dpF x) (most + 1) : Nat)) ∧ Ext w w' := by
 refine nd_ind fun k t n l ih v w most H hx hmo => ?_
 rw [ngAt_mk] at hx; obtain ⟨a, cc, rfl, hx1, hx2, hx3, hx4⟩ := hx; obtain ⟨N, hN⟩ : ∃ N, l.length = N := ⟨_, rfl⟩; have hNm : N ≤ 9223372036854775807 := by unfold maxLen at hx2; omega
 have HN := Z_ hN; rw [hN]; have HIH := Z_ ih; have HI := Z_ (fun (u : World) (hE : Ext w u) => hx4.keeps (keeps_chg hE fun i _ e => e.elim) fun b o y => ngIn_keeps (keeps_chg hE fun i _ e => e.elim) b o y); obtain ⟨R, hR⟩ : ∃ R, min (dpF (.mk k t n l)) (most + 1) = R := ⟨_, rfl⟩; rw [hR]; have HR := Z_ hR; have hK := (Blk.made w #[.int .i64 k, .string t, .int .i64 n, .slice a N cc] 66).cell; have hE1 := (Chg.refl (fun _ => False) w).alloc (.cells #[.int .i64 k, .string t, .int .i64 n, .slice a N cc] 66); have HK := Z_ (Blk.made w #[.int .i64 k, .string t, .int .i64 n, .slice a N cc] 66); have HE1 := Z_ hE1; obtain ⟨P, hP⟩ : ∃ P, w.heap.size = P := ⟨_, rfl⟩; rw [hP] at HK; clear hR hx4 hN ih hE1 hK; go_enter Tryz.func164, Tryz.ntmps164
 go_upto_region 1 with (fail)
 generalize w.alloc (.cells #[.int .i64 k, .string t, .int .i64 n, .slice a N cc] 66) = w1 at *; go_wp2_with fail
 go_loopw [5, 6] (fun kk i wr => ∃ q m : Nat, q ≤ N ∧ kk = .int .i64 m ∧ i = .int .i64 q ∧ m ≤ most ∧ Hid (max m (min (dpL (l.drop q)) most) + 1 = R) ∧ Hid (Ext w wr) ∧ Hid (Blk wr P #[.int .i64 k, .string t, .int .i64 n, .slice a N cc] 66)) (fun _ i _ => N - (intOf i).toNat)
 case atStart => exact ⟨0, 0, Nat.zero_le _, rfl, rfl, by omega, by have := HR.out; simp only [dpF] at this; show max 0 (min (dpL (l.drop 0)) most) + 1 = R; rw [List.drop_zero]; omega, HE1, HK⟩
 clear HE1 HK
 case round =>
  obtain ⟨q, m, hq, rfl, rfl, hm, hr, HE, HK⟩ := hrel; have hc := HK.out.cell; by_cases hlt : q < N
  ·have hql : q < l.length := by rw [HN.out]; exact hlt
   have hqi : (q : Int) < (N : Int) := by omega
   have hqd : decide ((q : Int) < (N : Int)) = true := by simpa using hqi
   by_cases hmm : 0 < most
   ·have hmi : decide ((m : Int) ≤ (most : Int)) = true := by simp; omega
    have hm0 : decide ((0 : Int) < (most : Int)) = true := by simp; omega
    obtain ⟨b, o, rfl, hb, u, hu, hus, hcl⟩ := HI.out wr HE.out q hql; obtain ⟨k1, t1, n1, a1, l1, c1, rfl⟩ := ng_form hu; have q0 : wr.cell? ⟨b, o + q * 4, none⟩ = some (.int .i64 k1) := (keeps_bare H wr).2 _ _ ((hcl 0 (by decide)).trans rfl); have q1 : wr.cell? ⟨b, o + q * 4 + 1, none⟩ = some (.string t1) := (keeps_bare H wr).2 _ _ ((hcl 1 (by decide)).trans rfl); have q2 : wr.cell? ⟨b, o + q * 4 + 2, none⟩ = some (.int .i64 n1) := (keeps_bare H wr).2 _ _ ((hcl 2 (by decide)).trans rfl); have q3 : wr.cell? ⟨b, o + q * 4 + 3, none⟩ = some (.slice a1 l1 c1) := (keeps_bare H wr).2 _ _ ((hcl 3 (by decide)).trans rfl); have hsw : IntKind.i64.wrap ((most : Int) - 1) = ((most - 1 : Nat) : Int) := by rw [wrap_small _ (by omega) (by omega)]; omega
    have hsw2 : wrap64 ((most : Int) - 1) = ((most - 1 : Nat) : Int) := by unfold wrap64; omega
    have HC := Z_ (HIH.out l[q] (List.getElem_mem hql) _ wr (most - 1) H hu (by omega)); have hr2 := hr.out; rw [dpL_drop hql] at hr2; obtain ⟨z, hz⟩ : ∃ z, dpF l[q] = z := ⟨_, rfl⟩; rw [hz] at hr2 HC; have hpw : min z (most - 1 + 1) = min z most := by omega
    rw [hpw] at HC; obtain ⟨y, hy⟩ : ∃ y, min z most = y := ⟨_, rfl⟩; rw [hy] at HC; have HY := Z_ hy; clear hpw hy; have HR3 := Z_ hr2; clear hr hr2 hcl hu hz; go_wp2_with fail
    refine HC.out.mono ?_
    rintro e w5 ⟨rfl, hE5⟩; have HE5 := Z_ (HE.out.ext hE5); have HK5 := Z_ (HK.out.ext hE5); clear hE5 HC HE HK q0 q1 q2 q3 hc; go_wp2_with fail
    go_roundw
    case rel => exact ⟨q + 1, max m y, by omega, congrArg (Value.int .i64) (by omega), by go_num, by have := HY.out; omega, by have := HR3.out; have := HY.out; show max (max m y) (min (dpL (l.drop (q + 1))) most) + 1 = R; omega, HE5, HK5⟩
    case measure => simp [intOf]; omega
   ·have hm0 : decide ((0 : Int) < (most : Int)) = false := by simp; omega
    have hT := Z_ (show R = m + 1 by have := hr.out; omega); clear hr; go_wp2_with fail
    go_ret
    refine ⟨?_, HE.out⟩; have e := hT.out; subst e; first | rfl | simp
  ·obtain rfl : q = N := by omega
   have hqd : decide ((q : Int) < (q : Int)) = false := by simp
   have hT := Z_ (show R = m + 1 by have := hr.out; rw [List.drop_of_length_le (by rw [HN.out]; exact Nat.le_refl _)] at this; simp only [dpL] at this; omega); clear hr; go_wp2_with fail
   go_ret
   refine ⟨?_, HE.out⟩; have e := hT.out; subst e; first | rfl | simp
set_option maxRecDepth 100000 in
set_option maxHeartbeats 4000000 in
theorem fitsg_any {x : Nd} {v : Value} {w : World} {H : Nat → Bool} (hx : NgAt (hide H w) x v) :
  Calls Tryz.prog 92 #[v] w fun e w' => e = .returned (.bool (weighF 16 x 0).1) ∧ Ext w w' := by
 obtain ⟨k, t, n, a, c, cc, rfl⟩ := ng_form hx; have hE1 := (Chg.refl (fun _ => False) w).alloc (.cells #[.int .i64 k, .string t, .int .i64 n, .slice a c cc] 66); have HK := Z_ (Blk.made w #[.int .i64 k, .string t, .int .i64 n, .slice a c cc] 66); have HX := Z_ (fun (u : World) (hE : Ext w u) => ngAt_keeps (keeps_chg (M := H) hE fun i _ e => e.elim) _ _ hx); obtain ⟨P, hP⟩ : ∃ P, w.heap.size = P := ⟨_, rfl⟩; rw [hP] at HK; have hlaw := (weigh_law 16 x 0 (by omega)).1; rw [Nat.zero_add] at hlaw; have HLA := Z_ hlaw; have HE1 := Z_ hE1; have hmo := manyg_any x _ _ 500 H (HX.out _ hE1) (by omega); obtain ⟨R, hR⟩ : ∃ R, (weighF 16 x 0).1 = R := ⟨_, rfl⟩; rw [hR]; have HR := Z_ hR; have HM := Z_ hmo; clear hR hmo hlaw hx hE1; go_enter Tryz.func92, Tryz.ntmps92
 go_upto_region 1 with (fail)
 generalize w.alloc (.cells #[.int .i64 k, .string t, .int .i64 n, .slice a c cc] 66) = w1 at *; have hc := HK.out.cell; obtain ⟨y, hy⟩ : ∃ y, min (szF x) (500 + 1) = y := ⟨_, rfl⟩; rw [hy] at HM; have HY := Z_ hy; clear hy; go_wp2_with fail
 refine HM.out.mono ?_
 rintro e w2 ⟨rfl, hE2⟩; have HE2 := Z_ (HE1.out.ext hE2); have hc2 := (HK.out.ext hE2).cell; clear hE2 hc HM HE1; by_cases h5 : y ≤ 500
 ·have hg2 : ¬ ((y : Int) > 500) := by omega
  have hg3 : decide ((500 : Int) < (y : Int)) = false := by simp; omega
  have hd := deepg_any x _ w2 16 H (HX.out _ HE2.out) (by omega); obtain ⟨d, hdd⟩ : ∃ d, min (dpF x) (16 + 1) = d := ⟨_, rfl⟩; rw [hdd] at hd; have HD := Z_ hd
  have hT : decide ((d : Int) ≤ 16) = R := by
   rw [← HR.out]; have := HY.out; cases h : (weighF 16 x 0).1 with
   | true => have := HLA.out.1 h; simp; omega
   | false =>
    have : ¬ (dpF x ≤ 16 ∧ szF x ≤ 500) := fun q => by rw [HLA.out.2 q] at h; cases h
    simp; omega
  have HT := Z_ hT; clear hd hdd hT; go_wp2_with fail
  refine HD.out.mono ?_
  rintro e w3 ⟨rfl, hE3⟩; have HE3 := Z_ (HE2.out.ext hE3); clear hE3 HD; go_wp2_with fail
  go_ret
  exact ⟨by first | exact ret_bool HT.out | (rw [← HT.out]; first | rfl | simp), HE3.out⟩
 ·have hg2 : (y : Int) > 500 := by omega
  have hg3 : decide ((500 : Int) < (y : Int)) = true := by simp; omega
  have hT : R = false := by
   rw [← HR.out]; have := HY.out; cases h : (weighF 16 x 0).1 with
   | true => have := HLA.out.1 h; omega
   | false => rfl
  have HT := Z_ hT; clear hT; go_wp2_with fail
  go_ret
  exact ⟨ret_bool HT.out.symm, HE2.out⟩
end synr
end Go.Proofs.YtpcihajmcejliabGreatDoor
namespace Go.Proofs.YtpcihajmcejliabGreatDoor
open Go.RowKit
def Nd.kd : Nd → Int
 | .mk k _ _ _ => k
def Nd.tx : Nd → ByteArray
 | .mk _ t _ _ => t
def Nd.nm : Nd → Int
 | .mk _ _ m _ => m
namespace ofm

end ofm
end Go.Proofs.YtpcihajmcejliabGreatDoor
namespace Go.Proofs.YtpcihajmcejliabGreatDoor
open Go.RowKit
namespace synw
set_option maxRecDepth 100000 in
set_option maxHeartbeats 4000000 in
theorem op_any (s : ByteArray) (w : World) : Calls Tryz.prog 291 #[.string s] w fun e w' => e = .returned (.tuple #[.int .i64 (opOf s).1, .int .i64 (opOf s).2]) ∧ w = w' := by
 by_cases h0 : s = ⟨#[61, 61]⟩
 ·subst h0
  go_enter Tryz.func291, Tryz.ntmps291
  go_wp2_with fail
  go_ret2
  exact ⟨rfl, rfl⟩
 by_cases h1 : s = ⟨#[60]⟩
 ·subst h1
  go_enter Tryz.func291, Tryz.ntmps291
  go_wp2_with fail
  go_ret2
  exact ⟨rfl, rfl⟩
 by_cases h2 : s = ⟨#[43]⟩
 ·subst h2
  go_enter Tryz.func291, Tryz.ntmps291
  go_wp2_with fail
  go_ret2
  exact ⟨rfl, rfl⟩
 by_cases h3 : s = ⟨#[45]⟩
 ·subst h3
  go_enter Tryz.func291, Tryz.ntmps291
  go_wp2_with fail
  go_ret2
  exact ⟨rfl, rfl⟩
 by_cases h4 : s = ⟨#[124]⟩
 ·subst h4
  go_enter Tryz.func291, Tryz.ntmps291
  go_wp2_with fail
  go_ret2
  exact ⟨rfl, rfl⟩
 by_cases h5 : s = ⟨#[42]⟩
 ·subst h5
  go_enter Tryz.func291, Tryz.ntmps291
  go_wp2_with fail
  go_ret2
  exact ⟨rfl, rfl⟩
 by_cases h6 : s = ⟨#[47]⟩
 ·subst h6
  go_enter Tryz.func291, Tryz.ntmps291
  go_wp2_with fail
  go_ret2
  exact ⟨rfl, rfl⟩
 by_cases h7 : s = ⟨#[37]⟩
 ·subst h7
  go_enter Tryz.func291, Tryz.ntmps291
  go_wp2_with fail
  go_ret2
  exact ⟨rfl, rfl⟩
 by_cases h8 : s = ⟨#[38]⟩
 ·subst h8
  go_enter Tryz.func291, Tryz.ntmps291
  go_wp2_with fail
  go_ret2
  exact ⟨rfl, rfl⟩
 have g0 : (s.toList == [61, 61]) = false := by
  have := str_eq (a := s) (b := ⟨#[61, 61]⟩); rw [show ((⟨#[61, 61]⟩ : ByteArray).toList) = [61, 61] by rw [ByteArray.toList_eq]] at this; rw [this]; simpa using h0
 have g1 : (s.toList == [60]) = false := by
  have := str_eq (a := s) (b := ⟨#[60]⟩); rw [show ((⟨#[60]⟩ : ByteArray).toList) = [60] by rw [ByteArray.toList_eq]] at this; rw [this]; simpa using h1
 have g2 : (s.toList == [43]) = false := by
  have := str_eq (a := s) (b := ⟨#[43]⟩); rw [show ((⟨#[43]⟩ : ByteArray).toList) = [43] by rw [ByteArray.toList_eq]] at this; rw [this]; simpa using h2
 have g3 : (s.toList == [45]) = false := by
  have := str_eq (a := s) (b := ⟨#[45]⟩); rw [show ((⟨#[45]⟩ : ByteArray).toList) = [45] by rw [ByteArray.toList_eq]] at this; rw [this]; simpa using h3
 have g4 : (s.toList == [124]) = false := by
  have := str_eq (a := s) (b := ⟨#[124]⟩); rw [show ((⟨#[124]⟩ : ByteArray).toList) = [124] by rw [ByteArray.toList_eq]] at this; rw [this]; simpa using h4
 have g5 : (s.toList == [42]) = false := by
  have := str_eq (a := s) (b := ⟨#[42]⟩); rw [show ((⟨#[42]⟩ : ByteArray).toList) = [42] by rw [ByteArray.toList_eq]] at this; rw [this]; simpa using h5
 have g6 : (s.toList == [47]) = false := by
  have := str_eq (a := s) (b := ⟨#[47]⟩); rw [show ((⟨#[47]⟩ : ByteArray).toList) = [47] by rw [ByteArray.toList_eq]] at this; rw [this]; simpa using h6
 have g7 : (s.toList == [37]) = false := by
  have := str_eq (a := s) (b := ⟨#[37]⟩); rw [show ((⟨#[37]⟩ : ByteArray).toList) = [37] by rw [ByteArray.toList_eq]] at this; rw [this]; simpa using h7
 have g8 : (s.toList == [38]) = false := by
  have := str_eq (a := s) (b := ⟨#[38]⟩); rw [show ((⟨#[38]⟩ : ByteArray).toList) = [38] by rw [ByteArray.toList_eq]] at this; rw [this]; simpa using h8
 have hT : opOf s = (0, -1) := by simp only [opOf, if_neg h0, if_neg h1, if_neg h2, if_neg h3, if_neg h4, if_neg h5, if_neg h6, if_neg h7, if_neg h8]
 rw [hT]; clear hT h0 h1 h2 h3 h4 h5 h6 h7 h8; go_enter Tryz.func291, Tryz.ntmps291
 go_wp2_with fail
 go_ret2
 exact ⟨rfl, rfl⟩
end synw
end Go.Proofs.YtpcihajmcejliabGreatDoor
namespace Go.Proofs.YtpcihajmcejliabGreatDoor
open Go.RowKit
def zeroN : Nd := .mk 0 noText 0 []
namespace synw
end synw
end Go.Proofs.YtpcihajmcejliabGreatDoor
