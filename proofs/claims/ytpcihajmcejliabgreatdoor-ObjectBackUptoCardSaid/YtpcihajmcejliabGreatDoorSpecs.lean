/- A region that draws its order, by what each of its operations comes to: whatever order is drawn, no order is walked. Every operation leaves what was there. -/
import Derived.Test.YtpcihajmcejliabGreatDoorFrame
import Derived.Deep.RegionHeld
namespace Go.Proofs.YtpcihajmcejliabGreatDoor
open Go.RowKit
/-- what an operation comes to: a value; or a new row of cells -/
inductive Comes where
  | val (v : Value)
  | row (cs : List Value) (n : Nat) (T : TypeId)
def Comes.holds : Comes → Value → World → Prop
  | .val v, u, _ => u = v
  | .row cs n T, u, w => ∃ g, u = .slice (some ⟨g, 0, none⟩) n n ∧ Blk w g cs.toArray T
theorem Comes.mono {c : Comes} {u : Value} {w w' : World} (h : c.holds u w) (hE : Ext w w') : c.holds u w' := by
  cases c with
  | val v => exact h
  | row cs n T => obtain ⟨g, e, hb⟩ := h; exact ⟨g, e, hb.ext hE⟩
namespace specs
def dstAt (ops : Array Oper) (i : Nat) : Nat := match ops[i]? with | some o => o.dst.getD 0 | none => 0
def waitsB (o : Oper) (j : Nat) : Bool := o.after.any fun e => Region.binds .any e && e.on == j
def upTo (x : Nat → Value) (t : Nat) (v : Value) : Nat → Value := fun k => if k = t then v else x k
/-- each operation fills a slot of its own, and waits for earlier ones alone -/
def okB (ops : Array Oper) : Bool :=
  (List.range ops.size).all fun i => (match ops[i]? with | some o => o.dst.isSome && o.after.all (fun e => decide (e.on < i)) | none => false) && (List.range i).all fun j => dstAt ops i != dstAt ops j
def unl (l : Array Bool) : Nat → Nat
  | 0 => 0
  | n + 1 => unl l n + if l.getD n false = true then 0 else 1
theorem unl_set {l : Array Bool} {i : Nat} (hi : i < l.size) (h : l.getD i false = false) : ∀ n, i < n → unl (l.setIfInBounds i true) n + 1 = unl l n := by
  intro n
  induction n with
  | zero => intro h; omega
  | succ n ih =>
    intro hn
    have hlo : ∀ m, m ≤ i → unl (l.setIfInBounds i true) m = unl l m := by
      intro m
      induction m with
      | zero => intro _; rfl
      | succ m ihm =>
        intro hm
        rw [unl, unl, ihm (by omega), getD_set_ne false (by omega)]
    rw [unl, unl]
    by_cases e : i = n
    · subst e
      rw [hlo i (Nat.le_refl _), if_pos (by simp [hi]), h]
      simp
    · rw [getD_set_ne false e]
      have := ih (by omega)
      omega
theorem unl_zero {l : Array Bool} : ∀ n, unl l n = 0 → ∀ i, i < n → l.getD i false = true := by
  intro n
  induction n with
  | zero => intro _ i hi; omega
  | succ n ih =>
    intro h i hi
    rw [unl] at h
    by_cases e : i = n
    · subst e
      by_cases hb : l.getD i false = true
      · exact hb
      · rw [if_neg hb] at h; omega
    · exact ih (by omega) i (by omega)
theorem unl_all (n m : Nat) (h : n ≤ m) : unl (Array.replicate m false) n = n := by
  induction n with
  | zero => rfl
  | succ n ih => rw [unl, ih (by omega), getD_replicate_false, if_neg (by simp)]
theorem ok_at {ops : Array Oper} (h : okB ops = true) {i : Nat} {o : Oper} (ho : ops[i]? = some o) : o.dst = some (dstAt ops i) ∧ (∀ e ∈ o.after, e.on < i) ∧ ∀ j, j < i → dstAt ops i ≠ dstAt ops j := by
  have hi := (Array.getElem?_eq_some_iff.1 ho).1
  have h1 := List.all_eq_true.1 h i (List.mem_range.2 hi)
  rw [ho] at h1
  simp only [Bool.and_eq_true, List.all_eq_true, List.mem_range, bne_iff_ne, Array.all_eq_true_iff_forall_mem, decide_eq_true_eq] at h1
  refine ⟨?_, h1.1.2, h1.2⟩
  obtain ⟨t, ht⟩ := Option.isSome_iff_exists.1 h1.1.1
  have : dstAt ops i = t := by unfold dstAt; rw [ho]; simp [ht]
  rw [this, ht]
theorem dst_ne {ops : Array Oper} (h : okB ops = true) {i j : Nat} (hi : i < ops.size) (hj : j < ops.size) (hne : i ≠ j) : dstAt ops i ≠ dstAt ops j := by
  rcases Nat.lt_or_gt_of_ne hne with h' | h'
  · exact fun e => (ok_at h (Array.getElem?_eq_getElem hj)).2.2 i h' e.symm
  · exact (ok_at h (Array.getElem?_eq_getElem hi)).2.2 j h'
/-- the frame with some slots filled anew -/
def fill (ops : Array Oper) (T : Array Value) (x : Nat → Value) : Nat → Array Value
  | 0 => T
  | n + 1 => (fill ops T x n).setIfInBounds (dstAt ops n) (x (dstAt ops n))
theorem fill_size (ops : Array Oper) (T : Array Value) (x : Nat → Value) (n : Nat) : (fill ops T x n).size = T.size := by
  induction n with
  | zero => rfl
  | succ n ih => rw [fill, Array.size_setIfInBounds, ih]
theorem fill_at (ops : Array Oper) (T : Array Value) (x : Nat → Value) (n k : Nat) : (fill ops T x n)[k]? = if (∃ i, i < n ∧ dstAt ops i = k) ∧ k < T.size then some (x k) else T[k]? := by
  induction n with
  | zero => rw [fill, if_neg (by rintro ⟨⟨i, hi, _⟩, _⟩; omega)]
  | succ n ih =>
    rw [fill, Array.getElem?_setIfInBounds, ih, fill_size]
    by_cases e : dstAt ops n = k
    · rw [if_pos e]
      by_cases hk : k < T.size
      · rw [if_pos (by omega), if_pos ⟨⟨n, by omega, e⟩, hk⟩, e]
      · rw [if_neg (by omega), if_neg (fun h => hk h.2), Array.getElem?_eq_none (by omega)]
    · rw [if_neg e]
      by_cases hc : (∃ i, i < n ∧ dstAt ops i = k) ∧ k < T.size
      · rw [if_pos hc]
        obtain ⟨⟨i, hi, e'⟩, hk⟩ := hc
        rw [if_pos ⟨⟨i, by omega, e'⟩, hk⟩]
      · rw [if_neg hc, if_neg]
        rintro ⟨⟨i, hi, e'⟩, hk⟩
        rcases Nat.lt_or_ge i n with h | h
        · exact hc ⟨⟨i, h, e'⟩, hk⟩
        · obtain rfl : i = n := by omega
          exact e e'
theorem fill_put (ops : Array Oper) (T : Array Value) (x : Nat → Value) (n i : Nat) (hi : i < n) (v : Value) : (fill ops T x n).setIfInBounds (dstAt ops i) v = fill ops T (upTo x (dstAt ops i) v) n := by
  refine Array.ext_getElem? fun k => ?_
  rw [Array.getElem?_setIfInBounds, fill_at, fill_at, fill_size]
  by_cases e : dstAt ops i = k
  · subst e
    rw [if_pos rfl]
    by_cases hk : dstAt ops i < T.size
    · rw [if_pos hk, if_pos ⟨⟨i, hi, rfl⟩, hk⟩]
      unfold upTo
      rw [if_pos rfl]
    · rw [if_neg hk, if_neg (fun h => hk h.2), Array.getElem?_eq_none (by omega)]
  · rw [if_neg e]
    have : upTo x (dstAt ops i) v k = x k := by unfold upTo; rw [if_neg (fun h => e h.symm)]
    rw [this]
theorem fill_self (ops : Array Oper) (T : Array Value) (n : Nat) : fill ops T (fun k => T.getD k undef) n = T := by
  refine Array.ext_getElem? fun k => ?_
  rw [fill_at]
  split
  · rename_i h
    rw [Array.getElem?_eq_getElem h.2]
    simp [h.2]
  · rfl
def frameOf (ops : Array Oper) (a : Act) (x : Nat → Value) : Act := { a with tmps := fill ops a.tmps x ops.size }
theorem frame_put {ops : Array Oper} (hB : okB ops = true) (a : Act) (x : Nat → Value) {i : Nat} {o : Oper} (ho : ops[i]? = some o) (v : Value) : (frameOf ops a x).put o.dst v = frameOf ops a (upTo x (dstAt ops i) v) := by
  rw [(ok_at hB ho).1]
  unfold frameOf Act.put
  simp only
  rw [fill_put _ _ _ _ _ (Array.getElem?_eq_some_iff.1 ho).1]
structure Inv (ops : Array Oper) (Sp : Nat → Comes) (x0 : Nat → Value) (w0 : World) (l : Array Bool) (x : Nat → Value) (w : World) : Prop where
  size : l.size = ops.size
  ext : Ext w0 w
  closed : ∀ j o, ops[j]? = some o → l.getD j false = true → ∀ e ∈ o.after, Region.binds .any e = true → l.getD e.on false = true
  yes : ∀ i, i < ops.size → l.getD i false = true → (Sp i).holds (x (dstAt ops i)) w
  no : ∀ i, i < ops.size → l.getD i false = false → x (dstAt ops i) = x0 (dstAt ops i)
theorem any_ready {ops : Array Oper} {l : Array Bool} (hB : okB ops = true) (hs : l.size = ops.size) : ∀ d i, i = d → i < ops.size → l.getD i false = false → ∃ j, j ∈ Region.ready .any ops l := by
  intro d
  induction d using Nat.strongRecOn with
  | _ d ih =>
    intro i hd hi hun
    have ho := Array.getElem?_eq_getElem hi
    by_cases hall : ∀ e ∈ ops[i].after, Region.binds .any e = true → l.getD e.on false = true
    · have hil : i < l.size := by omega
      have hun2 : l.getD i true = false := by simp [hil] at hun ⊢; exact hun
      exact ⟨i, mem_ready.2 ⟨hun2, ops[i], ho, hall⟩⟩
    · simp only [Classical.not_forall] at hall
      obtain ⟨e, he, -, hl⟩ := hall
      have hlt := (ok_at hB ho).2.1 e he
      exact ih e.on (by omega) e.on rfl (by omega) (by simpa using hl)
theorem run {P : Program} {ops : Array Oper} {Q : Exit → Act → World → Prop} {a : Act} {w0 : World} (Sp : Nat → Comes) (x0 : Nat → Value) (hB : okB ops = true)
    (step : ∀ i o, ops[i]? = some o → ∀ x w1, Ext w0 w1 → (∀ j, j < ops.size → waitsB o j = true → (Sp j).holds (x (dstAt ops j)) w1) → (∀ j oj, ops[j]? = some oj → waitsB oj i = true → x (dstAt ops j) = x0 (dstAt ops j)) →
      ∀ K : Act → World → Prop, Shut (∀ a' w' v, a' = (frameOf ops a x).put o.dst v → (Sp i).holds v w' → Ext w1 w' → K a' w') → if Region.wanted o (yielded ops (frameOf ops a x).tmps) = true then Oper.wp P o (frameOf ops a x) w1 K Q else K ((frameOf ops a x).put o.dst undef) w1)
    (fin : ∀ x w1, Ext w0 w1 → (∀ i, i < ops.size → (Sp i).holds (x (dstAt ops i)) w1) → Q .normal (frameOf ops a x) w1) :
    ∀ (fuel : Nat) (l : Array Bool) (x : Nat → Value) (w : World), unl l ops.size = fuel → Inv ops Sp x0 w0 l x w → wpAny P .any ops Q fuel l (frameOf ops a x) w := by
  intro fuel
  induction fuel with
  | zero =>
    intro l x w hu hI
    have hall := unl_zero _ hu
    refine ⟨?_, fin x w hI.ext fun i hi => hI.yes i hi (hall i hi)⟩
    rw [List.eq_nil_iff_forall_not_mem]
    intro j hj
    obtain ⟨h1, o, ho, -⟩ := mem_ready.1 hj
    have hj' := (Array.getElem?_eq_some_iff.1 ho).1
    have h2 := hall j hj'
    have hjl : j < l.size := by rw [hI.size]; exact hj'
    simp [hjl] at h1 h2
    rw [h1] at h2
    cases h2
  | succ fuel ih =>
    intro l x w hu hI
    refine ⟨fun h0 => ?_, fun i hi => ?_⟩
    · exfalso
      have : ∃ i, i < ops.size ∧ l.getD i false = false := by
        by_cases hc : ∃ i, i < ops.size ∧ l.getD i false = false
        · exact hc
        · exfalso
          have hz : ∀ n, n ≤ ops.size → unl l n = 0 := by
            intro n
            induction n with
            | zero => intro _; rfl
            | succ n ihn =>
              intro hn
              rw [unl, ihn (by omega), if_pos]
              cases hb : l.getD n false
              · exact absurd ⟨n, by omega, hb⟩ hc
              · rfl
          rw [hz _ (Nat.le_refl _)] at hu
          omega
      obtain ⟨i, hi, hb⟩ := this
      obtain ⟨j, hj⟩ := any_ready hB hI.size i i rfl hi hb
      rw [h0] at hj
      cases hj
    · obtain ⟨h1, o, ho, hall⟩ := mem_ready.1 hi
      have hio := (Array.getElem?_eq_some_iff.1 ho).1
      have hil : i < l.size := by rw [hI.size]; exact hio
      have h1' : l.getD i false = false := by simp [hil] at h1 ⊢; exact h1
      refine wpOp_step ho fun K hK => ?_
      refine step i o ho x w hI.ext (fun j hj hw => ?_) (fun j oj hoj hw => ?_) K (fun a' w' v ha' hv hE => hK a' w' ?_)
      · obtain ⟨e, he, hb⟩ := Array.any_eq_true'.1 hw
        simp only [Bool.and_eq_true, beq_iff_eq] at hb
        exact hI.yes j hj (by rw [← hb.2]; exact hall e he hb.1)
      · have hj := (Array.getElem?_eq_some_iff.1 hoj).1
        refine hI.no j hj ?_
        cases hb : l.getD j false
        · rfl
        · obtain ⟨e, he, hb2⟩ := Array.any_eq_true'.1 hw
          simp only [Bool.and_eq_true, beq_iff_eq] at hb2
          have := hI.closed j oj hoj hb e he hb2.1
          rw [hb2.2, h1'] at this
          cases this
      · subst ha'
        rw [frame_put hB a x ho]
        have hne : ∀ j, j < ops.size → j ≠ i → dstAt ops j ≠ dstAt ops i := fun j hj hne => dst_ne hB hj hio hne
        refine ih _ _ _ (by have := unl_set hil h1' ops.size hio; omega) ⟨by simp [hI.size], hI.ext.then hE, fun j oj hoj hl e he hb => ?_, fun j hj hl => ?_, fun j hj hl => ?_⟩
        · by_cases e' : i = j
          · subst e'
            obtain rfl : oj = o := Option.some.inj (hoj.symm.trans ho)
            exact getD_set_true (hall e he hb)
          · rw [getD_set_ne false e'] at hl
            exact getD_set_true (hI.closed j oj hoj hl e he hb)
        · unfold upTo
          by_cases e' : j = i
          · subst e'
            rw [if_pos rfl]
            exact hv
          · rw [if_neg (hne j hj e')]
            rw [getD_set_ne false (Ne.symm e')] at hl
            exact Comes.mono (hI.yes j hj hl) hE
        · unfold upTo
          by_cases e' : j = i
          · subst e'
            simp [hil] at hl
          · rw [if_neg (hne j hj e')]
            rw [getD_set_ne false (Ne.symm e')] at hl
            exact hI.no j hj hl
end specs
/-- each element of a list, with its place -/
inductive AllFrom (Pr : Nat → Oper → Prop) : Nat → List Oper → Prop where
  | nil {k : Nat} : AllFrom Pr k []
  | cons {k : Nat} {o : Oper} {r : List Oper} (h : Pr k o) (t : AllFrom Pr (k + 1) r) : AllFrom Pr k (o :: r)
theorem AllFrom.get {Pr : Nat → Oper → Prop} {k : Nat} {l : List Oper} (h : AllFrom Pr k l) : ∀ i o, l[i]? = some o → Pr (k + i) o := by
  induction h with
  | nil => intro i o h; simp at h
  | @cons k o' r h t ih =>
    intro i o ho
    cases i with
    | zero => simp at ho; subst ho; exact h
    | succ i =>
      have := ih i o (by simpa using ho)
      rw [show k + (i + 1) = k + 1 + i by omega]
      exact this
open specs in
/-- a region that draws, by what each of its operations comes to -/
theorem wp_region_specs {P : Program} {id : Nat} {l : List Oper} {Q : Exit → Act → World → Prop} {a : Act} {w : World} (Sp : Nat → Comes) {frame : (Nat → Value) → Act} (hf : ∀ x, frameOf l.toArray a x = frame x) (hm : P.follows .mixedOrders = true) (hB : okB l.toArray = true)
    (step : AllFrom (fun i o => ∀ x w1, Ext w.drew w1 → (∀ j, j < l.length → waitsB o j = true → (Sp j).holds (x (dstAt l.toArray j)) w1) → (∀ j oj, l[j]? = some oj → waitsB oj i = true → x (dstAt l.toArray j) = a.tmps.getD (dstAt l.toArray j) undef) →
      ∀ K : Act → World → Prop, Shut (∀ a' w' v, a' = (frame x).put o.dst v → (Sp i).holds v w' → Ext w1 w' → K a' w') → if Region.wanted o (yielded l.toArray (frame x).tmps) = true then Oper.wp P o (frame x) w1 K Q else K ((frame x).put o.dst undef) w1) 0 l)
    (fin : ∀ x w1, Ext w.drew w1 → (∀ i, i < l.length → (Sp i).holds (x (dstAt l.toArray i)) w1) → Q .normal (frame x) w1) : (Code.region id l.toArray true).wp P Q a w := by
  have ha : frameOf l.toArray a (fun k => a.tmps.getD k undef) = a := by unfold frameOf; rw [fill_self]
  refine wp_region_any hm ?_
  have h := run (P := P) (ops := l.toArray) (Q := Q) (a := a) (w0 := w.drew) Sp (fun k => a.tmps.getD k undef) hB (fun i o ho x w1 hE hd hr K hK => by have h := step.get i o (by simpa using ho); rw [Nat.zero_add] at h; rw [hf] at hK ⊢; exact h x w1 hE (fun j hj => hd j (by simpa using hj)) (fun j oj hoj => hr j oj (by simpa using hoj)) K hK) (fun x w1 hE hs => by rw [hf]; exact fin x w1 hE fun i hi => hs i (by simpa using hi)) l.toArray.size (Array.replicate l.toArray.size false) (fun k => a.tmps.getD k undef) w.drew (unl_all _ _ (Nat.le_refl _))
    ⟨by simp, Chg.refl _ _, fun j o ho hl => (by rw [getD_replicate_false] at hl; cases hl), fun i hi hl => (by rw [getD_replicate_false] at hl; cases hl), fun i hi hl => rfl⟩
  rw [ha] at h
  exact h
end Go.Proofs.YtpcihajmcejliabGreatDoor
