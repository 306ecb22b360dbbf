/- What is written is read as it was; what is read was written so: in plain Lean. The walk of the law ObjectBack. -/
import Derived.Test.YtpcihajmcejliabGreatDoorGetC
import Derived.Test.YtpcihajmcejliabGreatDoorObjDefs
import Derived.Test.YtpcihajmcejliabGreatDoorOneGood
namespace Go.Proofs.YtpcihajmcejliabGreatDoor
open Go.RowKit
/-- numbers of 64 bits, all of them -/
structure OkObj (x : FObj) : Prop where
  nums : ObjNums x
  plcs : ∀ y ∈ x.procs ++ (x.lows ++ x.highs), inI y.at_
namespace back
theorem num8_get8 (d : List UInt8) (h : d.length = 8) : num8 (get8 d) = d := by
  match d, h with
  | [b0, b1, b2, b3, b4, b5, b6, b7], _ =>
    have e : get8 [b0, b1, b2, b3, b4, b5, b6, b7] = IntKind.i64.wrap ((((((((b0.toNat : Int) * 256 + b1.toNat) * 256 + b2.toNat) * 256 + b3.toNat) * 256 + b4.toNat) * 256 + b5.toNat) * 256 + b6.toNat) * 256 + b7.toNat) := by
      have h0 : byteStep 0 b0 = IntKind.i64.wrap (b0.toNat : Int) := by unfold byteStep; simp
      unfold get8
      simp only [List.foldl_cons, List.foldl_nil]
      rw [h0]
      simp only [getm.byteStep_wrap]
    rw [e, IntKind.wrap_i64]
    have q : ∀ (n : Int) (s : Nat) (b : UInt8), (n / 2 ^ s) % 256 = (b.toNat : Int) → byteAt n s = b := fun n s b h => by
      unfold byteAt
      rw [h]
      simp
    have l0 := b0.toNat_lt
    have l1 := b1.toNat_lt
    have l2 := b2.toNat_lt
    have l3 := b3.toNat_lt
    have l4 := b4.toNat_lt
    have l5 := b5.toNat_lt
    have l6 := b6.toNat_lt
    have l7 := b7.toNat_lt
    obtain ⟨W, hW⟩ : ∃ W : Int, ((((((((((b0.toNat : Int) * 256 + b1.toNat) * 256 + b2.toNat) * 256 + b3.toNat) * 256 + b4.toNat) * 256 + b5.toNat) * 256 + b6.toNat) * 256 + b7.toNat) + 9223372036854775808) % 18446744073709551616 - 9223372036854775808) = W := ⟨_, rfl⟩
    rw [hW]
    unfold num8
    rw [q W 56 b0 (by rw [show (2 : Int) ^ 56 = 72057594037927936 from rfl]; omega)]
    rw [q W 48 b1 (by rw [show (2 : Int) ^ 48 = 281474976710656 from rfl]; omega)]
    rw [q W 40 b2 (by rw [show (2 : Int) ^ 40 = 1099511627776 from rfl]; omega)]
    rw [q W 32 b3 (by rw [show (2 : Int) ^ 32 = 4294967296 from rfl]; omega)]
    rw [q W 24 b4 (by rw [show (2 : Int) ^ 24 = 16777216 from rfl]; omega)]
    rw [q W 16 b5 (by rw [show (2 : Int) ^ 16 = 65536 from rfl]; omega)]
    rw [q W 8 b6 (by rw [show (2 : Int) ^ 8 = 256 from rfl]; omega)]
    rw [q W 0 b7 (by rw [show (2 : Int) ^ 0 = 1 from rfl]; omega)]
theorem sound_num {l r : List UInt8} {x : Int} (h : rdNum l = some (x, r)) : l = num8 x ++ r ∧ inI x := by
  refine ⟨?_, getw.num_in h⟩
  unfold rdNum at h
  split at h
  · cases h
  · cases h
    rw [num8_get8 _ (by rw [List.length_take]; omega), List.take_append_drop]
theorem sound_truth {l r : List UInt8} {x : Bool} (h : rdTruth l = some (x, r)) : l = truthL x ++ r := by
  unfold rdTruth at h
  split at h
  · cases h
  · rename_i n r2 hn
    obtain ⟨e, -⟩ := sound_num hn
    split at h
    · rename_i h0
      cases h
      rw [e, h0]; rfl
    · split at h
      · rename_i h1
        cases h
        rw [e, h1]; rfl
      · cases h
theorem sound_text {l r : List UInt8} {x : ByteArray} (h : rdText l = some (x, r)) : l = textL x ++ r := by
  unfold rdText at h
  split at h
  · cases h
  · rename_i n r2 hn
    obtain ⟨e, -⟩ := sound_num hn
    split at h
    · rename_i hc
      cases h
      have hs : ((ByteArray.mk (r2.take n.toNat).toArray).size : Int) = n := by
        show (((List.toArray (r2.take n.toNat)).size : Nat) : Int) = n
        rw [List.size_toArray, List.length_take]
        omega
      unfold textL
      rw [hs, e, List.append_assoc]
      show _ = num8 n ++ (r2.take n.toNat ++ r2.drop n.toNat)
      rw [List.take_append_drop]
    · cases h
theorem sound_many {α : Type} {p : Prs α} {f : α → List UInt8} {ok : α → Prop} (hp : ∀ l x r, p l = some (x, r) → l = f x ++ r ∧ ok x) (n : Nat) : ∀ l xs r, rdMany p n l = some (xs, r) → l = xs.flatMap f ++ r ∧ xs.length = n ∧ ∀ x ∈ xs, ok x := by
  induction n with
  | zero => intro l xs r h; cases h; exact ⟨rfl, rfl, fun x hx => by cases hx⟩
  | succ n ih =>
    intro l xs r h
    unfold rdMany at h
    split at h
    · cases h
    · rename_i y r2 hy
      split at h
      · cases h
      · rename_i ys r3 hys
        cases h
        obtain ⟨e1, k1⟩ := hp _ _ _ hy
        obtain ⟨e2, k2, k3⟩ := ih _ _ _ hys
        refine ⟨by rw [e1, e2, List.flatMap_cons, List.append_assoc], by rw [List.length_cons, k2], fun x hx => ?_⟩
        rcases List.mem_cons.1 hx with rfl | hx
        · exact k1
        · exact k3 x hx
theorem sound_items {α : Type} {p : Prs α} {f : α → List UInt8} {ok : α → Prop} (hp : ∀ l x r, p l = some (x, r) → l = f x ++ r ∧ ok x) {l r : List UInt8} {xs : List α} (h : rdItems p l = some (xs, r)) : l = num8 xs.length ++ (xs.flatMap f ++ r) ∧ ∀ x ∈ xs, ok x := by
  unfold rdItems at h
  split at h
  · cases h
  · rename_i n r2 hn
    obtain ⟨e, -⟩ := sound_num hn
    split at h
    · rename_i hc
      obtain ⟨e2, k2, k3⟩ := sound_many hp _ _ _ _ h
      refine ⟨?_, k3⟩
      rw [k2, Int.toNat_of_nonneg hc.1, e, e2]
    · cases h
def OkVar (v : FVar) : Prop := inI v.label ∧ inI v.size
def OkProc (p : FProc) : Prop := (∀ q ∈ p.params, inI q) ∧ inI p.writes ∧ inI p.given
def OkIns (i : Ins) : Prop := (∀ y ∈ [i.op, i.a, i.b, i.c], inI y) ∧ inI i.n
def OkRel (r : FRel) : Prop := ∀ y ∈ [r.at_, r.kind], inI y
def OkPlc (p : FPlc) : Prop := inI p.at_
def OkFace (f : FFace) : Prop := (∀ v ∈ f.vars, OkVar v) ∧ ∀ p ∈ f.procs, OkProc p
theorem nums2 (a b : Int) : numsL [a, b] = num8 a ++ num8 b := by simp [numsL]
theorem nums4 (a b c d : Int) : numsL [a, b, c, d] = num8 a ++ (num8 b ++ (num8 c ++ num8 d)) := by simp [numsL]
theorem sound_var (l : List UInt8) (x : FVar) (r : List UInt8) (h : rdVar l = some (x, r)) : l = varL x ++ r ∧ OkVar x := by
  obtain ⟨a, r1, h1, h⟩ := getw.map_some h
  obtain ⟨b, r2, h2, h⟩ := getw.map_some h
  obtain ⟨c, r3, h3, h⟩ := getw.map_some h
  obtain ⟨d, r4, h4, h⟩ := getw.map_some h
  cases h
  have e1 := sound_text h1
  have e2 := sound_truth h2
  obtain ⟨e3, k3⟩ := sound_num h3
  obtain ⟨e4, k4⟩ := sound_num h4
  refine ⟨?_, k3, k4⟩
  rw [e1, e2, e3, e4, varL, nums2]
  simp only [List.append_assoc]
theorem sound_numI (l : List UInt8) (x : Int) (r : List UInt8) (h : rdNum l = some (x, r)) : l = num8 x ++ r ∧ inI x := sound_num h
theorem sound_proc (l : List UInt8) (x : FProc) (r : List UInt8) (h : rdProc l = some (x, r)) : l = procL x ++ r ∧ OkProc x := by
  obtain ⟨a, r1, h1, h⟩ := getw.map_some h
  obtain ⟨b, r2, h2, h⟩ := getw.map_some h
  obtain ⟨c, r3, h3, h⟩ := getw.map_some h
  obtain ⟨d, r4, h4, h⟩ := getw.map_some h
  obtain ⟨e, r5, h5, h⟩ := getw.map_some h
  obtain ⟨f, r6, h6, h⟩ := getw.map_some h
  cases h
  have e1 := sound_text h1
  have e2 := sound_truth h2
  obtain ⟨e3, k3⟩ := sound_items sound_numI h3
  obtain ⟨e4, k4⟩ := sound_num h4
  have e5 := sound_truth h5
  obtain ⟨e6, k6⟩ := sound_num h6
  refine ⟨?_, k3, k4, k6⟩
  rw [e1, e2, e3, e4, e5, e6, procL]
  simp only [List.append_assoc, numsL]
theorem sound_face (l : List UInt8) (x : FFace) (r : List UInt8) (h : rdFace l = some (x, r)) : l = faceL x ++ r ∧ OkFace x := by
  obtain ⟨a, r1, h1, h⟩ := getw.map_some h
  obtain ⟨b, r2, h2, h⟩ := getw.map_some h
  obtain ⟨c, r3, h3, h⟩ := getw.map_some h
  cases h
  have e1 := sound_text h1
  obtain ⟨e2, k2⟩ := sound_items sound_var h2
  obtain ⟨e3, k3⟩ := sound_items sound_proc h3
  refine ⟨?_, k2, k3⟩
  rw [e1, e2, e3, faceL]
  simp only [List.append_assoc]
theorem sound_plc (l : List UInt8) (x : FPlc) (r : List UInt8) (h : rdPlc l = some (x, r)) : l = plcL x ++ r ∧ OkPlc x := by
  obtain ⟨a, r1, h1, h⟩ := getw.map_some h
  obtain ⟨b, r2, h2, h⟩ := getw.map_some h
  cases h
  have e1 := sound_text h1
  obtain ⟨e2, k2⟩ := sound_num h2
  refine ⟨?_, k2⟩
  rw [e1, e2, plcL]
  simp only [List.append_assoc]
theorem sound_ins (l : List UInt8) (x : Ins) (r : List UInt8) (h : rdIns l = some (x, r)) : l = insL x ++ r ∧ OkIns x := by
  obtain ⟨a, r1, h1, h⟩ := getw.map_some h
  obtain ⟨b, r2, h2, h⟩ := getw.map_some h
  obtain ⟨c, r3, h3, h⟩ := getw.map_some h
  obtain ⟨d, r4, h4, h⟩ := getw.map_some h
  obtain ⟨e, r5, h5, h⟩ := getw.map_some h
  cases h
  obtain ⟨e1, k1⟩ := sound_num h1
  obtain ⟨e2, k2⟩ := sound_num h2
  obtain ⟨e3, k3⟩ := sound_num h3
  obtain ⟨e4, k4⟩ := sound_num h4
  obtain ⟨e5, k5⟩ := sound_num h5
  refine ⟨?_, fun y hy => ?_, k5⟩
  · rw [e1, e2, e3, e4, e5, insL, nums4]
    simp only [List.append_assoc]
  · simp only [List.mem_cons, List.not_mem_nil, or_false] at hy
    rcases hy with rfl | rfl | rfl | rfl
    · exact k1
    · exact k2
    · exact k3
    · exact k4
theorem sound_rel (l : List UInt8) (x : FRel) (r : List UInt8) (h : rdRel l = some (x, r)) : l = relL x ++ r ∧ OkRel x := by
  obtain ⟨a, r1, h1, h⟩ := getw.map_some h
  obtain ⟨b, r2, h2, h⟩ := getw.map_some h
  obtain ⟨c, r3, h3, h⟩ := getw.map_some h
  obtain ⟨d, r4, h4, h⟩ := getw.map_some h
  cases h
  obtain ⟨e1, k1⟩ := sound_num h1
  obtain ⟨e2, k2⟩ := sound_num h2
  have e3 := sound_text h3
  have e4 := sound_text h4
  refine ⟨?_, fun y hy => ?_⟩
  · rw [e1, e2, e3, e4, relL, nums2]
    simp only [List.append_assoc]
  · simp only [List.mem_cons, List.not_mem_nil, or_false] at hy
    rcases hy with rfl | rfl
    · exact k1
    · exact k2
theorem sound_obj {l r : List UInt8} {x : FObj} (h : rdObj l = some (x, r)) : l = objL x ++ r ∧ OkObj x := by
  obtain ⟨f, r1, h1, h⟩ := getw.map_some h
  obtain ⟨im, r2, h2, h⟩ := getw.map_some h
  obtain ⟨co, r3, h3, h⟩ := getw.map_some h
  obtain ⟨re, r4, h4, h⟩ := getw.map_some h
  obtain ⟨ps, r5, h5, h⟩ := getw.map_some h
  obtain ⟨lo, r6, h6, h⟩ := getw.map_some h
  obtain ⟨hi, r7, h7, h⟩ := getw.map_some h
  obtain ⟨a, r8, h8, h⟩ := getw.map_some h
  obtain ⟨b, r9, h9, h⟩ := getw.map_some h
  obtain ⟨c, r10, h10, h⟩ := getw.map_some h
  obtain ⟨d, r11, h11, h⟩ := getw.map_some h
  cases h
  obtain ⟨e1, k1⟩ := sound_face _ _ _ h1
  obtain ⟨e2, k2⟩ := sound_items sound_face h2
  obtain ⟨e3, k3⟩ := sound_items sound_ins h3
  obtain ⟨e4, k4⟩ := sound_items sound_rel h4
  obtain ⟨e5, k5⟩ := sound_items sound_plc h5
  obtain ⟨e6, k6⟩ := sound_items sound_plc h6
  obtain ⟨e7, k7⟩ := sound_items sound_plc h7
  obtain ⟨e8, k8⟩ := sound_num h8
  obtain ⟨e9, k9⟩ := sound_num h9
  obtain ⟨e10, k10⟩ := sound_num h10
  obtain ⟨e11, k11⟩ := sound_num h11
  refine ⟨?_, ⟨⟨⟨k1.1, k1.2⟩, fun g hg => ⟨(k2 g hg).1, (k2 g hg).2⟩, fun i hi => k3 i hi, fun r hr => k4 r hr, fun y hy => ?_⟩, fun y hy => ?_⟩⟩
  · rw [e1, e2, e3, e4, e5, e6, e7, e8, e9, e10, e11, objL, nums4, placesL, placesL, placesL]
    simp only [List.append_assoc]
  · simp only [List.mem_cons, List.not_mem_nil, or_false] at hy
    rcases hy with rfl | rfl | rfl | rfl
    · exact k8
    · exact k9
    · exact k10
    · exact k11
  · simp only [List.mem_append] at hy
    rcases hy with hy | hy | hy
    · exact k5 y hy
    · exact k6 y hy
    · exact k7 y hy
theorem comp_num (x : Int) (r : List UInt8) (h : inI x) : rdNum (num8 x ++ r) = some (x, r) := by
  unfold rdNum
  rw [if_neg (by rw [List.length_append, obj.num8_len]; omega)]
  rw [List.take_left' (obj.num8_len x), List.drop_left' (obj.num8_len x), getm.get8_num8 x h]
theorem comp_truth (x : Bool) (r : List UInt8) : rdTruth (truthL x ++ r) = some (x, r) := by
  unfold rdTruth truthL
  rw [comp_num _ _ (by cases x <;> (unfold inI; decide))]
  cases x <;> rfl
theorem comp_text (x : ByteArray) (r : List UInt8) (h : (textL x).length ≤ 1000000000000) : rdText (textL x ++ r) = some (x, r) := by
  rw [obj.text_len] at h
  unfold rdText textL
  rw [List.append_assoc, comp_num _ _ (by unfold inI; omega)]
  have hs : x.data.toList.length = x.size := by rw [Array.length_toList]; rfl
  simp only [Int.toNat_natCast]
  rw [if_pos ⟨by omega, by rw [List.length_append, hs]; omega⟩, List.take_left' hs, List.drop_left' hs]
theorem comp_many {α : Type} {p : Prs α} {f : α → List UInt8} {ok : α → Prop} (hp : ∀ x r, ok x → (f x).length ≤ 1000000000000 → p (f x ++ r) = some (x, r)) : ∀ (xs : List α) (r : List UInt8), (∀ x ∈ xs, ok x) → (xs.flatMap f).length ≤ 1000000000000 → rdMany p xs.length (xs.flatMap f ++ r) = some (xs, r) := by
  intro xs
  induction xs with
  | nil => intro r _ _; rfl
  | cons x q ih =>
    intro r h hl
    rw [List.flatMap_cons, List.length_append] at hl
    rw [List.flatMap_cons, List.length_cons, List.append_assoc, rdMany, hp x _ (h x (by simp)) (by omega)]
    simp only
    rw [ih r (fun y hy => h y (by simp [hy])) (by omega)]
theorem flat8 {α : Type} (f : α → List UInt8) (h8 : ∀ x, 8 ≤ (f x).length) (l : List α) : 8 * l.length ≤ (l.flatMap f).length := by
  induction l with
  | nil => exact Nat.le_refl _
  | cons x r ih => rw [List.flatMap_cons, List.length_append, List.length_cons]; have := h8 x; omega
theorem comp_items {α : Type} {p : Prs α} {f : α → List UInt8} {ok : α → Prop} (hp : ∀ x r, ok x → (f x).length ≤ 1000000000000 → p (f x ++ r) = some (x, r)) (h8 : ∀ x, 8 ≤ (f x).length) (xs : List α) (r : List UInt8) (h : ∀ x ∈ xs, ok x) (hl : (xs.flatMap f).length ≤ 1000000000000) :
    rdItems p (num8 xs.length ++ (xs.flatMap f ++ r)) = some (xs, r) := by
  have hf := flat8 f h8 xs
  unfold rdItems
  rw [comp_num _ _ (by unfold inI; omega)]
  simp only
  rw [if_pos ⟨by omega, by rw [List.length_append]; omega⟩, Int.toNat_natCast]
  exact comp_many hp xs r h hl
theorem comp_var (x : FVar) (r : List UInt8) (h : OkVar x) (hl : (varL x).length ≤ 1000000000000) : rdVar (varL x ++ r) = some (x, r) := by
  unfold varL at hl ⊢
  rw [nums2] at hl ⊢
  simp only [List.append_assoc, List.length_append] at hl ⊢
  simp only [rdVar, rdMap, comp_text x.name _ (by omega), comp_truth, comp_num _ _ h.1, comp_num _ _ h.2]
theorem comp_proc (x : FProc) (r : List UInt8) (h : OkProc x) (hl : (procL x).length ≤ 1000000000000) : rdProc (procL x ++ r) = some (x, r) := by
  have e : procL x ++ r = textL x.name ++ (truthL x.pub ++ (num8 x.params.length ++ (x.params.flatMap num8 ++ (num8 x.writes ++ (truthL x.gives ++ (num8 x.given ++ r)))))) := by
    unfold procL numsL; simp only [List.append_assoc]
  have hl2 : (textL x.name).length ≤ 1000000000000 ∧ (x.params.flatMap num8).length ≤ 1000000000000 := by
    unfold procL numsL at hl; simp only [List.length_append] at hl; omega
  rw [e]
  simp only [rdProc, rdMap, comp_text x.name _ hl2.1, comp_truth, comp_items (p := rdNum) (f := num8) (ok := inI) (fun y r hy _ => comp_num y r hy) (fun y => by rw [obj.num8_len]; omega) x.params _ h.1 hl2.2, comp_num _ _ h.2.1, comp_num _ _ h.2.2]
theorem comp_face (x : FFace) (r : List UInt8) (h : OkFace x) (hl : (faceL x).length ≤ 1000000000000) : rdFace (faceL x ++ r) = some (x, r) := by
  have e : faceL x ++ r = textL x.modn ++ (num8 x.vars.length ++ (x.vars.flatMap varL ++ (num8 x.procs.length ++ (x.procs.flatMap procL ++ r)))) := by
    unfold faceL; simp only [List.append_assoc]
  have hl2 : (textL x.modn).length ≤ 1000000000000 ∧ (x.vars.flatMap varL).length ≤ 1000000000000 ∧ (x.procs.flatMap procL).length ≤ 1000000000000 := by
    unfold faceL at hl; simp only [List.length_append] at hl; omega
  rw [e]
  simp only [rdFace, rdMap, comp_text x.modn _ hl2.1, comp_items comp_var (fun y => by unfold varL; simp only [List.length_append, obj.text_len]; omega) x.vars _ h.1 hl2.2.1, comp_items comp_proc (fun y => by unfold procL; simp only [List.length_append, obj.text_len]; omega) x.procs _ h.2 hl2.2.2]
theorem comp_plc (x : FPlc) (r : List UInt8) (h : OkPlc x) (hl : (plcL x).length ≤ 1000000000000) : rdPlc (plcL x ++ r) = some (x, r) := by
  unfold plcL at hl ⊢
  simp only [List.append_assoc, List.length_append] at hl ⊢
  simp only [rdPlc, rdMap, comp_text x.name _ (by omega), comp_num _ _ h]
theorem comp_ins (x : Ins) (r : List UInt8) (h : OkIns x) (_ : (insL x).length ≤ 1000000000000) : rdIns (insL x ++ r) = some (x, r) := by
  unfold insL
  rw [nums4]
  simp only [List.append_assoc]
  simp only [rdIns, rdMap, comp_num _ _ (h.1 x.op (by simp)), comp_num _ _ (h.1 x.a (by simp)), comp_num _ _ (h.1 x.b (by simp)), comp_num _ _ (h.1 x.c (by simp)), comp_num _ _ h.2]
theorem comp_rel (x : FRel) (r : List UInt8) (h : OkRel x) (hl : (relL x).length ≤ 1000000000000) : rdRel (relL x ++ r) = some (x, r) := by
  unfold relL at hl ⊢
  rw [nums2] at hl ⊢
  simp only [List.append_assoc, List.length_append] at hl ⊢
  simp only [rdRel, rdMap, comp_num _ _ (h x.at_ (by simp)), comp_num _ _ (h x.kind (by simp)), comp_text x.modn _ (by omega), comp_text x.name _ (by omega)]
theorem comp_obj (x : FObj) (r : List UInt8) (h : OkObj x) (hl : (objL x).length ≤ 1000000000000) : rdObj (objL x ++ r) = some (x, r) := by
  have e : objL x ++ r = faceL x.face ++ (num8 x.imports.length ++ (x.imports.flatMap faceL ++ (num8 x.code.length ++ (x.code.flatMap insL ++ (num8 x.relocs.length ++ (x.relocs.flatMap relL ++ (num8 x.procs.length ++ (x.procs.flatMap plcL ++ (num8 x.lows.length ++ (x.lows.flatMap plcL ++ (num8 x.highs.length ++ (x.highs.flatMap plcL ++ (num8 x.low ++ (num8 x.high ++ (num8 x.lowF ++ (num8 x.highF ++ r)))))))))))))))) := by
    unfold objL placesL; rw [nums4]; simp only [List.append_assoc]
  have hl2 : (faceL x.face).length ≤ 1000000000000 ∧ (x.imports.flatMap faceL).length ≤ 1000000000000 ∧ (x.code.flatMap insL).length ≤ 1000000000000 ∧ (x.relocs.flatMap relL).length ≤ 1000000000000 ∧ (x.procs.flatMap plcL).length ≤ 1000000000000 ∧ (x.lows.flatMap plcL).length ≤ 1000000000000 ∧ (x.highs.flatMap plcL).length ≤ 1000000000000 := by
    unfold objL placesL at hl; simp only [List.length_append] at hl; omega
  have hw := h.nums.words
  rw [e]
  simp only [rdObj, rdMap, comp_face x.face _ ⟨h.nums.face.vars, h.nums.face.procs⟩ hl2.1,
    comp_items comp_face (fun y => by unfold faceL; simp only [List.length_append, obj.text_len]; omega) x.imports _ (fun g hg => ⟨(h.nums.imports g hg).vars, (h.nums.imports g hg).procs⟩) hl2.2.1,
    comp_items comp_ins (fun y => by unfold insL; simp only [List.length_append, obj.num8_len]; omega) x.code _ (fun i hi => h.nums.code i hi) hl2.2.2.1,
    comp_items comp_rel (fun y => by unfold relL; simp only [List.length_append, obj.text_len]; omega) x.relocs _ (fun i hi => h.nums.relocs i hi) hl2.2.2.2.1,
    comp_items comp_plc (fun y => by unfold plcL; simp only [List.length_append, obj.num8_len]; omega) x.procs _ (fun y hy => h.plcs y (by simp [hy])) hl2.2.2.2.2.1,
    comp_items comp_plc (fun y => by unfold plcL; simp only [List.length_append, obj.num8_len]; omega) x.lows _ (fun y hy => h.plcs y (by simp [hy])) hl2.2.2.2.2.2.1,
    comp_items comp_plc (fun y => by unfold plcL; simp only [List.length_append, obj.num8_len]; omega) x.highs _ (fun y hy => h.plcs y (by simp [hy])) hl2.2.2.2.2.2.2,
    comp_num _ _ (hw x.low (by simp)), comp_num _ _ (hw x.high (by simp)), comp_num _ _ (hw x.lowF (by simp)), comp_num _ _ (hw x.highF (by simp))]
/-- what is written is read as it was -/
theorem back {x : FObj} (h : OkObj x) (hl : (objL x).length ≤ 1000000000000) : rdObj (objL x) = some (x, []) := by
  have := comp_obj x [] h hl
  rwa [List.append_nil] at this
/-- no shorter row of bytes is read whole -/
theorem shorter {x y : FObj} {n : Nat} {r : List UInt8} (h : OkObj x) (hl : (objL x).length ≤ 1000000000000) (hy : rdObj ((objL x).take n) = some (y, r)) : y = x ∧ (objL x).length ≤ n := by
  obtain ⟨e, k⟩ := sound_obj hy
  have hly : (objL y).length ≤ 1000000000000 := by
    have := congrArg List.length e
    rw [List.length_append, List.length_take] at this
    omega
  have h1 := comp_obj y (r ++ (objL x).drop n) k hly
  rw [← List.append_assoc, ← e, List.take_append_drop, back h hl] at h1
  have h2 := Option.some.inj h1
  obtain ⟨e1, e2⟩ := Prod.mk.inj h2
  have h3 := List.append_eq_nil_iff.1 e2.symm
  have h4 := congrArg List.length h3.2
  rw [List.length_drop, List.length_nil] at h4
  exact ⟨e1.symm, by omega⟩
end back
end Go.Proofs.YtpcihajmcejliabGreatDoor
namespace Go.Proofs.YtpcihajmcejliabGreatDoor
open Go.RowKit
namespace backLaw
theorem row_bytes {w : World} {B : Nat} {r : Value} {l : List UInt8} (h : w.ownsRow B 5 1 r l.length (bytesV l)) (hl : 0 < l.length) : BytesAt w l r ∧ ∃ g cap, r = .slice (some ⟨g, 0, none⟩) l.length cap ∧ l.length ≤ cap ∧ cap ≤ maxLen := by
  rcases h.2 with ⟨rfl, h0⟩ | ⟨g, cap, cur, rfl, hB, hg, h1, h2, h3, h4⟩
  · omega
  · refine ⟨⟨_, cap, rfl, h1, h2, fun j hj => ⟨g, 0, rfl, (h.lt g rfl).2, ?_⟩⟩, g, cap, rfl, h1, h2⟩
    unfold ByteIn
    rw [Nat.zero_add, Nat.mul_one, h.cellAt j (by simpa using hj)]
    simp [bytesV, hj]
theorem take_bytes {w : World} {g cap : Nat} {l : List UInt8} (h : BytesAt w l (.slice (some ⟨g, 0, none⟩) l.length cap)) (n : Nat) (hn : n ≤ l.length) : BytesAt w (l.take n) (.slice (some ⟨g, 0, none⟩) n cap) := by
  obtain ⟨a, c, e, h1, h2, h3⟩ := h.ex
  cases e
  have hl : (l.take n).length = n := by rw [List.length_take]; omega
  exact ⟨_, cap, by rw [hl], by omega, h2, h3.take n⟩
theorem get_yes {w w' : World} {T : Option (FObj × List UInt8)} {x : FObj} {e : Ending} (h : getw.GetPost w T e w') (hT : T = some (x, [])) (hm : mayObjB x = true) : Ext w w' ∧ ∃ o, e = .returned (.tuple #[o, .int .i64 0]) ∧ ObjAt w' x o := by
  obtain ⟨hE, h⟩ := h
  refine ⟨hE, ?_⟩
  rcases h with ⟨y, o, hy, -, he, hat⟩ | ⟨hno, -⟩
  · rw [hT] at hy
    cases hy
    exact ⟨o, he, hat⟩
  · have := hno x hT
    rw [hm] at this
    cases this
theorem get_no {w w' : World} {T : Option (FObj × List UInt8)} {e : Ending} (h : getw.GetPost w T e w') (hT : T = none) : Ext w w' ∧ e = .returned (.tuple #[.agg zeroObj, .int .i64 2]) := by
  obtain ⟨hE, h⟩ := h
  refine ⟨hE, ?_⟩
  rcases h with ⟨y, o, hy, -, -, -⟩ | ⟨-, he⟩
  · rw [hT] at hy; cases hy
  · exact he
theorem cut_none {x : FObj} (h : OkObj x) (hl : (objL x).length ≤ 1000000000000) {n : Nat} (hn : n < (objL x).length) : rdObj ((objL x).take n) = none := by
  cases hp : rdObj ((objL x).take n) with
  | none => rfl
  | some q =>
    obtain ⟨y, r⟩ := q
    have := (back.shorter h hl hp).2
    omega
set_option maxRecDepth 100000 in
set_option maxHeartbeats 16000000 in
theorem walk (x : FObj) (v : Value) (w : World) (cut : Nat) (hx : oneLaw.Good w x v) (hcut : cut ≤ 65535) (hev : ErrVar w) (hmv : MaxVar w) :
    Calls Tryz.prog 5 #[v, .int .u16 cut] w fun e w' => e = .returned (.bool true) ∧ Ext w w' := by
  have hok : OkObj x := ⟨hx.nums, fun y hy => by
    have := hx.plcs
    simp only [List.mem_append] at hy
    rcases hy with hy | hy | hy
    · exact this.procs y hy
    · exact this.lows y hy
    · exact this.highs y hy⟩
  have hlen := hx.len
  have hput := oneLaw.put_good hx hev hmv
  have hput2 := fun (u : World) (o : Value) (hE : Ext w u) (ho : ObjAt u x o) => objw.put_any x o u (mayObjB x) ho hx.nums (by omega) (fun u2 hE2 => mayo.may_any x o u2 (ObjAt.ext hE2 ho) hx.small (hev.ext (hE.ext hE2)) (hmv.ext (hE.ext hE2)))
  have hget := fun (L : List UInt8) (u : World) (r : Value) (hE : Ext w u) (hr : BytesAt u L r) (hs : L.length ≤ 100000000) (hsm : ∀ y q, rdObj L = some (y, q) → ObjSmall y) => getw.get_any L r u hr hs hsm (fun u2 y o hE2 hy hsm => mayo.may_any y o u2 hy hsm (hev.ext (hE.ext hE2)) (hmv.ext (hE.ext hE2)))
  have hback := back.back hok (by omega)
  have hno : ∀ n, n < (objL x).length → rdObj ((objL x).take n) = none := fun n hn => cut_none hok (by omega) hn
  have hpos := objlaw.objL_pos x
  have hsmall := hx.small
  obtain ⟨p0, p1, p2, p3, p4, p5, p6, p7, p8, p9, p10, p11, p12, p13, p14, p15, rfl, -⟩ := hx.at_.ex
  obtain ⟨M, hM⟩ : ∃ M, mayObjB x = M := ⟨_, rfl⟩
  rw [hM] at hput hput2
  unfold objw.PutPost at hput hput2
  obtain ⟨L, hL⟩ : ∃ L, objL x = L := ⟨_, rfl⟩
  rw [hL] at hput hput2 hback hno hpos hlen
  have HP := Lib.hid hput
  have HP2 := Lib.hid hput2
  have HG := Lib.hid hget
  have HB := Lib.hid (And.intro hback hno)
  have HMX := Lib.hid (And.intro hM hsmall)
  clear hput hput2 hget hback hno hok hx hev hmv hM hsmall hL
  have hB0 : Blk (w.alloc (.cells #[.string x.face.modn, .slice p0 x.face.vars.length p1, .slice p2 x.face.procs.length p3, .slice p4 x.imports.length p5, .slice p6 x.code.length p7, .slice p8 x.relocs.length p9, .slice p10 x.procs.length p11, .slice p12 x.lows.length p13, .slice p14 x.highs.length p15, .int .i64 x.low, .int .i64 x.high, .int .i64 x.lowF, .int .i64 x.highF] 57)) w.heap.size #[.string x.face.modn, .slice p0 x.face.vars.length p1, .slice p2 x.face.procs.length p3, .slice p4 x.imports.length p5, .slice p6 x.code.length p7, .slice p8 x.relocs.length p9, .slice p10 x.procs.length p11, .slice p12 x.lows.length p13, .slice p14 x.highs.length p15, .int .i64 x.low, .int .i64 x.high, .int .i64 x.lowF, .int .i64 x.highF] 57 := Blk.made _ _ _
  have hX0 : Ext w (w.alloc (.cells #[.string x.face.modn, .slice p0 x.face.vars.length p1, .slice p2 x.face.procs.length p3, .slice p4 x.imports.length p5, .slice p6 x.code.length p7, .slice p8 x.relocs.length p9, .slice p10 x.procs.length p11, .slice p12 x.lows.length p13, .slice p14 x.highs.length p15, .int .i64 x.low, .int .i64 x.high, .int .i64 x.lowF, .int .i64 x.highF] 57)) := (Chg.refl _ _).alloc _
  obtain ⟨V, hVe⟩ : ∃ V, w.heap.size = V := ⟨_, rfl⟩
  rw [hVe] at hB0
  go_enter Tryz.func5, Tryz.ntmps5
  go_wp2_with fail
  generalize w.alloc (.cells #[.string x.face.modn, .slice p0 x.face.vars.length p1, .slice p2 x.face.procs.length p3, .slice p4 x.imports.length p5, .slice p6 x.code.length p7, .slice p8 x.relocs.length p9, .slice p10 x.procs.length p11, .slice p12 x.lows.length p13, .slice p14 x.highs.length p15, .int .i64 x.low, .int .i64 x.high, .int .i64 x.lowF, .int .i64 x.highF] 57) = w0 at *
  refine (HP.out _ hX0).mono ?_
  rintro e w1 ⟨hE1, hor⟩
  have hX1 := hX0.ext hE1
  clear hX0 hB0 hE1
  rcases hor with ⟨rfl, rfl⟩ | ⟨rfl, r, rfl, hown⟩
  · go_wp2_with fail
    go_ret
    exact ⟨by simp, hX1⟩
  · obtain ⟨hby, g, cap, rfl, hc1, hc2⟩ := row_bytes hown hpos
    obtain ⟨g', cap', he, hcv⟩ := objlaw.row_text hown hpos
    cases he
    have HBY := Lib.hid hby
    have HCV := Lib.hid hcv
    obtain ⟨m, hm⟩ : ∃ m, L.length = m := ⟨_, rfl⟩
    rw [hm] at HCV hpos hlen hc1
    simp only [hm]
    have HLM := Lib.hid hm
    rw [hm] at HBY
    clear hby hown hcv hm
    unfold maxLen at hc2
    have HGG := Lib.hid (HG.out L w1 _ hX1 HBY.out (by have := HLM.out; omega) (fun y q hy => by rw [HB.out.1] at hy; cases hy; exact HMX.out.2))
    go_wp2_with fail
    refine HGG.out.mono ?_
    intro e w2 hp
    obtain ⟨hE2, o, rfl, hat⟩ := get_yes hp HB.out.1 HMX.out.1
    obtain ⟨q0, q1, q2, q3, q4, q5, q6, q7, q8, q9, q10, q11, q12, q13, q14, q15, rfl, -⟩ := hat.ex
    have HAT := Lib.hid hat
    have hX2 := hX1.ext hE2
    have hB2 : Blk (w2.alloc (.cells #[.string x.face.modn, .slice q0 x.face.vars.length q1, .slice q2 x.face.procs.length q3, .slice q4 x.imports.length q5, .slice q6 x.code.length q7, .slice q8 x.relocs.length q9, .slice q10 x.procs.length q11, .slice q12 x.lows.length q13, .slice q14 x.highs.length q15, .int .i64 x.low, .int .i64 x.high, .int .i64 x.lowF, .int .i64 x.highF] 57)) w2.heap.size #[.string x.face.modn, .slice q0 x.face.vars.length q1, .slice q2 x.face.procs.length q3, .slice q4 x.imports.length q5, .slice q6 x.code.length q7, .slice q8 x.relocs.length q9, .slice q10 x.procs.length q11, .slice q12 x.lows.length q13, .slice q14 x.highs.length q15, .int .i64 x.low, .int .i64 x.high, .int .i64 x.lowF, .int .i64 x.highF] 57 := Blk.made _ _ _
    have hX3 : Ext w2 (w2.alloc (.cells #[.string x.face.modn, .slice q0 x.face.vars.length q1, .slice q2 x.face.procs.length q3, .slice q4 x.imports.length q5, .slice q6 x.code.length q7, .slice q8 x.relocs.length q9, .slice q10 x.procs.length q11, .slice q12 x.lows.length q13, .slice q14 x.highs.length q15, .int .i64 x.low, .int .i64 x.high, .int .i64 x.lowF, .int .i64 x.highF] 57)) := (Chg.refl _ _).alloc _
    have HA3 := Lib.hid (ObjAt.ext hX3 hat)
    have HCV2 := Lib.hid (fun u (h : Ext (w2.alloc (.cells #[.string x.face.modn, .slice q0 x.face.vars.length q1, .slice q2 x.face.procs.length q3, .slice q4 x.imports.length q5, .slice q6 x.code.length q7, .slice q8 x.relocs.length q9, .slice q10 x.procs.length q11, .slice q12 x.lows.length q13, .slice q14 x.highs.length q15, .int .i64 x.low, .int .i64 x.high, .int .i64 x.lowF, .int .i64 x.highF] 57)) u) => HCV.out u ((hE2.ext hX3).ext h))
    have HBY2 := Lib.hid (HBY.out.ext (hE2.ext hX3))
    have hX4 := hX2.ext hX3
    have HPP := Lib.hid (HP2.out _ _ hX4 HA3.out)
    clear hp hat hE2 hX2 hX3 HGG HPP
    obtain ⟨U, hUe⟩ : ∃ U, w2.heap.size = U := ⟨_, rfl⟩
    rw [hUe] at hB2
    have hBc := hB2.cell
    go_wp2_with fail
    generalize w2.alloc (.cells #[.string x.face.modn, .slice q0 x.face.vars.length q1, .slice q2 x.face.procs.length q3, .slice q4 x.imports.length q5, .slice q6 x.code.length q7, .slice q8 x.relocs.length q9, .slice q10 x.procs.length q11, .slice q12 x.lows.length q13, .slice q14 x.highs.length q15, .int .i64 x.low, .int .i64 x.high, .int .i64 x.lowF, .int .i64 x.highF] 57) = w3 at *
    refine (HP2.out _ _ hX4 HA3.out).mono ?_
    rintro e w4 ⟨hE4, hor⟩
    rcases hor with ⟨h, -⟩ | ⟨-, r2, rfl, hown2⟩
    · cases h
    · have hX5 := hX4.ext hE4
      obtain ⟨g2, cap2, rfl, hcv2⟩ := objlaw.row_text hown2 (by rw [HLM.out]; exact hpos)
      rw [HLM.out] at hcv2
      simp only [HLM.out]
      have HCV3 := Lib.hid (fun u (h : Ext w4 u) => HCV2.out u (hE4.ext h))
      have HBY3 := Lib.hid (HBY2.out.ext hE4)
      have HCW := Lib.hid hcv2
      clear hown2 hcv2 hE4 hX4 hBc hB2
      have hcut0 : (0 : Int) ≤ (cut : Int) := by omega
      have hcut1 : (cut : Int) ≤ 65535 := by omega
      have hm1 : (m : Int) ≤ 9437184 := by omega
      by_cases hcm : cut < m
      · have hci : (cut : Int) < (m : Int) := by omega
        have hT := HB.out.2 cut (by rw [HLM.out]; exact hcm)
        have hbt := take_bytes (l := L) (by rw [HLM.out]; exact HBY3.out) cut (by rw [HLM.out]; omega)
        have HGG := Lib.hid (HG.out (L.take cut) w4 _ hX5 hbt (by have := HLM.out; rw [List.length_take]; omega) (fun y q hy => by rw [hT] at hy; cases hy))
        have HTT := Lib.hid hT
        clear hT hbt
        go_wp2_with fail
        refine HGG.out.mono ?_
        intro e w5 hp
        obtain ⟨hE5, he⟩ := get_no hp HTT.out
        rw [show zeroObj = #[.string ⟨#[]⟩, .slice none 0 0, .slice none 0 0, .slice none 0 0, .slice none 0 0, .slice none 0 0, .slice none 0 0, .slice none 0 0, .slice none 0 0, .int .i64 0, .int .i64 0, .int .i64 0, .int .i64 0] from rfl] at he
        subst he
        have hX6 := hX5.ext hE5
        have hX7 := hX6.alloc (.cells #[.string ⟨#[]⟩, .slice none 0 0, .slice none 0 0, .slice none 0 0, .slice none 0 0, .slice none 0 0, .slice none 0 0, .slice none 0 0, .slice none 0 0, .int .i64 0, .int .i64 0, .int .i64 0, .int .i64 0] 57)
        have h1 := HCV3.out (w5.alloc (.cells #[.string ⟨#[]⟩, .slice none 0 0, .slice none 0 0, .slice none 0 0, .slice none 0 0, .slice none 0 0, .slice none 0 0, .slice none 0 0, .slice none 0 0, .int .i64 0, .int .i64 0, .int .i64 0, .int .i64 0] 57)) (hE5.alloc _)
        have h2 := HCW.out (w5.alloc (.cells #[.string ⟨#[]⟩, .slice none 0 0, .slice none 0 0, .slice none 0 0, .slice none 0 0, .slice none 0 0, .slice none 0 0, .slice none 0 0, .slice none 0 0, .int .i64 0, .int .i64 0, .int .i64 0, .int .i64 0] 57)) (hE5.alloc _)
        clear hp hE5 hX6 hX5 HGG
        go_wp2_with fail
        go_ret
        exact ⟨by simp, hX7⟩
      · have hci : (m : Int) ≤ (cut : Int) := by omega
        have h1 := HCV3.out w4 (Chg.refl _ _)
        have h2 := HCW.out w4 (Chg.refl _ _)
        go_wp2_with fail
        go_ret
        exact ⟨by simp, hX5⟩
end backLaw
end Go.Proofs.YtpcihajmcejliabGreatDoor
