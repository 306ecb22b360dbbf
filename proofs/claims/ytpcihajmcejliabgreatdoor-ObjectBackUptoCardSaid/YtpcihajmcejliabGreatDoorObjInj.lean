/- Objects, in plain Lean: bytes are those of one object. -/
import Derived.Test.YtpcihajmcejliabGreatDoorObjDefs
namespace Go.Proofs.YtpcihajmcejliabGreatDoor
open Go.RowKit
namespace objInj
/-- what is written can be read again, whatever stands behind it -/
def Pre {α : Type} (f : α → List UInt8) (P : α → Prop) : Prop := ∀ x y r s, P x → P y → (f x ++ r).length ≤ 4611686018427387904 → f x ++ r = f y ++ s → x = y ∧ r = s
theorem byte_eq {a b : Int} {s : Nat} (h : byteAt a s = byteAt b s) : (a / 2 ^ s) % 256 = (b / 2 ^ s) % 256 := by
  rw [← obj.byteAt_nat, ← obj.byteAt_nat, h]
theorem up {a b : Int} (s : Nat) (h : a / 2 ^ (s + 8) = b / 2 ^ (s + 8)) (h2 : (a / 2 ^ s) % 256 = (b / 2 ^ s) % 256) : a / 2 ^ s = b / 2 ^ s := by
  have e : ∀ n : Int, n / 2 ^ (s + 8) = (n / 2 ^ s) / 256 := fun n => by
    rw [Int.pow_add, show (2 : Int) ^ 8 = 256 by decide, Int.ediv_ediv_of_nonneg (Int.le_of_lt (Int.pow_pos (by decide)))]
  rw [e, e] at h
  omega
theorem num8_inj {a b : Int} (ha : inI a) (hb : inI b) (h : num8 a = num8 b) : a = b := by
  unfold num8 at h
  simp only [List.cons.injEq, and_true] at h
  obtain ⟨h7, h6, h5, h4, h3, h2, h1, h0⟩ := h
  unfold inI at ha hb
  have k7 : a / 2 ^ 56 = b / 2 ^ 56 := by
    have := byte_eq h7
    have e : (2 : Int) ^ 56 = 72057594037927936 := by decide
    rw [e] at this ⊢
    omega
  have k6 := up 48 k7 (byte_eq h6)
  have k5 := up 40 k6 (byte_eq h5)
  have k4 := up 32 k5 (byte_eq h4)
  have k3 := up 24 k4 (byte_eq h3)
  have k2 := up 16 k3 (byte_eq h2)
  have k1 := up 8 k2 (byte_eq h1)
  have k0 := up 0 k1 (byte_eq h0)
  simpa using k0
theorem pre_num : Pre num8 inI := by
  intro x y r s hx hy _ h
  obtain ⟨h1, h2⟩ := List.append_inj h rfl
  exact ⟨num8_inj hx hy h1, h2⟩
theorem data_inj {a b : ByteArray} (h : a.data.toList = b.data.toList) : a = b := by
  cases a; cases b
  simp only at h
  rw [Array.toList_inj.1 h]
theorem pre_text : Pre textL (fun _ => True) := by
  intro x y r s _ _ hl h
  have hl2 := hl
  rw [h] at hl2
  unfold textL at h
  rw [List.length_append, obj.text_len] at hl hl2
  rw [List.append_assoc, List.append_assoc] at h
  obtain ⟨h1, h2⟩ := List.append_inj h rfl
  have h3 : (x.size : Int) = y.size := num8_inj (by unfold inI; omega) (by unfold inI; omega) h1
  obtain ⟨h4, h5⟩ := List.append_inj h2 (by
    show x.data.toList.length = y.data.toList.length
    rw [Array.length_toList, Array.length_toList]
    show x.size = y.size
    omega)
  exact ⟨data_inj h4, h5⟩
theorem pre_truth : Pre truthL (fun _ => True) := by
  intro x y r s _ _ _ h
  unfold truthL at h
  obtain ⟨h1, h2⟩ := List.append_inj h rfl
  refine ⟨?_, h2⟩
  have := num8_inj (by cases x <;> (unfold inI; decide)) (by cases y <;> (unfold inI; decide)) h1
  cases x <;> cases y <;> simp_all
theorem pre_flat {α : Type} {f : α → List UInt8} {P : α → Prop} (hf : Pre f P) : ∀ (l m : List α) (r s : List UInt8), l.length = m.length → (∀ x ∈ l, P x) → (∀ x ∈ m, P x) → (l.flatMap f ++ r).length ≤ 4611686018427387904 → l.flatMap f ++ r = m.flatMap f ++ s → l = m ∧ r = s := by
  intro l
  induction l with
  | nil =>
    intro m r s hl _ _ _ h
    cases m with
    | nil => exact ⟨rfl, by simpa using h⟩
    | cons y t => simp at hl
  | cons x t ih =>
    intro m r s hl hp hq hn h
    cases m with
    | nil => simp at hl
    | cons y u =>
      rw [List.flatMap_cons, List.append_assoc] at h hn
      rw [List.flatMap_cons, List.append_assoc] at h
      obtain ⟨rfl, h2⟩ := hf x y _ _ (hp x (List.mem_cons_self ..)) (hq y (List.mem_cons_self ..)) hn h
      obtain ⟨rfl, h3⟩ := ih u r s (by simpa using hl) (fun z hz => hp z (List.mem_cons_of_mem _ hz)) (fun z hz => hq z (List.mem_cons_of_mem _ hz)) (by rw [List.length_append] at hn; omega) h2
      exact ⟨rfl, h3⟩
def rowL {α : Type} (f : α → List UInt8) (l : List α) : List UInt8 := num8 l.length ++ l.flatMap f
theorem pre_row {α : Type} {f : α → List UInt8} {P : α → Prop} (hf : Pre f P) (hpos : ∀ x, 1 ≤ (f x).length) : Pre (rowL f) (fun l => ∀ x ∈ l, P x) := by
  intro l m r s hl hm hn h
  have hn2 := hn
  rw [h] at hn2
  have many : ∀ k : List α, k.length ≤ (k.flatMap f).length := by
    intro k
    induction k with
    | nil => exact Nat.zero_le _
    | cons x t ih => rw [List.flatMap_cons, List.length_append, List.length_cons]; have := hpos x; omega
  unfold rowL at h hn hn2
  rw [List.append_assoc] at h hn hn2
  rw [List.append_assoc] at h
  rw [List.length_append, List.length_append] at hn hn2
  have m1 := many l
  have m2 := many m
  obtain ⟨h1, h2⟩ := List.append_inj h rfl
  have h3 : (l.length : Int) = m.length := num8_inj (by unfold inI; omega) (by unfold inI; omega) h1
  exact pre_flat hf l m r s (by omega) hl hm (by rw [List.length_append]; omega) h2
/-- one behind the other -/
theorem step {α : Type} {f : α → List UInt8} {P : α → Prop} (hf : Pre f P) {x y : α} {r s : List UInt8} (h : f x ++ r = f y ++ s) (hx : P x) (hy : P y) (hn : (f x ++ r).length ≤ 4611686018427387904) : x = y ∧ r = s ∧ r.length ≤ 4611686018427387904 := by
  obtain ⟨h1, h2⟩ := hf x y r s hx hy hn h
  exact ⟨h1, h2, by rw [List.length_append] at hn; omega⟩
theorem pos_num (n : Int) : 1 ≤ (num8 n).length := by rw [obj.num8_len]; decide
theorem pos_text (s : ByteArray) : 1 ≤ (textL s).length := by rw [obj.text_len]; omega
theorem nums2 (a b : Int) : numsL [a, b] = num8 a ++ (num8 b ++ []) := by simp [numsL]
theorem nums4 (a b c d : Int) : numsL [a, b, c, d] = num8 a ++ (num8 b ++ (num8 c ++ (num8 d ++ []))) := by simp [numsL]
theorem pre_var : Pre varL (fun v => inI v.label ∧ inI v.size) := by
  rintro ⟨n1, p1, l1, s1⟩ ⟨n2, p2, l2, s2⟩ r s ⟨hx1, hx2⟩ ⟨hy1, hy2⟩ hn h
  simp only [varL, nums2, List.append_assoc, List.nil_append] at h hn
  simp only at hx1 hx2 hy1 hy2
  obtain ⟨rfl, h, hn⟩ := step pre_text h trivial trivial hn
  obtain ⟨rfl, h, hn⟩ := step pre_truth h trivial trivial hn
  obtain ⟨rfl, h, hn⟩ := step pre_num h hx1 hy1 hn
  obtain ⟨rfl, h, hn⟩ := step pre_num h hx2 hy2 hn
  exact ⟨rfl, h⟩
theorem pos_var (v : FVar) : 1 ≤ (varL v).length := by unfold varL; (repeat rw [List.length_append]); have := pos_text v.name; omega
theorem pre_proc : Pre procL (fun p => (∀ q ∈ p.params, inI q) ∧ inI p.writes ∧ inI p.given) := by
  rintro ⟨n1, p1, l1, w1, g1, v1⟩ ⟨n2, p2, l2, w2, g2, v2⟩ r s ⟨hx1, hx2, hx3⟩ ⟨hy1, hy2, hy3⟩ hn h
  have e : ∀ (l : List Int) (t : List UInt8), num8 l.length ++ (numsL l ++ t) = rowL num8 l ++ t := fun l t => by simp [rowL, numsL]
  simp only [procL, List.append_assoc, e] at h hn
  simp only at hx1 hx2 hx3 hy1 hy2 hy3
  obtain ⟨rfl, h, hn⟩ := step pre_text h trivial trivial hn
  obtain ⟨rfl, h, hn⟩ := step pre_truth h trivial trivial hn
  obtain ⟨rfl, h, hn⟩ := step (pre_row pre_num pos_num) h hx1 hy1 hn
  obtain ⟨rfl, h, hn⟩ := step pre_num h hx2 hy2 hn
  obtain ⟨rfl, h, hn⟩ := step pre_truth h trivial trivial hn
  obtain ⟨rfl, h, hn⟩ := step pre_num h hx3 hy3 hn
  exact ⟨rfl, h⟩
theorem pos_proc (p : FProc) : 1 ≤ (procL p).length := by unfold procL; (repeat rw [List.length_append]); have := pos_text p.name; omega
theorem pre_face : Pre faceL FaceNums := by
  rintro ⟨n1, v1, p1⟩ ⟨n2, v2, p2⟩ r s hx hy hn h
  have e : ∀ (l : List FVar) (t : List UInt8), num8 l.length ++ (l.flatMap varL ++ t) = rowL varL l ++ t := fun l t => by simp [rowL]
  have e2 : ∀ (l : List FProc) (t : List UInt8), num8 l.length ++ (l.flatMap procL ++ t) = rowL procL l ++ t := fun l t => by simp [rowL]
  simp only [faceL, List.append_assoc, e, e2] at h hn
  have a1 := hx.vars
  have a2 := hx.procs
  have b1 := hy.vars
  have b2 := hy.procs
  simp only at a1 a2 b1 b2
  obtain ⟨rfl, h, hn⟩ := step pre_text h trivial trivial hn
  obtain ⟨rfl, h, hn⟩ := step (pre_row pre_var pos_var) h a1 b1 hn
  obtain ⟨rfl, h, hn⟩ := step (pre_row pre_proc pos_proc) h a2 b2 hn
  exact ⟨rfl, h⟩
theorem pos_face (f : FFace) : 1 ≤ (faceL f).length := by unfold faceL; (repeat rw [List.length_append]); have := pos_text f.modn; omega
theorem pre_plc : Pre plcL (fun p => inI p.at_) := by
  rintro ⟨n1, a1⟩ ⟨n2, a2⟩ r s hx hy hn h
  simp only [plcL, List.append_assoc] at h hn
  simp only at hx hy
  obtain ⟨rfl, h, hn⟩ := step pre_text h trivial trivial hn
  obtain ⟨rfl, h, hn⟩ := step pre_num h hx hy hn
  exact ⟨rfl, h⟩
theorem pos_plc (p : FPlc) : 1 ≤ (plcL p).length := by unfold plcL; (repeat rw [List.length_append]); have := pos_text p.name; omega
theorem pre_ins : Pre insL (fun i => (∀ y ∈ [i.op, i.a, i.b, i.c], inI y) ∧ inI i.n) := by
  rintro ⟨o1, a1, b1, c1, n1⟩ ⟨o2, a2, b2, c2, n2⟩ r s ⟨hx, hx5⟩ ⟨hy, hy5⟩ hn h
  simp only [insL, nums4, List.append_assoc, List.nil_append] at h hn
  simp only [List.mem_cons, List.mem_nil_iff, or_false, forall_eq_or_imp, forall_eq] at hx hy
  simp only at hx5 hy5
  obtain ⟨rfl, h, hn⟩ := step pre_num h hx.1 hy.1 hn
  obtain ⟨rfl, h, hn⟩ := step pre_num h hx.2.1 hy.2.1 hn
  obtain ⟨rfl, h, hn⟩ := step pre_num h hx.2.2.1 hy.2.2.1 hn
  obtain ⟨rfl, h, hn⟩ := step pre_num h hx.2.2.2 hy.2.2.2 hn
  obtain ⟨rfl, h, hn⟩ := step pre_num h hx5 hy5 hn
  exact ⟨rfl, h⟩
theorem pos_ins (i : Ins) : 1 ≤ (insL i).length := by unfold insL; (repeat rw [List.length_append]); have := pos_num i.n; omega
theorem pre_rel : Pre relL (fun x => ∀ y ∈ [x.at_, x.kind], inI y) := by
  rintro ⟨a1, k1, m1, n1⟩ ⟨a2, k2, m2, n2⟩ r s hx hy hn h
  simp only [relL, nums2, List.append_assoc, List.nil_append] at h hn
  simp only [List.mem_cons, List.mem_nil_iff, or_false, forall_eq_or_imp, forall_eq] at hx hy
  obtain ⟨rfl, h, hn⟩ := step pre_num h hx.1 hy.1 hn
  obtain ⟨rfl, h, hn⟩ := step pre_num h hx.2 hy.2 hn
  obtain ⟨rfl, h, hn⟩ := step pre_text h trivial trivial hn
  obtain ⟨rfl, h, hn⟩ := step pre_text h trivial trivial hn
  exact ⟨rfl, h⟩
theorem pos_rel (x : FRel) : 1 ≤ (relL x).length := by unfold relL; (repeat rw [List.length_append]); have := pos_text x.name; omega
structure PlcNums (x : FObj) : Prop where
  procs : ∀ p ∈ x.procs, inI p.at_
  lows : ∀ p ∈ x.lows, inI p.at_
  highs : ∀ p ∈ x.highs, inI p.at_
theorem pre_obj : Pre objL (fun x => ObjNums x ∧ PlcNums x) := by
  rintro ⟨f1, i1, c1, r1, p1, l1, h1, w1, x1, y1, z1⟩ ⟨f2, i2, c2, r2, p2, l2, h2, w2, x2, y2, z2⟩ r s ⟨hx, px⟩ ⟨hy, py⟩ hn h
  have e1 : ∀ (l : List FFace) (t : List UInt8), num8 l.length ++ (l.flatMap faceL ++ t) = rowL faceL l ++ t := fun l t => by simp [rowL]
  have e2 : ∀ (l : List Ins) (t : List UInt8), num8 l.length ++ (l.flatMap insL ++ t) = rowL insL l ++ t := fun l t => by simp [rowL]
  have e3 : ∀ (l : List FRel) (t : List UInt8), num8 l.length ++ (l.flatMap relL ++ t) = rowL relL l ++ t := fun l t => by simp [rowL]
  have e4 : ∀ (l : List FPlc) (t : List UInt8), num8 l.length ++ (l.flatMap plcL ++ t) = rowL plcL l ++ t := fun l t => by simp [rowL]
  simp only [objL, placesL, nums4, List.append_assoc, e1, e2, e3, e4, List.nil_append] at h hn
  have a1 := hx.face
  have a2 := hx.imports
  have a3 := hx.code
  have a4 := hx.relocs
  have a5 := hx.words
  have a6 := px.procs
  have a7 := px.lows
  have a8 := px.highs
  have b1 := hy.face
  have b2 := hy.imports
  have b3 := hy.code
  have b4 := hy.relocs
  have b5 := hy.words
  have b6 := py.procs
  have b7 := py.lows
  have b8 := py.highs
  simp only [List.mem_cons, List.mem_nil_iff, or_false, forall_eq_or_imp, forall_eq] at a5 b5
  obtain ⟨rfl, h, hn⟩ := step pre_face h a1 b1 hn
  obtain ⟨rfl, h, hn⟩ := step (pre_row pre_face pos_face) h a2 b2 hn
  obtain ⟨rfl, h, hn⟩ := step (pre_row pre_ins pos_ins) h a3 b3 hn
  obtain ⟨rfl, h, hn⟩ := step (pre_row pre_rel pos_rel) h a4 b4 hn
  obtain ⟨rfl, h, hn⟩ := step (pre_row pre_plc pos_plc) h a6 b6 hn
  obtain ⟨rfl, h, hn⟩ := step (pre_row pre_plc pos_plc) h a7 b7 hn
  obtain ⟨rfl, h, hn⟩ := step (pre_row pre_plc pos_plc) h a8 b8 hn
  obtain ⟨rfl, h, hn⟩ := step pre_num h a5.1 b5.1 hn
  obtain ⟨rfl, h, hn⟩ := step pre_num h a5.2.1 b5.2.1 hn
  obtain ⟨rfl, h, hn⟩ := step pre_num h a5.2.2.1 b5.2.2.1 hn
  obtain ⟨rfl, h, hn⟩ := step pre_num h a5.2.2.2 b5.2.2.2 hn
  exact ⟨rfl, h⟩
/-- two objects with the same bytes are the same -/
theorem objL_inj {x y : FObj} (hx : ObjNums x ∧ PlcNums x) (hy : ObjNums y ∧ PlcNums y) (hn : (objL x).length ≤ 4611686018427387904) (h : objL x = objL y) : x = y :=
  (pre_obj x y [] [] hx hy (by simpa using hn) (by simpa using h)).1
end objInj
end Go.Proofs.YtpcihajmcejliabGreatDoor
