/- The words that are said are short. What form a node has that a text is read as, in plain Lean. A node is printed just where it has the form of one that is read. The reference's rules of what a node may be: counts, classes, Parts, texts, signs. -/
import Derived.Lib.ItoaLen
import Derived.Lib.Join
import Derived.Test.YtpcihajmcejliabGreatDoorPrtR
import Derived.Test.YtpcihajmcejliabGreatDoorSyn11
namespace Go.Proofs.YtpcihajmcejliabGreatDoor
open Go.RowKit
namespace prt
open synw
def ShortP (p : PO) : Prop := ∀ w ∈ p.2, w.size ≤ 24
theorem short_then {a b : PO} (ha : ShortP a) (hb : ShortP b) : ShortP (a.then b) := by
 unfold PO.then
 split
 ·intro w hw
  rcases List.mem_append.1 hw with h | h
  ·exact ha w h
  ·exact hb w h
 ·exact ha
theorem short_must {b : Bool} {p : PO} (h : b = true → ShortP p) : ShortP ((mustP b).then p) := by
 cases b with
 | false => intro w hw; simp [PO.then, mustP] at hw
 | true => exact short_then (fun w hw => by simp [mustP] at hw) (h rfl)
theorem short_nil : ShortP (sayP []) := fun w hw => by simp [sayP] at hw
theorem short_one {s : ByteArray} (h : s.size ≤ 24) : ShortP (sayP [s]) := fun w hw => by
 obtain rfl : w = s := by simpa [sayP] using hw
 exact h
theorem short_two {s t : ByteArray} (h : s.size ≤ 24) (h2 : t.size ≤ 24) : ShortP (sayP [s, t]) := fun w hw => by
 have hw2 : w = s ∨ w = t := by simpa [sayP] using hw
 rcases hw2 with rfl | rfl
 ·exact h
 ·exact h2
theorem short_three {s t r : ByteArray} (h : s.size ≤ 24) (h2 : t.size ≤ 24) (h3 : r.size ≤ 24) : ShortP (sayP [s, t, r]) := fun w hw => by
 have hw2 : w = s ∨ w = t ∨ w = r := by simpa [sayP] using hw
 rcases hw2 with rfl | rfl | rfl
 ·exact h
 ·exact h2
 ·exact h3
theorem short_name {t : ByteArray} (h : nameB t.data.toList = true) : t.size ≤ 24 := by
 unfold nameB wordB at h; simp only [Bool.and_eq_true, decide_eq_true_eq] at h; have h2 := h.1.1.2; rw [Array.length_toList] at h2; exact Nat.le_trans h2 (by decide)
theorem short_named {t : ByteArray} {m : Int} {n : Nat} {a b c : Int} (h : namedB t m n a b c = true) : t.size ≤ 24 := by
 unfold namedB at h; simp only [Bool.and_eq_true] at h; exact short_name h.1
theorem short_lab (b : Bool) : ShortP (sayP [labW b]) := short_one (by cases b <;> decide)
theorem short_pub (m : Int) : ShortP (sayP (pubW m)) := by
 unfold pubW; split
 ·exact short_one (by decide)
 ·exact short_nil
theorem word_whole (t : ByteArray) (m : Int) (n : Nat) (a b : Int) : ShortP (wholeP t m n a b) := by
 unfold wholeP; refine short_must fun h => ?_
 unfold wholeB at h; simp only [Bool.and_eq_true, Bool.or_eq_true, Bool.not_eq_true'] at h; obtain ⟨⟨h1, h2⟩, -⟩ := h; unfold wholeW; cases hc : (cutB t).2.2 with
 | false => exact short_one (short_name h1)
 | true =>
  rw [hc] at h2; exact short_three (short_name h1) (by decide) (short_name (by simpa using h2))
theorem short_sign (m : Int) : (signF m).1.size ≤ 24 := by
 unfold signF
 repeat' split
 all_goals decide
theorem short_wrap {b : Bool} {p : PO} (h : ShortP p) : ShortP (wrapP b p) := by
 unfold wrapP; split
 ·intro w hw
  have hw2 : w = sOpen ∨ w ∈ p.2 ∨ w = sClose := by simpa using hw
  rcases hw2 with rfl | h2 | rfl
  ·decide
  ·exact h w h2
  ·decide
 ·exact h
theorem short_kid {ks : List PO} (h : ∀ p ∈ ks, ShortP p) (j : Nat) : ShortP (kidP ks j) := by
 unfold kidP; rw [List.getD_eq_getElem?_getD]; cases hj : ks[j]? with
 | none => exact short_nil
 | some p => exact h p (List.mem_of_getElem? hj)
theorem short_com : ∀ {ks : List PO} (_ : ∀ p ∈ ks, ShortP p) (f : Bool), ShortP (comP ks f)
 | [], _, _ => short_nil
 | a :: r, h, f => by
  rw [comP]; refine short_then ?_ (short_then (h a (List.mem_cons_self ..)) (short_com (fun p hp => h p (List.mem_cons_of_mem _ hp)) false))
  split
  ·exact short_nil
  ·exact short_one (by decide)
theorem short_seq : ∀ {ks : List PO} (_ : ∀ p ∈ ks, ShortP p), ShortP (seqP ks)
 | [], _ => short_nil
 | a :: r, h => by
  rw [seqP]; exact short_then (h a (List.mem_cons_self ..)) (short_seq (fun p hp => h p (List.mem_cons_of_mem _ hp)))
def FewD (m : Int) : Prop := 0 ≤ m → (digW m).size ≤ 24
theorem short_fin {k : Int} {t : ByteArray} {m : Int} {n : Nat} {least : Int} {ks : List PO} (hm : FewD m) (h : ∀ p ∈ ks, ShortP p) : ShortP (finP k t m n least ks) := by
 unfold finP; split
 ·exact short_must fun _ => short_must fun _ => short_wrap (short_then (short_kid h 0) (short_then (short_one (short_sign m)) (short_kid h 1)))
 ·split
  ·exact short_must fun _ => short_then (short_one (by split <;> decide)) (short_kid h 0)
  ·split
   ·refine short_must fun hb => short_one (hm ?_)
    simp only [Bool.and_eq_true, decide_eq_true_eq] at hb; exact hb.1.2
   ·split
    ·exact short_then (word_whole _ _ _ _ _) (short_then (short_one (by decide)) (short_then (short_kid h 0) (short_one (by decide))))
    ·split
     ·exact short_then (word_whole _ _ _ _ _) (short_then (short_one (by decide)) (short_then (short_com h true) (short_one (by decide))))
     ·exact short_must fun _ => word_whole _ _ _ _ _
theorem short_finS {k : Int} {t : ByteArray} {m kd : Int} {ks : List (PO × PO)} (h : ∀ p ∈ ks, ShortP p.1 ∧ ShortP p.2) : ShortP (finS k t m kd ks) := by
 have h1 : ∀ p ∈ ks.map Prod.fst, ShortP p := fun p hp => by obtain ⟨q, hq, rfl⟩ := List.mem_map.1 hp; exact (h q hq).1
 have h2 : ∀ p ∈ ks.map Prod.snd, ShortP p := fun p hp => by obtain ⟨q, hq, rfl⟩ := List.mem_map.1 hp; exact (h q hq).2
 have hs : ShortP (sayP [sSemi]) := short_one (by decide); unfold finS; split
 ·refine short_must fun _ => short_then (short_one (by split <;> decide)) (short_then (short_one (by decide)) (short_then (short_kid h1 0) (short_then (short_one (by decide)) (short_then (short_kid h2 1) ?_))))
  split
  ·exact short_then (short_one (by decide)) (short_kid h2 2)
  ·exact short_nil
 ·split
  ·exact short_must fun hp => short_then (short_lab _) (short_then (short_two (short_named hp) (by decide)) (short_then (short_kid h1 0) hs))
  ·split
   ·exact short_must fun _ => short_must fun _ => short_then (short_kid h1 0) (short_then (short_one (by decide)) (short_then (short_kid h1 1) hs))
   ·split
    ·exact short_must fun _ => short_must fun _ => short_then (short_one (by decide)) (short_then (short_kid h1 0) hs)
    ·split
     ·exact short_must fun _ => short_must fun _ => short_then (short_one (by split <;> decide)) (short_then (short_lab _) (short_then (short_kid h1 0) hs))
     ·exact short_must fun _ => short_must fun _ => short_then (short_one (by decide)) (short_then (short_kid h1 0) hs)
theorem short_finB {k : Int} {t : ByteArray} {m : Int} {ks : List PO} (h : ∀ p ∈ ks, ShortP p) : ShortP (finB k t m ks) := by
 unfold finB; exact short_must fun _ => short_must fun _ => short_then (short_one (by decide)) (short_then (short_seq h) (short_one (by decide)))
theorem join_le (l : List ByteArray) (h : ∀ w ∈ l, w.size ≤ 24) : (Lib.join (l.map fun s => s.data.toList) [32]).length ≤ 25 * l.length := by
 have hl : ∀ r : List ByteArray, (∀ w ∈ r, w.size ≤ 24) → Lib.lens (r.map fun s => s.data.toList) ≤ 24 * r.length := by
  intro r; induction r with
  | nil => intro _; simp [Lib.lens]
  | cons x r ih =>
   intro h2; have h3 := ih fun w hw => h2 w (List.mem_cons_of_mem _ hw)
   have h4 := h2 x (List.mem_cons_self ..); have h5 : x.data.toList.length = x.size := by rw [Array.length_toList]; rfl
   simp only [Lib.lens, List.map_cons, List.sum_cons, List.length_cons] at h3 ⊢; omega
 cases l with
 | nil => simp [Lib.join_nil]
 | cons x r =>
  have h1 := hl (x :: r) h; rw [List.map_cons] at h1 ⊢; rw [Lib.join_length]; simp only [List.length_cons, List.length_nil, List.length_map] at h1 ⊢; omega
theorem ng_kids {w : World} {k m : Int} {t : ByteArray} {l : List Nd} {v : Value} (h : NgAt w (.mk k t m l) v) : FewD m ∧ ∀ y ∈ l, ∃ u, NgAt w y u := by
 rw [ngAt_mk] at h; obtain ⟨a, c, -, -, -, ⟨-, h1, h2⟩, h3⟩ := h; refine ⟨fun h0 => ?_, fun y hy => ?_⟩
 ·have h4 := Lib.itoa_length_le m h1 h2
  show (Lib.itoa m).toArray.size ≤ 24
  rw [List.size_toArray]; omega
 ·obtain ⟨j, hj, rfl⟩ := List.getElem_of_mem hy
  obtain ⟨b, o, -, -, u, hu, -⟩ := h3 j hj; exact ⟨u, hu⟩
theorem short_exP {w : World} : ∀ (x : Nd) (least : Int), (∃ v, NgAt w x v) → ShortP (exP least x) := by
 refine nd_ind fun k t m l ih least ⟨v, hv⟩ => ?_
 obtain ⟨hm, hk⟩ := ng_kids hv; rw [exP]
 have hK : ∀ (r : List Nd) (j : Nat), (∀ x ∈ r, x ∈ l) → ∀ p ∈ exK k m r j, ShortP p := by
  intro r; induction r with
  | nil => intro j _ p hp; simp [exK] at hp
  | cons x r ih2 =>
   intro j hr p hp; rw [exK] at hp; rcases List.mem_cons.1 hp with rfl | hp
   ·exact ih x (hr x (List.mem_cons_self ..)) _ (hk x (hr x (List.mem_cons_self ..)))
   ·exact ih2 (j + 1) (fun y hy => hr y (List.mem_cons_of_mem _ hy)) p hp
 exact short_fin hm (hK l 0 fun x hx => hx)
theorem short_stP {w : World} : ∀ (x : Nd), (∃ v, NgAt w x v) → ShortP (stP x) ∧ ShortP (blP x) := by
 refine nd_ind fun k t m l ih ⟨v, hv⟩ => ?_
 obtain ⟨hm, hk⟩ := ng_kids hv
 have hK : ∀ (r : List Nd), (∀ x ∈ r, x ∈ l) → (∀ p ∈ stK r, ShortP p.1 ∧ ShortP p.2) ∧ ∀ p ∈ stL r, ShortP p := by
  intro r; induction r with
  | nil => intro _; exact ⟨fun p hp => by simp [stK] at hp, fun p hp => by simp [stL] at hp⟩
  | cons x r ih2 =>
   intro hr; have hx := hr x (List.mem_cons_self ..); obtain ⟨i1, i2⟩ := ih2 fun y hy => hr y (List.mem_cons_of_mem _ hy)
   rw [stK, stL]; refine ⟨fun p hp => ?_, fun p hp => ?_⟩
   ·rcases List.mem_cons.1 hp with rfl | hp
    ·exact ⟨short_exP x 0 (hk x hx), (ih x hx (hk x hx)).2⟩
    ·exact i1 p hp
   ·rcases List.mem_cons.1 hp with rfl | hp
    ·exact (ih x hx (hk x hx)).1
    ·exact i2 p hp
 obtain ⟨h1, h2⟩ := hK l fun x hx => hx
 rw [stP, blP]; exact ⟨short_finS h1, short_finB h2⟩
theorem short_var {w : World} (x : Nd) (h : ∃ v, NgAt w x v) : ShortP (varP x) := by
 obtain ⟨k, t, m, l⟩ := x; obtain ⟨v, hv⟩ := h; obtain ⟨-, hk⟩ := ng_kids hv; unfold varP; refine short_must fun hn => short_then (short_pub m) (short_then (short_lab _) (short_then (short_one (short_named hn)) (short_then (short_seq fun p hp => ?_) (short_one (by decide)))))
 obtain ⟨x, hx, rfl⟩ := List.mem_map.1 hp; exact short_must fun _ => short_then (short_one (by decide)) (short_then (short_exP x 0 (hk x hx)) (short_one (by decide)))
theorem short_pars : ∀ (l : List Nd) (i : Nat), ShortP (parsP l i)
 | [], _ => short_nil
 | x :: r, i => by
  rw [parsP]; refine short_then ?_ (short_pars r (i + 1))
  unfold parP; refine short_must fun _ => short_then ?_ (short_must fun hn => short_then (short_lab _) (short_one (short_named hn)))
  split
  ·exact short_one (by decide)
  ·exact short_nil
theorem short_proc {w : World} (x : Nd) (h : ∃ v, NgAt w x v) : ShortP (procP x) := by
 obtain ⟨k, t, m, l⟩ := x; obtain ⟨v, hv⟩ := h; obtain ⟨-, hk⟩ := ng_kids hv; unfold procP; refine short_must fun hn => short_then (short_pub m) (short_then (short_three (by decide) (short_named hn) (by decide)) (short_then (short_pars _ 0) (short_then (short_one (by decide)) (short_then (short_lab _) (short_then ?_ ?_)))))
 ·split
  ·exact short_then (short_one (by decide)) (short_lab _)
  ·exact short_nil
 ·obtain ⟨-, -, hN, -⟩ := named_m hn
  rcases List.eq_nil_or_concat l with e | ⟨ps, bb, e⟩
  ·rw [e] at hN; simp at hN
  ·rw [List.concat_eq_append] at e
   subst e; rw [List.getLastD_concat]; exact (short_stP bb (hk bb (by simp))).2
theorem short_decls {w : World} : ∀ (l : List Nd) (d : Bool), (∀ y ∈ l, ∃ u, NgAt w y u) → ShortP (declsP l d)
 | [], _, _ => short_nil
 | x :: r, d, h => by
  rw [declsP]; refine short_then ?_ (short_decls r _ fun y hy => h y (List.mem_cons_of_mem _ hy))
  have hx := h x (List.mem_cons_self ..); unfold declP; split
  ·exact short_must fun _ => short_must fun hn => short_three (by decide) (short_named hn) (by decide)
  ·split
   ·exact short_var x hx
   ·exact short_must fun _ => short_proc x hx
theorem short_mod {w : World} (x : Nd) (h : ∃ v, NgAt w x v) : ShortP (modP x) := by
 obtain ⟨k, t, m, l⟩ := x; obtain ⟨v, hv⟩ := h; obtain ⟨-, hk⟩ := ng_kids hv; unfold modP; exact short_must fun _ => short_must fun hn => short_then (short_three (by decide) (short_named hn) (by decide)) (short_decls l false hk)
theorem decls_len : ∀ (l : List Nd) (d : Bool), (declsP l d).2.length ≤ 12 * szL l
 | [], _ => by simp [declsP, sayP]
 | x :: r, d => by
  have h1 := decls_len r (d || !decide (x.kd = 2)); have h2 := po_len (declP d x) (declsP r (d || !decide (x.kd = 2)))
  have h3 : (declP d x).2.length ≤ 12 * szF x := by
   have hp := szF_pos x; have hv := var_len x; have hq := proc_len x; unfold declP; split
   ·refine Nat.le_trans (must_le _ _) (Nat.le_trans (must_le _ _) ?_)
    have h4 : (sayP [sImport, x.tx, sSemi]).2.length = 3 := rfl; omega
   ·split
    ·omega
    ·have h4 := must_le (decide (x.kd = 4)) (procP x)
     omega
  rw [declsP]; simp only [szL]; omega
theorem mod_len (x : Nd) : (modP x).2.length ≤ 12 * szF x := by
 obtain ⟨k, t, m, l⟩ := x; unfold modP; refine Nat.le_trans (must_le _ _) (Nat.le_trans (must_le _ _) ?_)
 rw [say_len]; have h1 := decls_len l false; simp only [szF, List.length_cons, List.length_nil]; omega
end prt
end Go.Proofs.YtpcihajmcejliabGreatDoor
namespace Go.Proofs.YtpcihajmcejliabGreatDoor
open Go.RowKit
def NameT (t : ByteArray) : Prop := nameB t.data.toList = true
def WholeT (t : ByteArray) : Prop := NameT t ∨ ∃ a b, NameT a ∧ NameT b ∧ t = a ++ (sDot ++ b)
def KdE (k : Int) : Prop := 15 ≤ k ∧ k ≤ 21
def KdP (k : Int) : Prop := k = 16 ∨ k = 17
def KdS (k : Int) : Prop := 7 ≤ k ∧ k ≤ 14
inductive Form : Int → ByteArray → Int → List Nd → Prop
 | module {t : ByteArray} {a b : List Nd} (ht : NameT t) (ha : ∀ y ∈ a, y.kd = 2) (hb : ∀ y ∈ b, y.kd = 3 ∨ y.kd = 4) : Form 1 t 0 (a ++ b)
 | imp {t : ByteArray} (ht : NameT t) : Form 2 t 0 []
 | var {t : ByteArray} {m : Int} (ht : NameT t) (h0 : 0 ≤ m) (h1 : m ≤ 3) : Form 3 t m []
 | array {t : ByteArray} {m : Int} {y : Nd} (ht : NameT t) (h0 : 0 ≤ m) (h1 : m ≤ 3) (hy : y.kd = 15) : Form 3 t m [y]
 | proc {t : ByteArray} {m : Int} {ps : List Nd} {b : Nd} (ht : NameT t) (h0 : 0 ≤ m) (h1 : m ≤ 11) (hp : ∀ y ∈ ps, y.kd = 5) (hb : b.kd = 6) : Form 4 t m (ps ++ [b])
 | param {t : ByteArray} {m : Int} (ht : NameT t) (h0 : 0 ≤ m) (h1 : m ≤ 1) : Form 5 t m []
 | block {l : List Nd} (hl : ∀ y ∈ l, KdS y.kd) : Form 6 noText 0 l
 | loc {t : ByteArray} {m : Int} {x : Nd} (ht : NameT t) (h0 : 0 ≤ m) (h1 : m ≤ 1) (hx : KdE x.kd) : Form 7 t m [x]
 | set {p x : Nd} (hp : KdP p.kd) (hx : KdE x.kd) : Form 8 noText 0 [p, x]
 | do_ {c : Nd} (hc : c.kd = 18) : Form 9 noText 0 [c]
 | if2 {x b : Nd} (hx : KdE x.kd) (hb : b.kd = 6) : Form 10 noText 0 [x, b]
 | if3 {x b c : Nd} (hx : KdE x.kd) (hb : b.kd = 6) (hc : c.kd = 6) : Form 10 noText 0 [x, b, c]
 | while_ {x b : Nd} (hx : KdE x.kd) (hb : b.kd = 6) : Form 11 noText 0 [x, b]
 | out {m : Int} {x : Nd} (h0 : 0 ≤ m) (h1 : m ≤ 1) (hx : KdE x.kd) : Form 12 noText m [x]
 | inp {m : Int} {x : Nd} (h0 : 0 ≤ m) (h1 : m ≤ 1) (hx : KdP x.kd) : Form 13 noText m [x]
 | ret {x : Nd} (hx : KdE x.kd) : Form 14 noText 0 [x]
 | num {m : Int} (h0 : 0 ≤ m) (h1 : m < 9223372036854775808) : Form 15 noText m []
 | name {t : ByteArray} (ht : WholeT t) : Form 16 t 0 []
 | item {t : ByteArray} {x : Nd} (ht : WholeT t) (hx : KdE x.kd) : Form 17 t 0 [x]
 | call {t : ByteArray} {l : List Nd} (ht : WholeT t) (hl : ∀ y ∈ l, KdE y.kd) : Form 18 t 0 l
 | op {m : Int} {x y : Nd} (h0 : 1 ≤ m) (h1 : m ≤ 9) (hx : KdE x.kd) (hy : KdE y.kd) : Form 19 noText m [x, y]
 | neg {x : Nd} (hx : KdE x.kd) : Form 20 noText 0 [x]
 | not_ {x : Nd} (hx : KdE x.kd) : Form 21 noText 0 [x]
inductive IsNd : Nd → Prop
 | mk {k : Int} {t : ByteArray} {m : Int} {l : List Nd} (hf : Form k t m l) (hl : ∀ y ∈ l, IsNd y) : IsNd (.mk k t m l)
theorem IsNd.form {k : Int} {t : ByteArray} {m : Int} {l : List Nd} (h : IsNd (.mk k t m l)) : Form k t m l := by cases h; assumption
theorem IsNd.kids {k : Int} {t : ByteArray} {m : Int} {l : List Nd} (h : IsNd (.mk k t m l)) : ∀ y ∈ l, IsNd y := by cases h; assumption
namespace ndis
open ofm
theorem none1 {P : Nd → Prop} {x : Nd} (h : P x) : ∀ y ∈ [x], P y := fun y hy => by rw [List.mem_singleton] at hy; subst hy; exact h
theorem none2 {P : Nd → Prop} {x z : Nd} (h : P x) (h2 : P z) : ∀ y ∈ [x, z], P y := fun y hy => by
 simp only [List.mem_cons, List.not_mem_nil, or_false] at hy; rcases hy with rfl | rfl
 ·exact h
 ·exact h2
theorem none3 {P : Nd → Prop} {x z q : Nd} (h : P x) (h2 : P z) (h3 : P q) : ∀ y ∈ [x, z, q], P y := fun y hy => by
 simp only [List.mem_cons, List.not_mem_nil, or_false] at hy; rcases hy with rfl | rfl | rfl
 ·exact h
 ·exact h2
 ·exact h3
theorem kp_ke {k : Int} (h : KdP k) : KdE k := by unfold KdP at h; unfold KdE; omega
end ndis
end Go.Proofs.YtpcihajmcejliabGreatDoor
namespace Go.Proofs.YtpcihajmcejliabGreatDoor
open Go.RowKit
namespace prt
open synw
inductive Rng : Nd → Prop
 | mk {k : Int} {t : ByteArray} {m : Int} {l : List Nd} (hm : m < 9223372036854775808) (hl : ∀ y ∈ l, Rng y) : Rng (.mk k t m l)
theorem Rng.num {k : Int} {t : ByteArray} {m : Int} {l : List Nd} (h : Rng (.mk k t m l)) : m < 9223372036854775808 := by cases h; assumption
theorem Rng.kids {k : Int} {t : ByteArray} {m : Int} {l : List Nd} (h : Rng (.mk k t m l)) : ∀ y ∈ l, Rng y := by cases h; assumption
theorem ng_rng {w : World} : ∀ (x : Nd) (v : Value), NgAt w x v → Rng x := by
 refine nd_ind fun k t m l ih v h => ?_
 have h2 := h; rw [ngAt_mk] at h; obtain ⟨a, c, -, -, -, ⟨-, -, h1⟩, -⟩ := h; refine .mk (by omega) fun y hy => ?_
 obtain ⟨u, hu⟩ := (ng_kids h2).2 y hy; exact ih y hy u hu
theorem cut_nil : Lib.cut [] [46] = ([], [], false) := by decide
theorem cut_cons (c : UInt8) (r : List UInt8) : Lib.cut (c :: r) [46] = if c = 46 then ([], r, true) else (c :: (Lib.cut r [46]).1, (Lib.cut r [46]).2.1, (Lib.cut r [46]).2.2) := by
 by_cases h : c = 46
 ·subst h
  rw [if_pos rfl]; have : Lib.index (46 :: r) [46] = 0 := by unfold Lib.index; simp
  unfold Lib.cut; rw [this]; simp
 ·rw [if_neg h]
  have hp : ([46] : List UInt8).isPrefixOf (c :: r) = false := by
   simp [List.isPrefixOf, Ne.symm h]
  have e : Lib.index (c :: r) [46] = if Lib.index r [46] == -1 then -1 else Lib.index r [46] + 1 := by
   rw [Lib.index, if_neg (by rw [hp]; decide)]
  have hge := Lib.index_ge r [46]; unfold Lib.cut; rw [e]; generalize Lib.index r [46] = i at *; by_cases hi : i = -1
  ·subst hi
   simp
  ·have hb : (i == -1) = false := by simpa using hi
   rw [hb]; simp only [Bool.false_eq_true, if_false]; rw [if_pos (by omega), if_pos (by omega)]; have e2 : (i + 1).toNat = i.toNat + 1 := by omega
   have e3 : (i + 1).toNat + [(46 : UInt8)].length = (i.toNat + [(46 : UInt8)].length) + 1 := by rw [e2]; simp
   rw [e3, e2, List.take_succ_cons, List.drop_succ_cons]
theorem cut_join (a b : List UInt8) (h : ∀ c ∈ a, c ≠ 46) : Lib.cut (a ++ 46 :: b) [46] = (a, b, true) := by
 induction a with
 | nil => rw [List.nil_append, cut_cons, if_pos rfl]
 | cons c r ih => rw [List.cons_append, cut_cons, if_neg (h c (by simp)), ih fun d hd => h d (by simp [hd])]
theorem cut_none (a : List UInt8) (h : ∀ c ∈ a, c ≠ 46) : Lib.cut a [46] = (a, [], false) := by
 induction a with
 | nil => exact cut_nil
 | cons c r ih => rw [cut_cons, if_neg (h c (by simp)), ih fun d hd => h d (by simp [hd])]
theorem cut_back (l : List UInt8) : ((Lib.cut l [46]).2.2 = true → l = (Lib.cut l [46]).1 ++ 46 :: (Lib.cut l [46]).2.1) ∧ ((Lib.cut l [46]).2.2 = false → (Lib.cut l [46]).1 = l) := by
 induction l with
 | nil => rw [cut_nil]; exact ⟨fun h => (by cases h), fun _ => rfl⟩
 | cons c r ih =>
  rw [cut_cons]; split
  ·rename_i hc; subst hc; exact ⟨fun _ => rfl, fun h => (by cases h)⟩
  ·exact ⟨fun h => (by simpa using ih.1 h), fun h => (by simpa using ih.2 h)⟩
theorem name_dot {l : List UInt8} (h : nameB l = true) : ∀ c ∈ l, c ≠ 46 := by
 unfold nameB wordB at h; simp only [Bool.and_eq_true, List.all_eq_true] at h; rintro c hc rfl; exact absurd (h.1.2 _ hc) (by decide)
theorem ba_ext {a b : ByteArray} (h : a.data.toList = b.data.toList) : a = b := ByteArray.ext (Array.ext' h)
theorem cutB_whole {t : ByteArray} (h : WholeT t) : (NameT t ∧ cutB t = (t, noText, false)) ∨ ∃ a b, NameT a ∧ NameT b ∧ t = a ++ (sDot ++ b) ∧ cutB t = (a, b, true) := by
 rcases h with h | ⟨a, b, ha, hb, rfl⟩
 ·refine .inl ⟨h, ?_⟩
  unfold cutB; rw [cut_none _ (name_dot h)]; rfl
 ·refine .inr ⟨a, b, ha, hb, rfl, ?_⟩
  have e : (a ++ (sDot ++ b)).data.toList = a.data.toList ++ 46 :: b.data.toList := by
   simp [sDot]
  unfold cutB; rw [e, cut_join _ _ (name_dot ha)]
theorem whole_iff (t : ByteArray) : (nameB (cutB t).1.data.toList && (!(cutB t).2.2 || nameB (cutB t).2.1.data.toList)) = true ↔ WholeT t := by
 constructor
 ·intro h
  simp only [Bool.and_eq_true, Bool.or_eq_true, Bool.not_eq_true'] at h; obtain ⟨h1, h2⟩ := h; obtain ⟨b1, b2⟩ := cut_back t.data.toList; cases hc : (cutB t).2.2 with
  | false =>
   refine .inl ?_
   have e : (cutB t).1.data.toList = t.data.toList := b2 hc; unfold NameT; rw [← e]; exact h1
  | true =>
   rw [hc] at h2; refine .inr ⟨_, _, h1, h2.resolve_left (by decide), ba_ext ?_⟩
   have e := b1 hc; rw [e]; simp [sDot, cutB]
 ·intro h
  rcases cutB_whole h with ⟨h1, e⟩ | ⟨a, b, ha, hb, -, e⟩
  ·rw [e]
   have h1' : nameB t.data.toList = true := h1; simp [h1']
  ·rw [e]
   have ha' : nameB a.data.toList = true := ha; have hb' : nameB b.data.toList = true := hb; simp [ha', hb']
theorem then_ok1 {a b : PO} : (a.then b).1 = true ↔ a.1 = true ∧ b.1 = true := by
 obtain ⟨a1, a2⟩ := a; cases a1 <;> simp [PO.then]
theorem say_ok1 {l : List ByteArray} : (sayP l).1 = true ↔ True := by simp [sayP]
theorem must_ok1 {b : Bool} : (mustP b).1 = true ↔ b = true := by simp [mustP]
theorem wrap_ok1 {b : Bool} {p : PO} : (wrapP b p).1 = true ↔ p.1 = true := by unfold wrapP; split <;> rfl
theorem plain_iff {t : ByteArray} {m : Int} {n : Nat} {a b c : Int} : plainB t m n a b c = true ↔ t = noText ∧ 0 ≤ m ∧ m ≤ c ∧ a ≤ (n : Int) ∧ (b < 0 ∨ (n : Int) ≤ b) := by
 unfold plainB kidsB; simp [and_assoc]
theorem named_iff {t : ByteArray} {m : Int} {n : Nat} {a b c : Int} : namedB t m n a b c = true ↔ NameT t ∧ 0 ≤ m ∧ m ≤ c ∧ a ≤ (n : Int) ∧ (b < 0 ∨ (n : Int) ≤ b) := by
 unfold namedB kidsB NameT; simp [and_assoc]
theorem wholeP_ok {t : ByteArray} {m : Int} {n : Nat} {a b : Int} : (wholeP t m n a b).1 = true ↔ WholeT t ∧ m = 0 ∧ a ≤ (n : Int) ∧ (b < 0 ∨ (n : Int) ≤ b) := by
 unfold wholeP; rw [then_ok1, must_ok1, say_ok1, and_true]; unfold wholeB; rw [Bool.and_eq_true, whole_iff]; unfold kidsB; simp only [Bool.and_eq_true, Bool.or_eq_true, decide_eq_true_eq, and_assoc]; constructor
 ·rintro ⟨h1, h2, h3, h4⟩; exact ⟨h1, by omega, h4⟩
 ·rintro ⟨h1, h2, h4⟩; exact ⟨h1, by omega, by omega, h4⟩
theorem sign_iff {m : Int} : 0 ≤ (signF m).2 ↔ 1 ≤ m ∧ m ≤ 9 := by
 unfold signF
 repeat' split
 all_goals first | (subst m; decide) | (simp only [show ¬ (0 : Int) ≤ -1 by decide, false_iff]; omega)
theorem com_ok1 : ∀ (ks : List PO) (f : Bool), (comP ks f).1 = true ↔ ∀ p ∈ ks, p.1 = true := by
 intro ks; induction ks with
 | nil => intro f; simp [comP, sayP]
 | cons a r ih =>
  intro f; rw [comP, then_ok1, then_ok1, ih, say_ok1, List.forall_mem_cons, true_and]
theorem seq_ok1 : ∀ (ks : List PO), (seqP ks).1 = true ↔ ∀ p ∈ ks, p.1 = true := by
 intro ks; induction ks with
 | nil => simp [seqP, sayP]
 | cons a r ih => rw [seqP, then_ok1, ih, List.forall_mem_cons]
theorem exK_call (m : Int) : ∀ (l : List Nd) (j : Nat), exK 18 m l j = l.map (exP 0) := by
 intro l; induction l with
 | nil => intro j; rfl
 | cons x r ih => intro j; rw [exK, ih]; rfl
theorem noK {P : Nd → Prop} : ∀ y ∈ ([] : List Nd), P y := fun y hy => by cases hy
theorem len0 {l : List Nd} (h : (l.length : Int) ≤ 0) : l = [] := List.length_eq_zero_iff.1 (by omega)
theorem len1 {l : List Nd} (h : 1 ≤ (l.length : Int)) (h2 : (l.length : Int) ≤ 1) : ∃ a, l = [a] := List.length_eq_one_iff.1 (by omega)
theorem len2 {l : List Nd} (h : 2 ≤ (l.length : Int)) (h2 : (l.length : Int) ≤ 2) : ∃ a b, l = [a, b] := by
 rcases l with _ | ⟨a, _ | ⟨b, _ | ⟨c, r⟩⟩⟩
 ·simp at h
 ·simp at h
 ·exact ⟨a, b, rfl⟩
 ·simp at h2; omega
theorem len3 {l : List Nd} (h : 2 ≤ (l.length : Int)) (h2 : (l.length : Int) ≤ 3) : (∃ a b, l = [a, b]) ∨ ∃ a b c, l = [a, b, c] := by
 rcases l with _ | ⟨a, _ | ⟨b, _ | ⟨c, _ | ⟨d, r⟩⟩⟩⟩
 ·simp at h
 ·simp at h
 ·exact .inl ⟨a, b, rfl⟩
 ·exact .inr ⟨a, b, c, rfl⟩
 ·simp at h2; omega
theorem ke {k m : Int} {t : ByteArray} {l : List Nd} (h : 15 ≤ k ∧ k ≤ 21) : KdE (Nd.mk k t m l).kd := h
theorem most {n : Nat} {b : Int} (hb : 0 ≤ b) (h : b < 0 ∨ (n : Int) ≤ b) : (n : Int) ≤ b := by omega
theorem ex_form : ∀ (x : Nd) (least : Int), Rng x → ((exP least x).1 = true ↔ IsNd x ∧ KdE x.kd) := by
 refine nd_ind fun k t m l ih least hr => ?_
 have hk := hr.kids; have hm := hr.num; rw [exP]; constructor
 ·intro h
  unfold finP at h; split at h
  ·rename_i hk1; subst hk1
   simp only [then_ok1, must_ok1, wrap_ok1, say_ok1, true_and, plain_iff, decide_eq_true_eq, sign_iff] at h; obtain ⟨⟨rfl, -, -, h1, h2⟩, hs, h3, h4⟩ := h; obtain ⟨a, b, rfl⟩ := len2 h1 (most (by decide) h2); have ha := (ih a (by simp) _ (hk a (by simp))).1 (show (exP (kidLev 19 m 0) a).1 = true from h3); have hb := (ih b (by simp) _ (hk b (by simp))).1 (show (exP (kidLev 19 m 1) b).1 = true from h4); exact ⟨.mk (.op hs.1 hs.2 ha.2 hb.2) (ndis.none2 ha.1 hb.1), ke (by decide)⟩
  split at h
  ·rename_i hk1
   simp only [then_ok1, must_ok1, say_ok1, true_and, plain_iff] at h; obtain ⟨⟨rfl, h01, h02, h1, h2⟩, h3⟩ := h; obtain ⟨a, rfl⟩ := len1 h1 (most (by decide) h2); obtain rfl : m = 0 := by omega
   have ha := (ih a (by simp) _ (hk a (by simp))).1 (show (exP (kidLev k 0 0) a).1 = true from h3); rcases hk1 with rfl | rfl
   ·exact ⟨.mk (.neg ha.2) (ndis.none1 ha.1), ke (by decide)⟩
   ·exact ⟨.mk (.not_ ha.2) (ndis.none1 ha.1), ke (by decide)⟩
  split at h
  ·rename_i hk1; subst hk1
   simp only [then_ok1, must_ok1, say_ok1, and_true, Bool.and_eq_true, decide_eq_true_eq] at h; obtain ⟨⟨rfl, h0⟩, h1⟩ := h; obtain rfl := List.length_eq_zero_iff.1 h1; exact ⟨.mk (.num h0 hm) noK, ke (by decide)⟩
  split at h
  ·rename_i hk1; subst hk1
   simp only [then_ok1, say_ok1, true_and, and_true, wholeP_ok] at h; obtain ⟨⟨ht, rfl, h1, h2⟩, h3⟩ := h; obtain ⟨a, rfl⟩ := len1 h1 (most (by decide) h2); have ha := (ih a (by simp) _ (hk a (by simp))).1 (show (exP (kidLev 17 0 0) a).1 = true from h3); exact ⟨.mk (.item ht ha.2) (ndis.none1 ha.1), ke (by decide)⟩
  split at h
  ·rename_i hk1; subst hk1
   simp only [then_ok1, say_ok1, true_and, and_true, wholeP_ok, exK_call, com_ok1] at h; obtain ⟨⟨ht, rfl, -⟩, h3⟩ := h; have hl : ∀ y ∈ l, IsNd y ∧ KdE y.kd := fun y hy => (ih y hy 0 (hk y hy)).1 (h3 _ (List.mem_map_of_mem hy))
   exact ⟨.mk (.call ht fun y hy => (hl y hy).2) fun y hy => (hl y hy).1, ke (by decide)⟩
  ·simp only [then_ok1, must_ok1, wholeP_ok, decide_eq_true_eq] at h
   obtain ⟨rfl, ht, rfl, -, h2⟩ := h; obtain rfl := len0 (most (by decide) h2); exact ⟨.mk (.name ht) noK, ke (by decide)⟩
 ·rintro ⟨hX, hke⟩
  have hf := hX.form; have hkid := hX.kids; have ok : ∀ y ∈ l, KdE y.kd → ∀ least, (exP least y).1 = true := fun y hy h le => (ih y hy le (hk y hy)).2 ⟨hkid y hy, h⟩
  unfold KdE Nd.kd at hke; cases hf with
  | num h0 h1 => simp [finP, then_ok1, must_ok1, say_ok1, h0]
  | name ht =>
   simp only [finP]; simp [then_ok1, must_ok1, wholeP_ok, ht]
  | @item _ x ht hx =>
   have h1 := ok x (by simp) hx; simp [finP, then_ok1, say_ok1, wholeP_ok, kidP, exK, ht, h1]
  | call ht hl =>
   have h1 : ∀ y ∈ l, (exP 0 y).1 = true := fun y hy => ok y hy (hl y hy) 0
   simp [finP, then_ok1, say_ok1, wholeP_ok, exK_call, com_ok1, ht]
   exact h1
  | @op _ x y h0 h1 hx hy =>
   have h2 := ok x (by simp) hx; have h3 := ok y (by simp) hy; simp [finP, then_ok1, must_ok1, wrap_ok1, say_ok1, plain_iff, sign_iff, kidP, exK, h0, h1, h2, h3]
  | @neg x hx =>
   have h2 := ok x (by simp) hx; simp [finP, then_ok1, must_ok1, say_ok1, plain_iff, kidP, exK, h2]
  | @not_ x hx =>
   have h2 := ok x (by simp) hx; simp [finP, then_ok1, must_ok1, say_ok1, plain_iff, kidP, exK, h2]
  | _ => exact absurd hke (by simp)
theorem ks {k m : Int} {t : ByteArray} {l : List Nd} (h : 7 ≤ k ∧ k ≤ 14) : KdS (Nd.mk k t m l).kd := h
theorem stL_map : ∀ l : List Nd, stL l = l.map stP := by
 intro l; induction l with
 | nil => rfl
 | cons x r ih => rw [stL, ih]; rfl
theorem st_form : ∀ (x : Nd), Rng x → ((stP x).1 = true ↔ IsNd x ∧ KdS x.kd) ∧ ((blP x).1 = true ↔ IsNd x ∧ x.kd = 6) := by
 refine nd_ind fun k t m l ih hr => ?_
 have hk := hr.kids; have ex : ∀ y ∈ l, (exP 0 y).1 = true ↔ IsNd y ∧ KdE y.kd := fun y hy => ex_form y 0 (hk y hy)
 have st : ∀ y ∈ l, (stP y).1 = true ↔ IsNd y ∧ KdS y.kd := fun y hy => (ih y hy (hk y hy)).1
 have bl : ∀ y ∈ l, (blP y).1 = true ↔ IsNd y ∧ y.kd = 6 := fun y hy => (ih y hy (hk y hy)).2
 rw [stP, blP]; refine ⟨⟨fun h => ?_, ?_⟩, ⟨fun h => ?_, ?_⟩⟩
 ·unfold finS at h
  rw [stK_len] at h; split at h
  ·rename_i hk1
   simp only [then_ok1, must_ok1, say_ok1, true_and, plain_iff] at h; obtain ⟨⟨rfl, h01, h02, h1, h2⟩, h3, h4, h5⟩ := h; obtain rfl : m = 0 := by omega
   rcases hk1 with rfl | rfl
   ·rcases len3 h1 (most (by decide) h2) with ⟨a, b, rfl⟩ | ⟨a, b, c, rfl⟩
    ·have ha := (ex a (by simp)).1 h3
     have hb := (bl b (by simp)).1 h4; exact ⟨.mk (.if2 ha.2 hb.2) (ndis.none2 ha.1 hb.1), ks (by decide)⟩
    ·have ha := (ex a (by simp)).1 h3
     have hb := (bl b (by simp)).1 h4; have h6 : (blP c).1 = true := by simpa [then_ok1, say_ok1, kidP, stK] using h5
     have hc := (bl c (by simp)).1 h6; exact ⟨.mk (.if3 ha.2 hb.2 hc.2) (ndis.none3 ha.1 hb.1 hc.1), ks (by decide)⟩
   ·obtain ⟨a, b, rfl⟩ := len2 h1 (most (by decide) h2)
    have ha := (ex a (by simp)).1 h3; have hb := (bl b (by simp)).1 h4; exact ⟨.mk (.while_ ha.2 hb.2) (ndis.none2 ha.1 hb.1), ks (by decide)⟩
  split at h
  ·rename_i hk1; subst hk1
   simp only [then_ok1, must_ok1, say_ok1, true_and, and_true, named_iff] at h; obtain ⟨⟨ht, h01, h02, h1, h2⟩, h3⟩ := h; obtain ⟨a, rfl⟩ := len1 h1 (most (by decide) h2); have ha := (ex a (by simp)).1 h3; exact ⟨.mk (.loc ht h01 h02 ha.2) (ndis.none1 ha.1), ks (by decide)⟩
  split at h
  ·rename_i hk1; subst hk1
   simp only [then_ok1, must_ok1, say_ok1, true_and, and_true, plain_iff, Bool.or_eq_true, decide_eq_true_eq] at h; obtain ⟨⟨rfl, h01, h02, h1, h2⟩, hp, h3, h4⟩ := h; obtain rfl : m = 0 := by omega
   obtain ⟨a, b, rfl⟩ := len2 h1 (most (by decide) h2); have ha := (ex a (by simp)).1 h3; have hb := (ex b (by simp)).1 h4; exact ⟨.mk (.set hp hb.2) (ndis.none2 ha.1 hb.1), ks (by decide)⟩
  split at h
  ·rename_i hk1; subst hk1
   simp only [then_ok1, must_ok1, say_ok1, true_and, and_true, plain_iff, decide_eq_true_eq] at h; obtain ⟨⟨rfl, h01, h02, h1, h2⟩, hp, h3⟩ := h; obtain rfl : m = 0 := by omega
   obtain ⟨a, rfl⟩ := len1 h1 (most (by decide) h2); have ha := (ex a (by simp)).1 h3; exact ⟨.mk (.do_ hp) (ndis.none1 ha.1), ks (by decide)⟩
  split at h
  ·rename_i hk1
   simp only [then_ok1, must_ok1, say_ok1, true_and, and_true, plain_iff, Bool.or_eq_true, decide_eq_true_eq] at h; obtain ⟨⟨rfl, h01, h02, h1, h2⟩, hp, h3⟩ := h; obtain ⟨a, rfl⟩ := len1 h1 (most (by decide) h2); have ha := (ex a (by simp)).1 h3; rcases hk1 with rfl | rfl
   ·exact ⟨.mk (.out h01 h02 ha.2) (ndis.none1 ha.1), ks (by decide)⟩
   ·exact ⟨.mk (.inp h01 h02 (hp.resolve_left (by decide))) (ndis.none1 ha.1), ks (by decide)⟩
  ·simp only [then_ok1, must_ok1, say_ok1, true_and, and_true, plain_iff, decide_eq_true_eq] at h
   obtain ⟨rfl, ⟨rfl, h01, h02, h1, h2⟩, h3⟩ := h; obtain rfl : m = 0 := by omega
   obtain ⟨a, rfl⟩ := len1 h1 (most (by decide) h2); have ha := (ex a (by simp)).1 h3; exact ⟨.mk (.ret ha.2) (ndis.none1 ha.1), ks (by decide)⟩
 ·rintro ⟨hX, hke⟩
  have hf := hX.form; have hkid := hX.kids; have exo : ∀ y ∈ l, KdE y.kd → (exP 0 y).1 = true := fun y hy h => (ex y hy).2 ⟨hkid y hy, h⟩
  have blo : ∀ y ∈ l, y.kd = 6 → (blP y).1 = true := fun y hy h => (bl y hy).2 ⟨hkid y hy, h⟩
  unfold KdS Nd.kd at hke; cases hf with
  | @loc _ _ x ht h0 h1 hx =>
   have h2 := exo x (by simp) hx; simp [finS, then_ok1, must_ok1, say_ok1, named_iff, kidP, stK, ht, h0, h1, h2]
  | @set p x hp hx =>
   have h1 := exo p (by simp) (ndis.kp_ke hp); have h2 := exo x (by simp) hx; unfold KdP at hp; simp [finS, then_ok1, must_ok1, say_ok1, plain_iff, kidP, stK, kd0, hp, h1, h2]
  | @do_ c hc =>
   have h1 := exo c (by simp) (by rw [hc]; exact ⟨by decide, by decide⟩); simp [finS, then_ok1, must_ok1, say_ok1, plain_iff, kidP, stK, kd0, hc, h1]
  | @if2 x b hx hb =>
   have h1 := exo x (by simp) hx; have h2 := blo b (by simp) hb; simp [finS, then_ok1, must_ok1, say_ok1, plain_iff, kidP, stK, h1, h2]
  | @if3 x b c hx hb hc =>
   have h1 := exo x (by simp) hx; have h2 := blo b (by simp) hb; have h3 := blo c (by simp) hc; simp [finS, then_ok1, must_ok1, say_ok1, plain_iff, kidP, stK, h1, h2, h3]
  | @while_ x b hx hb =>
   have h1 := exo x (by simp) hx; have h2 := blo b (by simp) hb; simp [finS, then_ok1, must_ok1, say_ok1, plain_iff, kidP, stK, h1, h2]
  | @out _ x h0 h1 hx =>
   have h2 := exo x (by simp) hx; simp [finS, then_ok1, must_ok1, say_ok1, plain_iff, kidP, stK, h0, h1, h2]
  | @inp _ x h0 h1 hx =>
   have h2 := exo x (by simp) (ndis.kp_ke hx); unfold KdP at hx; simp [finS, then_ok1, must_ok1, say_ok1, plain_iff, kidP, stK, kd0, h0, h1, h2, hx]
  | @ret x hx =>
   have h2 := exo x (by simp) hx; simp [finS, then_ok1, must_ok1, say_ok1, plain_iff, kidP, stK, h2]
  | _ => exact absurd hke (by simp)
 ·unfold finB at h
  simp only [then_ok1, must_ok1, say_ok1, true_and, and_true, plain_iff, decide_eq_true_eq, seq_ok1, stL_map] at h; obtain ⟨rfl, ⟨rfl, h01, h02, -, -⟩, h1⟩ := h; obtain rfl : m = 0 := by omega
  have hl : ∀ y ∈ l, IsNd y ∧ KdS y.kd := fun y hy => (st y hy).1 (h1 _ (List.mem_map_of_mem hy))
  exact ⟨.mk (.block fun y hy => (hl y hy).2) fun y hy => (hl y hy).1, rfl⟩
 ·rintro ⟨hX, hke⟩
  have hf := hX.form; have hkid := hX.kids; have hk6 : k = 6 := hke; subst hk6; cases hf with
  | block hl =>
   have h1 : ∀ y ∈ l, (stP y).1 = true := fun y hy => (st y hy).2 ⟨hkid y hy, hl y hy⟩
   simp [finB, then_ok1, must_ok1, say_ok1, plain_iff, seq_ok1, stL_map]
   exact h1
theorem var_form (x : Nd) (hr : Rng x) (h3 : x.kd = 3) : (varP x).1 = true ↔ IsNd x := by
 obtain ⟨k, t, m, l⟩ := x; have hk3 : k = 3 := h3; subst hk3; have hk := hr.kids; unfold varP; simp only [then_ok1, must_ok1, say_ok1, true_and, and_true, named_iff, seq_ok1, List.mem_map, forall_exists_index, and_imp, forall_apply_eq_imp_iff₂, decide_eq_true_eq]; constructor
 ·rintro ⟨⟨ht, h0, h1, -, h2⟩, h4⟩
  rcases l with _ | ⟨a, _ | ⟨b, r⟩⟩
  ·exact .mk (.var ht h0 h1) noK
  ·have ha := h4 a (by simp)
   have he := (ex_form a 0 (hk a (by simp))).1 ha.2; exact .mk (.array ht h0 h1 ha.1) (ndis.none1 he.1)
  ·simp at h2; omega
 ·intro hX
  have hkid := hX.kids; have hf := hX.form; cases hf with
  | var ht h0 h1 => exact ⟨⟨ht, h0, h1, by simp, .inr (by simp)⟩, noK⟩
  | @array _ _ y ht h0 h1 hy =>
   refine ⟨⟨ht, h0, h1, by simp, .inr (by simp)⟩, fun a ha => ?_⟩
   rw [List.mem_singleton] at ha; subst ha; exact ⟨hy, (ex_form a 0 (hk a (by simp))).2 ⟨hkid a (by simp), by rw [hy]; exact ⟨by decide, by decide⟩⟩⟩
theorem pars_ok1 : ∀ (l : List Nd) (i : Nat), (parsP l i).1 = true ↔ ∀ y ∈ l, y.kd = 5 ∧ namedB y.tx y.nm y.kids.length 0 0 1 = true := by
 intro l; induction l with
 | nil => intro i; simp [parsP, sayP]
 | cons x r ih =>
  intro i; rw [parsP, then_ok1, ih, List.forall_mem_cons]; unfold parP; simp only [then_ok1, must_ok1, say_ok1, true_and, and_true, decide_eq_true_eq]
theorem param_form (x : Nd) : (x.kd = 5 ∧ namedB x.tx x.nm x.kids.length 0 0 1 = true) ↔ IsNd x ∧ x.kd = 5 := by
 obtain ⟨k, t, m, l⟩ := x; rw [named_iff]; constructor
 ·rintro ⟨h5, ht, h0, h1, -, h2⟩
  have hk5 : k = 5 := h5; subst hk5; obtain rfl := len0 (most (by decide) h2); exact ⟨.mk (.param ht h0 h1) noK, h5⟩
 ·rintro ⟨hX, h5⟩
  have hk5 : k = 5 := h5; subst hk5; have hf := hX.form; cases hf with
  | param ht h0 h1 => exact ⟨rfl, ht, h0, h1, by simp [Nd.kids], .inr (by simp [Nd.kids])⟩
theorem param_eq (y : Nd) : (y.kd = 5 ∧ namedB y.tx y.nm y.kids.length 0 0 1 = true) ↔ y.kd = 5 ∧ NameT y.tx ∧ 0 ≤ y.nm ∧ y.nm ≤ 1 ∧ (0 : Int) ≤ (y.kids.length : Int) ∧ ((0 : Int) < 0 ∨ (y.kids.length : Int) ≤ 0) := by rw [named_iff]
theorem proc_form (x : Nd) (hr : Rng x) (h4 : x.kd = 4) : (procP x).1 = true ↔ IsNd x := by
 obtain ⟨k, t, m, l⟩ := x; have hk4 : k = 4 := h4; subst hk4; have hk := hr.kids
 have hg : ((if 4 ≤ m then (sayP [sGives]).then (sayP [labW (decide (8 ≤ m))]) else sayP []).1 = true) ↔ True := by
  split
  ·rw [then_ok1, say_ok1, say_ok1, true_and]
  ·exact say_ok1
 unfold procP; simp only [then_ok1, must_ok1, say_ok1, true_and, named_iff, pars_ok1, hg]; constructor
 ·rintro ⟨⟨ht, h0, h1, hn, -⟩, hp, hb⟩
  rcases List.eq_nil_or_concat l with e | ⟨ps, b, e⟩
  ·subst e; simp at hn
  ·rw [List.concat_eq_append] at e
   subst e; rw [List.getLastD_concat] at hb; rw [List.dropLast_concat] at hp; have hb2 := (st_form b (hk b (by simp))).2.1 hb; have hp2 : ∀ y ∈ ps, IsNd y ∧ y.kd = 5 := fun y hy => (param_form y).1 ((param_eq y).2 (hp y hy))
   refine .mk (.proc ht h0 h1 (fun y hy => (hp2 y hy).2) hb2.2) fun y hy => ?_
   rcases List.mem_append.1 hy with hy | hy
   ·exact (hp2 y hy).1
   ·rw [List.mem_singleton] at hy; subst hy; exact hb2.1
 ·intro hX
  have hkid := hX.kids; have hf := hX.form; cases hf with
  | @proc _ _ ps b ht h0 h1 hp hb =>
   rw [List.dropLast_concat, List.getLastD_concat]; refine ⟨⟨ht, h0, h1, by rw [List.length_append, List.length_singleton]; omega, .inl (by decide)⟩, fun y hy => (param_eq y).1 ((param_form y).2 ⟨hkid y (by simp [hy]), hp y hy⟩), (st_form b (hk b (by simp))).2.2 ⟨hkid b (by simp), hb⟩⟩
theorem decls_form : ∀ (l : List Nd) (d : Bool), (∀ y ∈ l, Rng y) → ((declsP l d).1 = true ↔ (∀ y ∈ l, IsNd y) ∧ ∃ a b, l = a ++ b ∧ (d = true → a = []) ∧ (∀ y ∈ a, y.kd = 2) ∧ ∀ y ∈ b, y.kd = 3 ∨ y.kd = 4) := by
 intro l; induction l with
 | nil => intro d _; exact ⟨fun _ => ⟨noK, [], [], rfl, fun _ => rfl, noK, noK⟩, fun _ => by simp [declsP, sayP]⟩
 | cons x r ih =>
  intro d hr; have hx := hr x (by simp); rw [declsP, then_ok1, ih _ fun y hy => hr y (by simp [hy])]; unfold declP; by_cases h2 : x.kd = 2
  ·rw [if_pos h2]
   have hd : (d || !decide (x.kd = 2)) = d := by simp [h2]
   rw [hd]; simp only [then_ok1, must_ok1, say_ok1, and_true, named_iff, Bool.not_eq_true']; constructor
   ·rintro ⟨⟨rfl, ht, h0, h1, -, hn⟩, hl, a, b, rfl, -, ha, hb⟩
    obtain ⟨k, t, m, q⟩ := x; have hk2 : k = 2 := h2; subst hk2; obtain rfl : m = 0 := by have : m ≤ 0 := h1; have : 0 ≤ m := h0; omega
    obtain rfl : q = [] := len0 (most (by decide) hn); refine ⟨List.forall_mem_cons.2 ⟨.mk (.imp ht) noK, hl⟩, .mk 2 t 0 [] :: a, b, rfl, fun h => (by cases h), List.forall_mem_cons.2 ⟨h2, ha⟩, hb⟩
   ·rintro ⟨hl, a, b, e, hda, ha, hb⟩
    rw [List.forall_mem_cons] at hl; cases a with
    | nil =>
     rw [List.nil_append] at e; subst e; exact absurd (hb x (by simp)) (by omega)
    | cons y a =>
     rw [List.cons_append] at e; injection e with e1 e2
     subst e1
     have hdf : d = false := by cases d with
      | false => rfl
      | true => cases hda rfl
     refine ⟨⟨hdf, ?_⟩, hl.2, a, b, e2, fun h => (by rw [hdf] at h; cases h), fun y hy => ha y (by simp [hy]), hb⟩
     obtain ⟨k, t, m, q⟩ := x; have hk2 : k = 2 := h2; subst hk2; have hf := hl.1.form; cases hf with
     | imp ht => exact ⟨ht, by simp [Nd.nm], by simp [Nd.nm], by simp, .inr (by simp [Nd.kids])⟩
  ·rw [if_neg h2]
   have hd : (d || !decide (x.kd = 2)) = true := by simp [h2]
   rw [hd]
   have key : ((if x.kd = 3 then varP x else (mustP (decide (x.kd = 4))).then (procP x)).1 = true) ↔ IsNd x ∧ (x.kd = 3 ∨ x.kd = 4) := by
    by_cases h3 : x.kd = 3
    ·rw [if_pos h3, var_form x hx h3]
     exact ⟨fun h => ⟨h, .inl h3⟩, fun h => h.1⟩
    ·rw [if_neg h3, then_ok1, must_ok1, decide_eq_true_eq]
     constructor
     ·rintro ⟨h4, h5⟩; exact ⟨(proc_form x hx h4).1 h5, .inr h4⟩
     ·rintro ⟨h5, h6⟩
      have h4 := h6.resolve_left h3; exact ⟨h4, (proc_form x hx h4).2 h5⟩
   rw [key]; constructor
   ·rintro ⟨⟨h5, h6⟩, hl, a, b, rfl, hda, ha, hb⟩
    obtain rfl := hda rfl; exact ⟨List.forall_mem_cons.2 ⟨h5, hl⟩, [], x :: b, rfl, fun _ => rfl, noK, List.forall_mem_cons.2 ⟨h6, hb⟩⟩
   ·rintro ⟨hl, a, b, e, hda, ha, hb⟩
    rw [List.forall_mem_cons] at hl; cases a with
    | cons y a =>
     rw [List.cons_append] at e; injection e with e1 e2
     subst e1; exact absurd (ha x (by simp)) h2
    | nil =>
     rw [List.nil_append] at e; subst e; rw [List.forall_mem_cons] at hb; exact ⟨⟨hl.1, hb.1⟩, hl.2, [], r, rfl, fun _ => rfl, noK, hb.2⟩
theorem mod_form (x : Nd) (hr : Rng x) : (modP x).1 = true ↔ IsNd x ∧ x.kd = 1 := by
 obtain ⟨k, t, m, l⟩ := x; have hk := hr.kids; unfold modP; simp only [then_ok1, must_ok1, say_ok1, true_and, named_iff, decide_eq_true_eq, decls_form l false hk]; constructor
 ·rintro ⟨rfl, ⟨ht, h0, h1, -⟩, hl, a, b, rfl, -, ha, hb⟩
  obtain rfl : m = 0 := by omega
  exact ⟨.mk (.module ht ha hb) hl, rfl⟩
 ·rintro ⟨hX, h1⟩
  have hk1 : k = 1 := h1; subst hk1; have hkid := hX.kids; have hf := hX.form; cases hf with
  | @module _ a b ht ha hb => exact ⟨rfl, ⟨ht, by decide, by decide, by omega, .inl (by decide)⟩, hkid, a, b, rfl, fun h => (by cases h), ha, hb⟩
end prt
end Go.Proofs.YtpcihajmcejliabGreatDoor
namespace Go.Proofs.YtpcihajmcejliabGreatDoor
open Go.RowKit
def cntF (k : Int) : Int × Int × Int × Int × Bool :=
 if k = 1 then (0, -1, 0, 1, true) else if k = 2 then (0, 0, 0, 1, true) else if k = 3 then (0, 1, 3, 1, true) else if k = 4 then (1, -1, 11, 1, true) else if k = 5 then (0, 0, 1, 1, true)
 else if k = 6 then (0, -1, 0, 0, true) else if k = 7 then (1, 1, 1, 1, true) else if k = 8 then (2, 2, 0, 0, true) else if k = 11 then (2, 2, 0, 0, true)
 else if k = 9 then (1, 1, 0, 0, true) else if k = 14 then (1, 1, 0, 0, true) else if k = 20 then (1, 1, 0, 0, true) else if k = 21 then (1, 1, 0, 0, true)
 else if k = 10 then (2, 3, 0, 0, true) else if k = 12 then (1, 1, 1, 0, true) else if k = 13 then (1, 1, 1, 0, true) else if k = 15 then (0, 0, 9223372036854775807, 0, true)
 else if k = 16 then (0, 0, 0, 2, true) else if k = 17 then (1, 1, 0, 2, true) else if k = 18 then (0, -1, 0, 2, true) else if k = 19 then (2, 2, -1, 0, true) else (0, 0, 0, 0, false)
namespace rpr
open synw synr prt
theorem results5 {fn : Func} {t u v x y : Tmp} (h : fn.results = #[.tmp t, .tmp u, .tmp v, .tmp x, .tmp y]) (tmps : Array Value) (P : Program) (w : World) :
  (results fn tmps).run P w = .ok (.tuple #[tmps.getD t undef, tmps.getD u undef, tmps.getD v undef, tmps.getD x undef, tmps.getD y undef]) w := by
 simp [results, h]
def CntC (w : World) (k : Int) : Prop := Calls Tryz.prog 173 #[.int .i64 k] w fun e w' => e = .returned (.tuple #[.int .i64 (cntF k).1, .int .i64 (cntF k).2.1, .int .i64 (cntF k).2.2.1, .int .i64 (cntF k).2.2.2.1, .bool (cntF k).2.2.2.2]) ∧ Ext w w'
set_option maxRecDepth 100000 in
set_option maxHeartbeats 4000000 in
theorem counts_no (w : World) (k : Int) (h1 : (k == 1) = false) (h2 : (k == 2) = false) (h3 : (k == 3) = false) (h4 : (k == 4) = false) (h5 : (k == 5) = false) (h6 : (k == 6) = false) (h7 : (k == 7) = false) (h8 : (k == 8) = false) (h9 : (k == 9) = false) (h10 : (k == 10) = false)
  (h11 : (k == 11) = false) (h12 : (k == 12) = false) (h13 : (k == 13) = false) (h14 : (k == 14) = false) (h15 : (k == 15) = false) (h16 : (k == 16) = false) (h17 : (k == 17) = false) (h18 : (k == 18) = false) (h19 : (k == 19) = false) (h20 : (k == 20) = false) (h21 : (k == 21) = false) :
  Calls Tryz.prog 173 #[.int .i64 k] w fun e w' => e = .returned (.tuple #[.int .i64 0, .int .i64 0, .int .i64 0, .int .i64 0, .bool false]) ∧ Ext w w' := by
 go_enter Tryz.func173, Tryz.ntmps173
 go_wp2_with fail
 refine bodyPost_ret (results5 rfl _ _ _) rfl ?_
 exact ⟨rfl, Chg.refl _ _⟩
set_option maxRecDepth 100000 in
set_option maxHeartbeats 4000000 in
theorem counts_any (k : Int) (w : World) : CntC w k := by
 by_cases h : 1 ≤ k ∧ k ≤ 21
 ·have h2 : k = 1 ∨ k = 2 ∨ k = 3 ∨ k = 4 ∨ k = 5 ∨ k = 6 ∨ k = 7 ∨ k = 8 ∨ k = 9 ∨ k = 10 ∨ k = 11 ∨ k = 12 ∨ k = 13 ∨ k = 14 ∨ k = 15 ∨ k = 16 ∨ k = 17 ∨ k = 18 ∨ k = 19 ∨ k = 20 ∨ k = 21 := by omega
  rcases h2 with rfl | rfl | rfl | rfl | rfl | rfl | rfl | rfl | rfl | rfl | rfl | rfl | rfl | rfl | rfl | rfl | rfl | rfl | rfl | rfl | rfl
  all_goals
   unfold CntC; go_enter Tryz.func173, Tryz.ntmps173
   go_wp2_with fail
   refine bodyPost_ret (results5 rfl _ _ _) rfl ?_
   exact ⟨rfl, Chg.refl _ _⟩
 ·have e : cntF k = (0, 0, 0, 0, false) := by
   unfold cntF; rw [if_neg (show ¬ k = 1 by omega), if_neg (show ¬ k = 2 by omega), if_neg (show ¬ k = 3 by omega), if_neg (show ¬ k = 4 by omega), if_neg (show ¬ k = 5 by omega), if_neg (show ¬ k = 6 by omega), if_neg (show ¬ k = 7 by omega), if_neg (show ¬ k = 8 by omega), if_neg (show ¬ k = 11 by omega), if_neg (show ¬ k = 9 by omega), if_neg (show ¬ k = 14 by omega), if_neg (show ¬ k = 20 by omega), if_neg (show ¬ k = 21 by omega), if_neg (show ¬ k = 10 by omega), if_neg (show ¬ k = 12 by omega), if_neg (show ¬ k = 13 by omega), if_neg (show ¬ k = 15 by omega), if_neg (show ¬ k = 16 by omega), if_neg (show ¬ k = 17 by omega), if_neg (show ¬ k = 18 by omega), if_neg (show ¬ k = 19 by omega)]
  have h1 : (k == 1) = false := by simp; omega
  have h2 : (k == 2) = false := by simp; omega
  have h3 : (k == 3) = false := by simp; omega
  have h4 : (k == 4) = false := by simp; omega
  have h5 : (k == 5) = false := by simp; omega
  have h6 : (k == 6) = false := by simp; omega
  have h7 : (k == 7) = false := by simp; omega
  have h8 : (k == 8) = false := by simp; omega
  have h9 : (k == 9) = false := by simp; omega
  have h10 : (k == 10) = false := by simp; omega
  have h11 : (k == 11) = false := by simp; omega
  have h12 : (k == 12) = false := by simp; omega
  have h13 : (k == 13) = false := by simp; omega
  have h14 : (k == 14) = false := by simp; omega
  have h15 : (k == 15) = false := by simp; omega
  have h16 : (k == 16) = false := by simp; omega
  have h17 : (k == 17) = false := by simp; omega
  have h18 : (k == 18) = false := by simp; omega
  have h19 : (k == 19) = false := by simp; omega
  have h20 : (k == 20) = false := by simp; omega
  have h21 : (k == 21) = false := by simp; omega
  unfold CntC; rw [e]; exact counts_no w k h1 h2 h3 h4 h5 h6 h7 h8 h9 h10 h11 h12 h13 h14 h15 h16 h17 h18 h19 h20 h21
end rpr
end Go.Proofs.YtpcihajmcejliabGreatDoor
