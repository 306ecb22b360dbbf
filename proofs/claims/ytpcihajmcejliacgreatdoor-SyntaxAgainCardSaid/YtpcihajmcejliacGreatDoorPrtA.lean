/- The words that are printed are tokens; what scanning them gives, one behind the other with a blank between. The printed words are read as the node. -/
import Derived.Test.YtpcihajmcejliacGreatDoorPrtF
namespace Go.Proofs.YtpcihajmcejliacGreatDoor
open Go.RowKit
def kindW (w : ByteArray) : Int := (tokF w.data.toList).1
def GoodL (l : List UInt8) : Prop := (tokF l).2 = (l.length, 0)
instance (l : List UInt8) : Decidable (GoodL l) := inferInstanceAs (Decidable ((tokF l).2 = (l.length, 0)))
def GoodW (w : ByteArray) : Prop := GoodL w.data.toList
instance (w : ByteArray) : Decidable (GoodW w) := inferInstanceAs (Decidable (GoodL w.data.toList))
namespace prt
open synw
theorem word_tok {l : List UInt8} (h : wordB l = true) : tokF l = (1, l.length, 0) := by
 simp only [wordB, Bool.and_eq_true, decide_eq_true_eq] at h; obtain ⟨⟨h1, h2⟩, h3⟩ := h; cases l with
 | nil => simp [headB] at h1
 | cons c r =>
  simp only [headB] at h1; have hr : runN partB (c :: r) = (c :: r).length := (name.runN_all _ _).2 h3; simp only [tokF, h1, if_true, hr]; rw [if_neg (by omega)]
theorem name_word {t : ByteArray} (h : nameB t.data.toList = true) : wordB t.data.toList = true := by
 unfold nameB at h; simp only [Bool.and_eq_true] at h; exact h.1
theorem name_kind {t : ByteArray} (h : nameB t.data.toList = true) : kindW t = 1 := by
 unfold kindW; rw [word_tok (name_word h)]
theorem good_name {t : ByteArray} (h : nameB t.data.toList = true) : GoodW t := by
 unfold GoodW GoodL; rw [word_tok (name_word h)]
theorem dig_nat {d : Nat} (h : d < 10) : (UInt8.ofNat (48 + d)).toNat = 48 + d := by
 rw [UInt8.toNat_ofNat']; exact Nat.mod_eq_of_lt (by omega)
theorem decFrom_snoc (l : List UInt8) (c : UInt8) : decFrom 0 (l ++ [c]) = decFrom 0 l * 10 + (c.toNat - 48) := by
 unfold decFrom; rw [List.foldl_append]; simp only [List.foldl_cons, List.foldl_nil]; rw [dstep_eq]
theorem dd_all (u : Nat) : digs (Lib.decDigits u) = true ∧ decFrom 0 (Lib.decDigits u) = u ∧ Lib.decDigits u ≠ [] ∧ (u ≠ 0 → (Lib.decDigits u).head? ≠ some 48) ∧ (u < 10 → (Lib.decDigits u).length = 1) := by
 induction u using Nat.strongRecOn with
 | _ u ih =>
  rw [Lib.decDigits]; split
  ·rename_i h
   have hd := dig_nat h; refine ⟨?_, ?_, by simp, fun h0 => ?_, fun _ => rfl⟩
   ·rw [digs_cons, hd]; exact ⟨by omega, rfl⟩
   ·rw [decFrom_step, hd]; unfold decFrom; simp
   ·intro e
    simp only [List.head?_cons, Option.some.injEq] at e; have := congrArg UInt8.toNat e; rw [hd] at this; have h48 : (48 : UInt8).toNat = 48 := rfl; omega
  ·rename_i h
   obtain ⟨h1, h2, h3, h4, -⟩ := ih (u / 10) (by omega); have hd := dig_nat (d := u % 10) (by omega); refine ⟨?_, ?_, by simp, fun _ => ?_, fun h' => absurd h' h⟩
   ·unfold digs at h1 ⊢
    rw [List.all_append, h1, Bool.true_and]; have : digs [UInt8.ofNat (48 + u % 10)] = true := by rw [digs_cons, hd]; exact ⟨by omega, rfl⟩
    exact this
   ·rw [decFrom_snoc, h2, hd]; omega
   ·rw [List.head?_append]
    cases hh : (Lib.decDigits (u / 10)).head? with
    | none => exact absurd (List.head?_eq_none_iff.1 hh) h3
    | some c =>
     rw [hh] at h4; exact h4 (by omega)
theorem digs_part {l : List UInt8} (h : digs l = true) : l.all (fun c => partB c.toNat) = true := by
 unfold digs at h; rw [List.all_eq_true] at h ⊢; intro x hx; unfold partB; rw [h x hx]; simp
theorem dig_tok {m : Int} (h0 : 0 ≤ m) (h1 : m < 9223372036854775808) : tokF (Lib.itoa m) = (2, (Lib.itoa m).length, 0) ∧ decFrom 0 (Lib.itoa m) = m.toNat := by
 have e : Lib.itoa m = Lib.decDigits m.toNat := by unfold Lib.itoa; rw [if_neg (by omega)]
 rw [e]; obtain ⟨d1, d2, d3, d4, d5⟩ := dd_all m.toNat; refine ⟨?_, d2⟩
 have hn : numeralF (Lib.decDigits m.toNat) = 0 := by
  unfold numeralF; rw [if_neg (by rw [d1]; decide), if_neg ?_, if_neg (by omega)]; rintro ⟨h3, h4⟩; rcases Nat.lt_or_ge m.toNat 10 with h5 | h5
  ·rw [d5 h5] at h3; omega
  ·exact d4 (by omega) h4
 cases hl : Lib.decDigits m.toNat with
 | nil => exact absurd hl d3
 | cons c r =>
  rw [hl] at d1 hn; have hr : runN partB (c :: r) = (c :: r).length := (name.runN_all _ _).2 (digs_part d1); have hc := (digs_cons c r).1 d1
  have hl : letterB c.toNat = false := by
   unfold letterB; rw [decide_eq_false_iff_not]; omega
  have hd : digitB c.toNat = true := (digitB_iff c).2 hc.1; simp only [tokF, hl, hd, if_true, Bool.false_eq_true, if_false, hr, List.take_length, hn]
theorem good_dig {m : Int} (h0 : 0 ≤ m) (h1 : m < 9223372036854775808) : GoodW (digW m) := by
 unfold GoodW GoodL digW; rw [(dig_tok h0 h1).1]
theorem kind_dig {m : Int} (h0 : 0 ≤ m) (h1 : m < 9223372036854775808) : kindW (digW m) = 2 := by
 unfold kindW digW; rw [(dig_tok h0 h1).1]
theorem val_dig {m : Int} (h0 : 0 ≤ m) (h1 : m < 9223372036854775808) : valOf (digW m) = m := by
 unfold valOf digW; rw [(dig_tok h0 h1).2]; omega
def GoodP (p : PO) : Prop := ∀ w ∈ p.2, GoodW w
theorem good_then {a b : PO} (ha : GoodP a) (hb : GoodP b) : GoodP (a.then b) := by
 unfold PO.then
 split
 ·intro w hw
  rcases List.mem_append.1 hw with h | h
  ·exact ha w h
  ·exact hb w h
 ·exact ha
theorem good_must {b : Bool} {p : PO} (h : b = true → GoodP p) : GoodP ((mustP b).then p) := by
 cases b with
 | false => intro w hw; simp [PO.then, mustP] at hw
 | true => exact good_then (fun w hw => by simp [mustP] at hw) (h rfl)
theorem good_nil : GoodP (sayP []) := fun w hw => by simp [sayP] at hw
theorem good_one {s : ByteArray} (h : GoodW s) : GoodP (sayP [s]) := fun w hw => by
 obtain rfl : w = s := by simpa [sayP] using hw
 exact h
theorem good_two {s t : ByteArray} (h : GoodW s) (h2 : GoodW t) : GoodP (sayP [s, t]) := fun w hw => by
 have hw2 : w = s ∨ w = t := by simpa [sayP] using hw
 rcases hw2 with rfl | rfl
 ·exact h
 ·exact h2
theorem good_three {s t r : ByteArray} (h : GoodW s) (h2 : GoodW t) (h3 : GoodW r) : GoodP (sayP [s, t, r]) := fun w hw => by
 have hw2 : w = s ∨ w = t ∨ w = r := by simpa [sayP] using hw
 rcases hw2 with rfl | rfl | rfl
 ·exact h
 ·exact h2
 ·exact h3
theorem good_named {t : ByteArray} {m : Int} {n : Nat} {a b c : Int} (h : namedB t m n a b c = true) : GoodW t := by
 unfold namedB at h; simp only [Bool.and_eq_true] at h; exact good_name h.1
theorem good_lab (b : Bool) : GoodP (sayP [labW b]) := good_one (by cases b <;> decide)
theorem good_pub (m : Int) : GoodP (sayP (pubW m)) := by
 unfold pubW; split
 ·exact good_one (by decide)
 ·exact good_nil
theorem gd_whole (t : ByteArray) (m : Int) (n : Nat) (a b : Int) : GoodP (wholeP t m n a b) := by
 unfold wholeP; refine good_must fun h => ?_
 unfold wholeB at h; simp only [Bool.and_eq_true, Bool.or_eq_true, Bool.not_eq_true'] at h; obtain ⟨⟨h1, h2⟩, -⟩ := h; unfold wholeW; cases hc : (cutB t).2.2 with
 | false => exact good_one (good_name h1)
 | true =>
  rw [hc] at h2; exact good_three (good_name h1) (by decide) (good_name (by simpa using h2))
theorem good_sign {m : Int} (h : 0 ≤ (signF m).2) : GoodW (signF m).1 := by
 unfold signF at h ⊢
 repeat' split
 all_goals first | decide | (exfalso; simp_all)
theorem good_wrap {b : Bool} {p : PO} (h : GoodP p) : GoodP (wrapP b p) := by
 unfold wrapP; split
 ·intro w hw
  have hw2 : w = sOpen ∨ w ∈ p.2 ∨ w = sClose := by simpa using hw
  rcases hw2 with rfl | h2 | rfl
  ·decide
  ·exact h w h2
  ·decide
 ·exact h
theorem good_kid {ks : List PO} (h : ∀ p ∈ ks, GoodP p) (j : Nat) : GoodP (kidP ks j) := by
 unfold kidP; rw [List.getD_eq_getElem?_getD]; cases hj : ks[j]? with
 | none => exact good_nil
 | some p => exact h p (List.mem_of_getElem? hj)
theorem good_com : ∀ {ks : List PO} (_ : ∀ p ∈ ks, GoodP p) (f : Bool), GoodP (comP ks f)
 | [], _, _ => good_nil
 | a :: r, h, f => by
  rw [comP]; refine good_then ?_ (good_then (h a (List.mem_cons_self ..)) (good_com (fun p hp => h p (List.mem_cons_of_mem _ hp)) false))
  split
  ·exact good_nil
  ·exact good_one (by decide)
theorem good_seq : ∀ {ks : List PO} (_ : ∀ p ∈ ks, GoodP p), GoodP (seqP ks)
 | [], _ => good_nil
 | a :: r, h => by
  rw [seqP]; exact good_then (h a (List.mem_cons_self ..)) (good_seq (fun p hp => h p (List.mem_cons_of_mem _ hp)))
def GoodD (m : Int) : Prop := 0 ≤ m → GoodW (digW m)
theorem good_fin {k : Int} {t : ByteArray} {m : Int} {n : Nat} {least : Int} {ks : List PO} (hm : GoodD m) (h : ∀ p ∈ ks, GoodP p) : GoodP (finP k t m n least ks) := by
 unfold finP; split
 ·exact good_must fun _ => good_must fun hs => good_wrap (good_then (good_kid h 0) (good_then (good_one (good_sign (of_decide_eq_true hs))) (good_kid h 1)))
 ·split
  ·exact good_must fun _ => good_then (good_one (by split <;> decide)) (good_kid h 0)
  ·split
   ·refine good_must fun hb => good_one (hm ?_)
    simp only [Bool.and_eq_true, decide_eq_true_eq] at hb; exact hb.1.2
   ·split
    ·exact good_then (gd_whole _ _ _ _ _) (good_then (good_one (by decide)) (good_then (good_kid h 0) (good_one (by decide))))
    ·split
     ·exact good_then (gd_whole _ _ _ _ _) (good_then (good_one (by decide)) (good_then (good_com h true) (good_one (by decide))))
     ·exact good_must fun _ => gd_whole _ _ _ _ _
theorem good_finS {k : Int} {t : ByteArray} {m kd : Int} {ks : List (PO × PO)} (h : ∀ p ∈ ks, GoodP p.1 ∧ GoodP p.2) : GoodP (finS k t m kd ks) := by
 have h1 : ∀ p ∈ ks.map Prod.fst, GoodP p := fun p hp => by obtain ⟨q, hq, rfl⟩ := List.mem_map.1 hp; exact (h q hq).1
 have h2 : ∀ p ∈ ks.map Prod.snd, GoodP p := fun p hp => by obtain ⟨q, hq, rfl⟩ := List.mem_map.1 hp; exact (h q hq).2
 have hs : GoodP (sayP [sSemi]) := good_one (by decide); unfold finS; split
 ·refine good_must fun _ => good_then (good_one (by split <;> decide)) (good_then (good_one (by decide)) (good_then (good_kid h1 0) (good_then (good_one (by decide)) (good_then (good_kid h2 1) ?_))))
  split
  ·exact good_then (good_one (by decide)) (good_kid h2 2)
  ·exact good_nil
 ·split
  ·exact good_must fun hp => good_then (good_lab _) (good_then (good_two (good_named hp) (by decide)) (good_then (good_kid h1 0) hs))
  ·split
   ·exact good_must fun _ => good_must fun _ => good_then (good_kid h1 0) (good_then (good_one (by decide)) (good_then (good_kid h1 1) hs))
   ·split
    ·exact good_must fun _ => good_must fun _ => good_then (good_one (by decide)) (good_then (good_kid h1 0) hs)
    ·split
     ·exact good_must fun _ => good_must fun _ => good_then (good_one (by split <;> decide)) (good_then (good_lab _) (good_then (good_kid h1 0) hs))
     ·exact good_must fun _ => good_must fun _ => good_then (good_one (by decide)) (good_then (good_kid h1 0) hs)
theorem good_finB {k : Int} {t : ByteArray} {m : Int} {ks : List PO} (h : ∀ p ∈ ks, GoodP p) : GoodP (finB k t m ks) := by
 unfold finB; exact good_must fun _ => good_must fun _ => good_then (good_one (by decide)) (good_then (good_seq h) (good_one (by decide)))
theorem gd_kids {k m : Int} {t : ByteArray} {l : List Nd} (h : Rng (.mk k t m l)) : GoodD m ∧ ∀ y ∈ l, Rng y := ⟨fun h0 => good_dig h0 h.num, h.kids⟩
theorem good_exP : ∀ (x : Nd) (least : Int), Rng x → GoodP (exP least x) := by
 refine nd_ind fun k t m l ih least hv => ?_
 obtain ⟨hm, hk⟩ := gd_kids hv; rw [exP]
 have hK : ∀ (r : List Nd) (j : Nat), (∀ x ∈ r, x ∈ l) → ∀ p ∈ exK k m r j, GoodP p := by
  intro r; induction r with
  | nil => intro j _ p hp; simp [exK] at hp
  | cons x r ih2 =>
   intro j hr p hp; rw [exK] at hp; rcases List.mem_cons.1 hp with rfl | hp
   ·exact ih x (hr x (List.mem_cons_self ..)) _ (hk x (hr x (List.mem_cons_self ..)))
   ·exact ih2 (j + 1) (fun y hy => hr y (List.mem_cons_of_mem _ hy)) p hp
 exact good_fin hm (hK l 0 fun x hx => hx)
theorem good_stP : ∀ (x : Nd), Rng x → GoodP (stP x) ∧ GoodP (blP x) := by
 refine nd_ind fun k t m l ih hv => ?_
 obtain ⟨hm, hk⟩ := gd_kids hv
 have hK : ∀ (r : List Nd), (∀ x ∈ r, x ∈ l) → (∀ p ∈ stK r, GoodP p.1 ∧ GoodP p.2) ∧ ∀ p ∈ stL r, GoodP p := by
  intro r; induction r with
  | nil => intro _; exact ⟨fun p hp => by simp [stK] at hp, fun p hp => by simp [stL] at hp⟩
  | cons x r ih2 =>
   intro hr; have hx := hr x (List.mem_cons_self ..); obtain ⟨i1, i2⟩ := ih2 fun y hy => hr y (List.mem_cons_of_mem _ hy)
   rw [stK, stL]; refine ⟨fun p hp => ?_, fun p hp => ?_⟩
   ·rcases List.mem_cons.1 hp with rfl | hp
    ·exact ⟨good_exP x 0 (hk x hx), (ih x hx (hk x hx)).2⟩
    ·exact i1 p hp
   ·rcases List.mem_cons.1 hp with rfl | hp
    ·exact (ih x hx (hk x hx)).1
    ·exact i2 p hp
 obtain ⟨h1, h2⟩ := hK l fun x hx => hx
 rw [stP, blP]; exact ⟨good_finS h1, good_finB h2⟩
theorem good_var (x : Nd) (h : Rng x) : GoodP (varP x) := by
 obtain ⟨k, t, m, l⟩ := x; obtain ⟨-, hk⟩ := gd_kids h; unfold varP; refine good_must fun hn => good_then (good_pub m) (good_then (good_lab _) (good_then (good_one (good_named hn)) (good_then (good_seq fun p hp => ?_) (good_one (by decide)))))
 obtain ⟨x, hx, rfl⟩ := List.mem_map.1 hp; exact good_must fun _ => good_then (good_one (by decide)) (good_then (good_exP x 0 (hk x hx)) (good_one (by decide)))
theorem good_pars : ∀ (l : List Nd) (i : Nat), GoodP (parsP l i)
 | [], _ => good_nil
 | x :: r, i => by
  rw [parsP]; refine good_then ?_ (good_pars r (i + 1))
  unfold parP; refine good_must fun _ => good_then ?_ (good_must fun hn => good_then (good_lab _) (good_one (good_named hn)))
  split
  ·exact good_one (by decide)
  ·exact good_nil
theorem good_proc (x : Nd) (h : Rng x) : GoodP (procP x) := by
 obtain ⟨k, t, m, l⟩ := x; obtain ⟨-, hk⟩ := gd_kids h; unfold procP; refine good_must fun hn => good_then (good_pub m) (good_then (good_three (by decide) (good_named hn) (by decide)) (good_then (good_pars _ 0) (good_then (good_one (by decide)) (good_then (good_lab _) (good_then ?_ ?_)))))
 ·split
  ·exact good_then (good_one (by decide)) (good_lab _)
  ·exact good_nil
 ·obtain ⟨-, -, hN, -⟩ := named_m hn
  rcases List.eq_nil_or_concat l with e | ⟨ps, bb, e⟩
  ·rw [e] at hN; simp at hN
  ·rw [List.concat_eq_append] at e
   subst e; rw [List.getLastD_concat]; exact (good_stP bb (hk bb (by simp))).2
theorem good_decls : ∀ (l : List Nd) (d : Bool), (∀ y ∈ l, Rng y) → GoodP (declsP l d)
 | [], _, _ => good_nil
 | x :: r, d, h => by
  rw [declsP]; refine good_then ?_ (good_decls r _ fun y hy => h y (List.mem_cons_of_mem _ hy))
  have hx := h x (List.mem_cons_self ..); unfold declP; split
  ·exact good_must fun _ => good_must fun hn => good_three (by decide) (good_named hn) (by decide)
  ·split
   ·exact good_var x hx
   ·exact good_must fun _ => good_proc x hx
theorem good_mod (x : Nd) (h : Rng x) : GoodP (modP x) := by
 obtain ⟨k, t, m, l⟩ := x; obtain ⟨-, hk⟩ := gd_kids h; unfold modP; exact good_must fun _ => good_must fun hn => good_then (good_three (by decide) (good_named hn) (by decide)) (good_decls l false hk)
def wordsJ : List (List UInt8) → List UInt8
 | [] => []
 | [x] => x
 | x :: y :: r => x ++ 32 :: wordsJ (y :: r)
theorem join_words (l : List (List UInt8)) : Lib.join l [32] = wordsJ l := by
 induction l with
 | nil => rfl
 | cons x r ih =>
  cases r with
  | nil => rw [Lib.join_one]; rfl
  | cons y r =>
   rw [wordsJ, ← ih, Lib.join_cons, Lib.join_cons]; simp [Lib.joinTail]
def placedW : Nat → List (List UInt8) → List Tok
 | _, [] => []
 | p, x :: r => ((tokF x).1, p, x.length) :: placedW (p + x.length + 1) r
theorem good_pos {x : List UInt8} (h : GoodL x) : 1 ≤ x.length := by
 have h2 : (tokF x).2 = (x.length, 0) := h; have := tok_pos x (by rw [h2]); rw [h2] at this; exact this
theorem good_on {x : List UInt8} (h : GoodL x) (r : List UInt8) : tokF (x ++ 32 :: r) = ((tokF x).1, x.length, 0) ∧ skipB false (x ++ 32 :: r) = 0 := by
 have h2 : (tokF x).2 = (x.length, 0) := h; have hg : again.Good x ((tokF x).1, 0, x.length) := ⟨by simp only [List.drop_zero]; rw [← h2], by simp, good_pos h⟩; have h3 := again.good_again x _ hg r; have e : again.text x ((tokF x).1, 0, x.length) = x := by simp [again.text]
 rw [e] at h3; exact ⟨h3.1, h3.2.1⟩
theorem good_skip {x : List UInt8} (h : GoodL x) : skipB false x = 0 := by
 have h1 := (good_on h []).2; cases x with
 | nil => exact absurd (good_pos h) (by simp)
 | cons c r =>
  simp only [List.cons_append, skipB] at h1 ⊢
  repeat' split
  all_goals first | rfl | (simp_all; done) | omega
theorem words_skip (l : List (List UInt8)) (h : ∀ x ∈ l, GoodL x) : skipB false (wordsJ l) = 0 := by
 rcases l with _ | ⟨x, _ | ⟨y, r⟩⟩
 ·rfl
 ·exact good_skip (h x (by simp))
 ·exact (good_on (h x (by simp)) _).2
theorem scan_words (J : List UInt8) : ∀ (l : List (List UInt8)) (f p : Nat) (acc : List Tok), (∀ x ∈ l, GoodL x) → J.drop p = wordsJ l → l.length < f → scanTok f J p acc = (acc ++ placedW p l, 0, 0) := by
 intro l; induction l with
 | nil =>
  intro f p acc _ hJ hf; obtain ⟨f, rfl⟩ : ∃ g, f = g + 1 := ⟨f - 1, by simp at hf; omega⟩
  have : ¬ p < J.length := by
   intro h; rw [List.drop_eq_getElem_cons h] at hJ; cases hJ
  rw [scanTok, if_neg this]; simp [placedW]
 | cons x r ih =>
  intro f p acc hg hJ hf; obtain ⟨f, rfl⟩ : ∃ g, f = g + 1 := ⟨f - 1, by simp at hf; omega⟩; have hx := hg x (by simp); have hpos := good_pos hx
  have hp : p < J.length := by
   rcases Nat.lt_or_ge p J.length with h | h
   ·exact h
   ·rw [List.drop_eq_nil_of_le h] at hJ
    have h9 : 1 ≤ (wordsJ (x :: r)).length := by
     cases r with
     | nil => exact hpos
     | cons y r => rw [wordsJ, List.length_append]; omega
    rw [← hJ] at h9; simp at h9
  have ht : tokF (wordsJ (x :: r)) = ((tokF x).1, x.length, 0) := by
   cases r with
   | nil =>
    have h2 : (tokF x).2 = (x.length, 0) := hx; show tokF x = _
    rw [← h2]
   | cons y r => exact (good_on hx _).1
  have hd : J.drop (p + x.length) = (wordsJ (x :: r)).drop x.length := by rw [← List.drop_drop, hJ]
  have hrest : skipB false (J.drop (p + x.length)) ≤ 1 ∧ (r ≠ [] → skipB false (J.drop (p + x.length)) = 1 ∧ J.drop (p + x.length + 1) = wordsJ r) ∧ (r = [] → skipB false (J.drop (p + x.length)) = 0 ∧ J.drop (p + x.length) = []) := by
   rw [hd]; cases r with
   | nil =>
    have : (wordsJ [x]).drop x.length = [] := List.drop_eq_nil_of_le (Nat.le_refl _); rw [this]; exact ⟨by simp [skipB], fun h => absurd rfl h, fun _ => ⟨rfl, rfl⟩⟩
   | cons y r =>
    have e : (wordsJ (x :: y :: r)).drop x.length = 32 :: wordsJ (y :: r) := by rw [wordsJ, List.drop_left]
    have hs : skipB false (32 :: wordsJ (y :: r)) = 1 := by
     have := words_skip (y :: r) fun z hz => hg z (by simp at hz ⊢; exact .inr hz)
     simp [skipB, this]
    rw [e, hs]; refine ⟨Nat.le_refl _, fun _ => ⟨rfl, ?_⟩, fun h => by cases h⟩
    rw [← List.drop_drop, hd, e]; rfl
  rw [scanTok, if_pos hp, hJ, ht]; simp only [if_true]; cases r with
  | nil =>
   obtain ⟨h1, h2⟩ := hrest.2.2 rfl; rw [h1]; have h3 : J.drop (p + x.length + 0) = wordsJ [] := by rw [Nat.add_zero, h2]; rfl
   have := ih f (p + x.length + 0) (acc ++ [((tokF x).1, p, x.length)]) (fun z hz => by cases hz) h3 (by simp at hf ⊢; omega); rw [this]; simp [placedW]
  | cons y r =>
   obtain ⟨h1, h2⟩ := hrest.2.1 (by simp); rw [h1, ih f (p + x.length + 1) (acc ++ [((tokF x).1, p, x.length)]) (fun z hz => hg z (by simp at hz ⊢; exact .inr hz)) h2 (by simp at hf ⊢; omega)]; simp [placedW]
theorem words_len : ∀ (l : List (List UInt8)), (∀ x ∈ l, GoodL x) → l.length ≤ (wordsJ l).length := by
 intro l; induction l with
 | nil => intro _; simp
 | cons x r ih =>
  intro h; have hp := good_pos (h x (by simp)); have hi := ih fun z hz => h z (by simp [hz])
  cases r with
  | nil => simpa [wordsJ] using hp
  | cons y r =>
   rw [wordsJ, List.length_append, List.length_cons (a := (32 : UInt8)), List.length_cons (a := x)]; omega
theorem scan_joined (l : List (List UInt8)) (h : ∀ x ∈ l, GoodL x) (hn : (wordsJ l).length ≤ 3000) : scanF (wordsJ l) = (placedW 0 l, 0, 0) := by
 rw [scanF, if_neg (by omega), words_skip l h]; have := scan_words (wordsJ l) l ((wordsJ l).length + 1) 0 [] h rfl (by have := words_len l h; omega); simpa using this
def Fits : List ByteArray → List Tk → Prop
 | [], [] => True
 | w :: ws, t :: ts => (t.text = w ∧ t.kind = kindW w) ∧ Fits ws ts
 | _, _ => False
theorem Fits.cons {w : ByteArray} {ws : List ByteArray} {l : List Tk} (h : Fits (w :: ws) l) : ∃ t ts, l = t :: ts ∧ (t.text = w ∧ t.kind = kindW w) ∧ Fits ws ts := by
 cases l with
 | nil => exact h.elim
 | cons t ts => exact ⟨t, ts, rfl, h⟩
theorem Fits.nil {l : List Tk} (h : Fits [] l) : l = [] := by
 cases l with
 | nil => rfl
 | cons t ts => exact h.elim
theorem Fits.app {a b : List ByteArray} : ∀ {l : List Tk}, Fits (a ++ b) l → ∃ l1 l2, l = l1 ++ l2 ∧ Fits a l1 ∧ Fits b l2 := by
 induction a with
 | nil => intro l h; exact ⟨[], l, rfl, trivial, h⟩
 | cons w ws ih =>
  intro l h; obtain ⟨t, ts, rfl, h1, h2⟩ := Fits.cons h; obtain ⟨l1, l2, rfl, h3, h4⟩ := ih h2; exact ⟨t :: l1, l2, rfl, ⟨h1, h3⟩, h4⟩
theorem words_split (x : List UInt8) (r : List (List UInt8)) : ∃ q, wordsJ (x :: r) = x ++ q ∧ (r ≠ [] → q = 32 :: wordsJ r) := by
 cases r with
 | nil => exact ⟨[], by simp [wordsJ], fun h => absurd rfl h⟩
 | cons y r => exact ⟨_, rfl, fun _ => rfl⟩
theorem fits_placed (s : ByteArray) : ∀ (ws : List ByteArray) (p : Nat), s.data.toList.drop p = wordsJ (ws.map fun w => w.data.toList) → Fits ws (tksOf s (placedW p (ws.map fun w => w.data.toList))) := by
 intro ws; induction ws with
 | nil => intro p _; trivial
 | cons w r ih =>
  intro p h; rw [List.map_cons] at h; obtain ⟨q, h1, h2⟩ := words_split w.data.toList (r.map fun w => w.data.toList); rw [h1] at h; refine ⟨⟨ba_ext ?_, rfl⟩, ?_⟩
  ·show (s.extract p (p + w.data.toList.length)).data.toList = _
   rw [lex.extract_list, h, List.take_left]
  ·cases r with
   | nil => trivial
   | cons y r =>
    refine ih _ ?_
    have e := h2 (by simp); rw [show p + w.data.toList.length + 1 = p + (w.data.toList.length + 1) by omega, ← List.drop_drop, h, e]; rw [show w.data.toList.length + 1 = w.data.toList.length + 1 from rfl, ← List.drop_drop, List.drop_left]; rfl
end prt
end Go.Proofs.YtpcihajmcejliacGreatDoor
namespace Go.Proofs.YtpcihajmcejliacGreatDoor
open Go.RowKit
namespace prt
open synw
def LeO {α : Type} (a b : Out α) : Prop := a = .out ∨ a = b
theorem LeO.refl {α : Type} (a : Out α) : LeO a a := .inr rfl
theorem LeO.bind {α β : Type} {a b : Out α} {f g : α → List Tk → Out β} (h : LeO a b) (hf : ∀ x l, LeO (f x l) (g x l)) : LeO (a.bind f) (b.bind g) := by
 rcases h with rfl | rfl
 ·exact .inl rfl
 ·cases a with
  | out => exact .inl rfl
  | bad l => exact .inr rfl
  | got x l => exact hf x l
theorem LeO.ite {α : Type} {c : Prop} [Decidable c] {a b a2 b2 : Out α} (h : LeO a a2) (h2 : LeO b b2) : LeO (if c then a else b) (if c then a2 else b2) := by
 split
 ·exact h
 ·exact h2
theorem prs_more : ∀ (n : Nat) (X : NT) (l : List Tk), LeO (prs n X l) (prs (n + 1) X l) := by
 intro n; induction n with
 | zero => intro X l; exact .inl (by cases X <;> rfl)
 | succ n ih =>
  intro X l; cases X
  all_goals
   rw [prs, prs]
   repeat' (first | exact ih _ _ | exact LeO.refl _ | refine LeO.bind ?_ fun _ _ => ?_ | refine LeO.ite ?_ ?_)
theorem prs_mono {n m : Nat} (h : n ≤ m) {X : NT} {l : List Tk} (hn : prs n X l ≠ .out) : prs m X l = prs n X l := by
 induction m with
 | zero =>
  obtain rfl : n = 0 := by omega
  rfl
 | succ m ih =>
  rcases Nat.lt_or_ge m n with h1 | h1
  ·obtain rfl : n = m + 1 := by omega
   rfl
  ·have e := ih h1
   rcases prs_more m X l with h2 | h2
   ·exact absurd (e ▸ h2) hn
   ·rw [← h2, e]
def Rd (X : NT) (l : List Tk) (o : Out Nd) : Prop := ∃ n, ∀ m, n ≤ m → prs m X l = o
theorem Rd.at {X : NT} {l : List Tk} {o : Out Nd} (h : Rd X l o) {n : Nat} (hn : prs n X l ≠ .out) : prs n X l = o := by
 obtain ⟨k, hk⟩ := h; rw [← prs_mono (Nat.le_max_left n k) hn]; exact hk _ (Nat.le_max_right n k)
theorem rd0 {X : NT} {l : List Tk} {o : Out Nd} (h : ∀ m, prs (m + 1) X l = o) : Rd X l o :=
 ⟨1, fun m hm => by obtain ⟨q, rfl⟩ : ∃ q, m = q + 1 := ⟨m - 1, by omega⟩; exact h q⟩
theorem rd1 {X Y : NT} {l l2 : List Tk} {o o2 : Out Nd} (h2 : Rd Y l2 o2) (h : ∀ m, prs m Y l2 = o2 → prs (m + 1) X l = o) : Rd X l o := by
 obtain ⟨n, hn⟩ := h2; exact ⟨n + 1, fun m hm => by obtain ⟨q, rfl⟩ : ∃ q, m = q + 1 := ⟨m - 1, by omega⟩; exact h q (hn q (by omega))⟩
theorem rd2 {X Y Z : NT} {l l2 l3 : List Tk} {o o2 o3 : Out Nd} (h2 : Rd Y l2 o2) (h3 : Rd Z l3 o3) (h : ∀ m, prs m Y l2 = o2 → prs m Z l3 = o3 → prs (m + 1) X l = o) : Rd X l o := by
 obtain ⟨n, hn⟩ := h2; obtain ⟨k, hk⟩ := h3; exact ⟨n + k + 1, fun m hm => by obtain ⟨q, rfl⟩ : ∃ q, m = q + 1 := ⟨m - 1, by omega⟩; exact h q (hn q (by omega)) (hk q (by omega))⟩
theorem rd3 {X Y Z V : NT} {l l2 l3 l4 : List Tk} {o o2 o3 o4 : Out Nd} (h2 : Rd Y l2 o2) (h3 : Rd Z l3 o3) (h4 : Rd V l4 o4) (h : ∀ m, prs m Y l2 = o2 → prs m Z l3 = o3 → prs m V l4 = o4 → prs (m + 1) X l = o) : Rd X l o := by
 obtain ⟨n, hn⟩ := h2; obtain ⟨k, hk⟩ := h3; obtain ⟨j, hj⟩ := h4; exact ⟨n + k + j + 1, fun m hm => by obtain ⟨q, rfl⟩ : ∃ q, m = q + 1 := ⟨m - 1, by omega⟩; exact h q (hn q (by omega)) (hk q (by omega)) (hj q (by omega))⟩
theorem rd_expr {l : List Tk} {o : Out Nd} (h : Rd (.bound 0) l o) : Rd .expr l o := rd1 h fun m h => by rw [prs]; exact h
theorem rd_top {l : List Tk} {o : Out Nd} (h : Rd .unary l o) : Rd (.bound 3) l o := rd1 h fun m h => by rw [prs, if_pos (by decide)]; exact h
theorem rd_bound {k : Nat} {l r : List Tk} {x : Nd} {o : Out Nd} (hk : k ≤ 2) (h : Rd (.bound (k + 1)) l (.got x r)) (h2 : Rd (.loop k x) r o) : Rd (.bound k) l o :=
 rd2 h h2 fun m a b => by rw [prs, if_neg (by omega), a]; exact b
theorem rd_stop {k : Nat} {l : List Tk} {x : Nd} (h : ¬ (kindOf l = 3 ∧ (opOf (textOf l)).2 = k)) : Rd (.loop k x) l (.got x l) := rd0 fun m => by rw [prs, if_neg h]
theorem rd_op0 {t : Tk} {l r : List Tk} {x y : Nd} {m : Int} (hk : t.kind = 3) (ho : opOf t.text = (m, 0)) (h : Rd (.bound 1) l (.got y r)) : Rd (.loop 0 x) (t :: l) (.got (.mk 19 noText m [x, y]) r) :=
 rd1 h fun q a => by
  have e : (opOf (textOf (t :: l))) = (m, 0) := ho; rw [prs, e, if_pos ⟨hk, rfl⟩]; show (prs q (.bound 1) l).bind _ = _
  rw [a]; rfl
theorem rd_op {k : Nat} {t : Tk} {l r : List Tk} {x y : Nd} {m : Int} {o : Out Nd} (h0 : k ≠ 0) (hk : t.kind = 3) (ho : opOf t.text = (m, (k : Int))) (h : Rd (.bound (k + 1)) l (.got y r)) (h2 : Rd (.loop k (.mk 19 noText m [x, y])) r o) : Rd (.loop k x) (t :: l) o :=
 rd2 h h2 fun q a b => by
  have e : (opOf (textOf (t :: l))) = (m, (k : Int)) := ho; rw [prs, e, if_pos ⟨hk, rfl⟩]; show (prs q (.bound (k + 1)) l).bind _ = _
  rw [a]; show (if k = 0 then _ else _) = _
  rw [if_neg h0]; exact b
def Is (t : Tk) (w : ByteArray) : Prop := t.text = w ∧ t.kind = kindW w
theorem is_yes {t : Tk} {r : List Tk} {w : ByteArray} (h : Is t w) (hk : kindW w ≠ 2 := by decide) : isB (t :: r) [w] = true := by
 obtain ⟨h1, h2⟩ := h; simp [isB, h1, h2, hk]
theorem is_no {t : Tk} {r : List Tk} {w v : ByteArray} (h : Is t w) (hn : w ≠ v := by decide) : isB (t :: r) [v] = false := by
 obtain ⟨h1, h2⟩ := h; simp [isB, h1, hn]
theorem is_num {t : Tk} {r : List Tk} {w : ByteArray} (h : Is t w) (hk : kindW w = 2) (ws : List ByteArray) : isB (t :: r) ws = false := by
 obtain ⟨h1, h2⟩ := h; simp [isB, h2, hk]
theorem need_yes {t : Tk} {r : List Tk} {w : ByteArray} (h : Is t w) (hk : kindW w ≠ 2 := by decide) : pNeed w (t :: r) = .got () r := by
 unfold pNeed; rw [if_pos (is_yes h hk)]; rfl
theorem name_ne {w v : ByteArray} (h : nameB w.data.toList = true) (hv : nameB v.data.toList = false := by decide) : w ≠ v := by
 rintro rfl; rw [h] at hv; cases hv
theorem name_yes {t : Tk} {r : List Tk} {w : ByteArray} (h : Is t w) (hw : NameT w) : pName (t :: r) = .got w r := by
 obtain ⟨h1, h2⟩ := h; have hw2 : nameB w.data.toList = true := hw; simp only [pName]; rw [if_pos ⟨by rw [h2, name_kind hw2], by rw [h1]; unfold nameB at hw2; simp only [Bool.and_eq_true, Bool.not_eq_true'] at hw2; exact hw2.2⟩, h1]
theorem whole_yes {t : ByteArray} (ht : WholeT t) {l r : List Tk} (h : Fits (wholeW t) l) (hr : isB r [sDot] = false) : pWhole (l ++ r) = .got t r := by
 unfold wholeW at h; rcases cutB_whole ht with ⟨h1, e⟩ | ⟨a, b, ha, hb, rfl, e⟩
 ·rw [e] at h
  obtain ⟨t1, l1, rfl, h2, h3⟩ := Fits.cons h; obtain rfl := Fits.nil h3; unfold pWhole; rw [List.singleton_append, name_yes h2 h1]; show (if isB r [sDot] = true then _ else _) = _
  rw [if_neg (by rw [hr]; decide)]
 ·rw [e] at h
  obtain ⟨t1, l1, rfl, h2, h3⟩ := Fits.cons h; obtain ⟨t2, l2, rfl, h4, h5⟩ := Fits.cons h3; obtain ⟨t3, l3, rfl, h6, h7⟩ := Fits.cons h5; obtain rfl := Fits.nil h7; unfold pWhole; rw [List.cons_append, name_yes h2 ha]; show (if isB (t2 :: (t3 :: r)) [sDot] = true then _ else _) = _
  rw [if_pos (is_yes h4)]; show (pName (t3 :: r)).bind _ = _
  rw [name_yes h6 hb]; rfl
theorem whole_head {t : ByteArray} (ht : WholeT t) : ∃ w ws, wholeW t = w :: ws ∧ NameT w := by
 unfold wholeW; rcases cutB_whole ht with ⟨h1, e⟩ | ⟨a, b, ha, hb, rfl, e⟩
 ·rw [e]; exact ⟨_, _, rfl, h1⟩
 ·rw [e]; exact ⟨_, _, rfl, ha⟩
theorem then_snd {a b : PO} (h : a.1 = true) : (a.then b).2 = a.2 ++ b.2 := by unfold PO.then; rw [if_pos h]
theorem say_then2 (l : List ByteArray) (p : PO) : ((sayP l).then p).2 = l ++ p.2 := then_snd rfl
theorem must_then2 {b : Bool} (h : b = true) (p : PO) : (mustP b).then p = p := by subst h; simp [PO.then, mustP]
theorem wholeP_eq {t : ByteArray} {n : Nat} {a b : Int} (ht : WholeT t) (h1 : a ≤ (n : Int)) (h2 : b < 0 ∨ (n : Int) ≤ b) : wholeP t 0 n a b = (true, wholeW t) := by
 have h := wholeP_ok.2 ⟨ht, rfl, h1, h2⟩; unfold wholeP at h ⊢; rw [then_ok1, must_ok1] at h; rw [must_then2 h.1]; rfl
theorem w_neg (k : Int) (x : Nd) : (exP k (.mk 20 noText 0 [x])).2 = sMinus :: (exP 3 x).2 := by
 simp [exP, exK, finP, kidP, kidLev, PO.then, mustP, sayP, plainB, kidsB]
theorem w_not (k : Int) (x : Nd) : (exP k (.mk 21 noText 0 [x])).2 = sNot :: (exP 3 x).2 := by
 simp [exP, exK, finP, kidP, kidLev, PO.then, mustP, sayP, plainB, kidsB]
theorem w_num (k : Int) {m : Int} (h : 0 ≤ m) : (exP k (.mk 15 noText m [])).2 = [digW m] := by
 simp [exP, finP, PO.then, mustP, sayP, h]
theorem w_name (k : Int) {t : ByteArray} (ht : WholeT t) : (exP k (.mk 16 t 0 [])).2 = wholeW t := by
 have e : wholeP t 0 ([] : List Nd).length 0 0 = (true, wholeW t) := wholeP_eq ht (by simp) (.inr (by simp)); simp only [exP, finP]; rw [e]; simp [PO.then, mustP]
theorem w_item (k : Int) {t : ByteArray} {x : Nd} (ht : WholeT t) (hx : (exP 0 x).1 = true) : (exP k (.mk 17 t 0 [x])).2 = wholeW t ++ sBra :: ((exP 0 x).2 ++ [sKet]) := by
 have e : wholeP t 0 [x].length 1 1 = (true, wholeW t) := wholeP_eq ht (by simp) (.inr (by simp)); simp only [exP, finP]; rw [e]; simp [PO.then, sayP, exK, kidP, kidLev, hx]
theorem w_call (k : Int) {t : ByteArray} {l : List Nd} (ht : WholeT t) (hl : ∀ y ∈ l, (exP 0 y).1 = true) : (exP k (.mk 18 t 0 l)).2 = wholeW t ++ sOpen :: ((comP (l.map (exP 0)) true).2 ++ [sClose]) := by
 have e : wholeP t 0 l.length 0 (-1) = (true, wholeW t) := wholeP_eq ht (by omega) (.inl (by decide)); have hc : (comP (l.map (exP 0)) true).1 = true := (com_ok1 _ _).2 fun p hp => by obtain ⟨y, hy, rfl⟩ := List.mem_map.1 hp; exact hl y hy
 simp only [exP, finP, exK_call]; rw [e]; simp [PO.then, sayP, hc]
def leftL (m : Int) : Int := if (signF m).2 = 0 then 1 else (signF m).2
def opW (m : Int) (x y : Nd) : List ByteArray := (exP (leftL m) x).2 ++ (signF m).1 :: (exP ((signF m).2 + 1) y).2
theorem w_op (k : Int) {m : Int} {x y : Nd} (h0 : 1 ≤ m) (h1 : m ≤ 9) (hx : (exP (leftL m) x).1 = true) : (exP k (.mk 19 noText m [x, y])).2 = if (signF m).2 < k then sOpen :: (opW m x y ++ [sClose]) else opW m x y := by
 have hs := sign_iff.2 ⟨h0, h1⟩; have e1 : exP (kidLev 19 m 0) x = exP (leftL m) x := rfl; have e2 : exP (kidLev 19 m 1) y = exP ((signF m).2 + 1) y := rfl; simp only [exP, finP, exK, if_true]; rw [must_then2 (plain_iff.2 ⟨rfl, by decide, by decide, by simp, .inr (by simp)⟩), must_then2 (by simpa using hs), e1, e2]; unfold wrapP opW; simp only [kidP, List.getD_cons_zero, List.getD_cons_succ]; by_cases hk : (signF m).2 < k
 ·rw [if_pos (by simpa using hk), if_pos hk]
  simp [PO.then, sayP, hx]
 ·rw [if_neg (by simpa using hk), if_neg hk]
  simp [PO.then, sayP, hx]
structure FolE (k : Int) (r : List Tk) : Prop where
 dot : isB r [sDot] = false
 opn : isB r [sOpen] = false
 bra : isB r [sBra] = false
 op : kindOf r = 3 → (opOf (textOf r)).2 < k
theorem FolE.mono {k j : Int} {r : List Tk} (h : FolE k r) (hj : k ≤ j) : FolE j r := ⟨h.dot, h.opn, h.bra, fun e => by have := h.op e; omega⟩
theorem folE_close {t : Tk} {w : ByteArray} (h : Is t w) (hw : w = sClose ∨ w = sKet ∨ w = sComma ∨ w = sSemi ∨ w = sEq) (r : List Tk) : FolE 0 (t :: r) := by
 refine ⟨is_no h ?_, is_no h ?_, is_no h ?_, fun _ => ?_⟩
 ·rcases hw with rfl | rfl | rfl | rfl | rfl <;> decide
 ·rcases hw with rfl | rfl | rfl | rfl | rfl <;> decide
 ·rcases hw with rfl | rfl | rfl | rfl | rfl <;> decide
 ·show (opOf t.text).2 < 0
  rw [h.1]; rcases hw with rfl | rfl | rfl | rfl | rfl <;> decide
theorem sign_opOf {m : Int} (h0 : 1 ≤ m) (h1 : m ≤ 9) : opOf (signF m).1 = (m, (signF m).2) ∧ kindW (signF m).1 = 3 ∧ (signF m).1 ≠ sDot ∧ (signF m).1 ≠ sOpen ∧ (signF m).1 ≠ sBra ∧ ((signF m).2 = 0 ∨ (signF m).2 = 1 ∨ (signF m).2 = 2) := by
 have h : m = 1 ∨ m = 2 ∨ m = 3 ∨ m = 4 ∨ m = 5 ∨ m = 6 ∨ m = 7 ∨ m = 8 ∨ m = 9 := by omega
 rcases h with rfl | rfl | rfl | rfl | rfl | rfl | rfl | rfl | rfl <;> decide
theorem folE_op {t : Tk} {m : Int} (h : Is t (signF m).1) (h0 : 1 ≤ m) (h1 : m ≤ 9) {k : Int} (hk : (signF m).2 < k) (r : List Tk) : FolE k (t :: r) := by
 obtain ⟨h2, h3, h4, h5, h6, -⟩ := sign_opOf h0 h1; refine ⟨is_no h h4, is_no h h5, is_no h h6, fun _ => ?_⟩
 show (opOf t.text).2 < k
 rw [h.1, h2]; exact hk
structure Cont (k : Nat) (x : Nd) (r : List Tk) (o : Out Nd) : Prop where
 fol : FolE ((k : Int) + 1) r
 mid : k = 1 ∨ k = 2 → Rd (.loop k x) r o
 fin : k = 0 ∨ k = 3 → FolE k r ∧ o = .got x r
theorem cont_got {k : Nat} {x : Nd} {r : List Tk} (h : FolE k r) : Cont k x r (.got x r) :=
 ⟨h.mono (by omega), fun _ => rd_stop fun ⟨h1, h2⟩ => by have := h.op h1; omega, fun _ => ⟨h, rfl⟩⟩
theorem cont_step {k : Nat} (hk : k ≤ 2) {x : Nd} {l r : List Tk} {o : Out Nd} (h : Rd (.bound (k + 1)) l (.got x r)) (hc : Cont k x r o) : Rd (.bound k) l o := by
 refine rd_bound hk h ?_
 by_cases h0 : k = 0
 ·obtain ⟨h1, rfl⟩ := hc.fin (.inl h0)
  subst h0; exact rd_stop fun ⟨h2, h3⟩ => by have := h1.op h2; omega
 ·exact hc.mid (by omega)
theorem lift {x : Nd} {l r : List Tk} {j : Nat} (hj : j ≤ 3) (h : ∀ o, Cont j x r o → Rd (.bound j) l o) : ∀ (d k : Nat) (o : Out Nd), j = k + d → Cont k x r o → Rd (.bound k) l o := by
 intro d; induction d with
 | zero => intro k o e hc; obtain rfl : j = k := by omega
           exact h o hc
 | succ d ih =>
  intro k o e hc; have hc1 : FolE ((k + 1 : Nat) : Int) r := by have := hc.fol; rw [show ((k + 1 : Nat) : Int) = (k : Int) + 1 by omega]; exact this
  exact cont_step (by omega) (ih (k + 1) _ (by omega) (cont_got hc1)) hc
theorem lift_atom {x : Nd} {l r : List Tk} (h : FolE 3 r → Rd .unary l (.got x r)) {k : Nat} (hk : k ≤ 3) {o : Out Nd} (hc : Cont k x r o) : Rd (.bound k) l o :=
 lift (Nat.le_refl 3) (fun o hc => by
  obtain ⟨h1, rfl⟩ := hc.fin (.inr rfl); exact rd_top (h h1)) (3 - k) k o (by omega) hc
def HeadE (w : ByteArray) : Prop := nameB w.data.toList = true ∨ kindW w = 2 ∨ w = sMinus ∨ w = sNot ∨ w = sOpen
theorem HeadE.ne {w v : ByteArray} (h : HeadE w) (hn : nameB v.data.toList = false := by decide) (hk : kindW v ≠ 2 := by decide) (h1 : v ≠ sMinus := by decide) (h2 : v ≠ sNot := by decide) (h3 : v ≠ sOpen := by decide) : w ≠ v := by
 rcases h with h | h | rfl | rfl | rfl
 ·exact name_ne h hn
 ·rintro rfl; exact hk h
 ·exact fun e => h1 e.symm
 ·exact fun e => h2 e.symm
 ·exact fun e => h3 e.symm
theorem ex_head : ∀ (x : Nd) (k : Int), Rng x → IsNd x → KdE x.kd → ∃ w ws, (exP k x).2 = w :: ws ∧ HeadE w := by
 refine nd_ind fun kd t m l ih k hr hX hke => ?_
 have hk := hr.kids; have hkid := hX.kids; have hf := hX.form; have ok : ∀ y ∈ l, KdE y.kd → ∀ le, (exP le y).1 = true := fun y hy h le => (ex_form y le (hk y hy)).2 ⟨hkid y hy, h⟩
 unfold KdE Nd.kd at hke; cases hf with
 | num h0 h1 => exact ⟨_, _, w_num k h0, .inr (.inl (kind_dig h0 h1))⟩
 | name ht =>
  obtain ⟨w, ws, e, hw⟩ := whole_head ht; exact ⟨w, ws, by rw [w_name k ht, e], .inl hw⟩
 | @item _ x ht hx =>
  obtain ⟨w, ws, e, hw⟩ := whole_head ht; exact ⟨w, _, by rw [w_item k ht (ok x (by simp) hx 0), e]; rfl, .inl hw⟩
 | call ht hl =>
  obtain ⟨w, ws, e, hw⟩ := whole_head ht; exact ⟨w, _, by rw [w_call k ht fun y hy => ok y hy (hl y hy) 0, e]; rfl, .inl hw⟩
 | @op _ x y h0 h1 hx hy =>
  rw [w_op k h0 h1 (ok x (by simp) hx _)]; split
  ·exact ⟨_, _, rfl, .inr (.inr (.inr (.inr rfl)))⟩
  ·obtain ⟨w, ws, e, hw⟩ := ih x (by simp) (leftL m) (hk x (by simp)) (hkid x (by simp)) hx
   exact ⟨w, _, by unfold opW; rw [e]; rfl, hw⟩
 | neg hx => exact ⟨_, _, w_neg k _, .inr (.inr (.inl rfl))⟩
 | not_ hx => exact ⟨_, _, w_not k _, .inr (.inr (.inr (.inl rfl)))⟩
 | _ => exact absurd hke (by simp)
def ExB (x : Nd) : Prop := ∀ (k : Nat) (l r : List Tk) (o : Out Nd), k ≤ 3 → Fits (exP (k : Int) x).2 l → Cont k x r o → Rd (.bound k) (l ++ r) o
theorem ExB.all {x : Nd} (h : ExB x) {l r : List Tk} (hl : Fits (exP 0 x).2 l) (hr : FolE 0 r) : Rd .expr (l ++ r) (.got x r) := rd_expr (h 0 l r _ (by decide) hl (cont_got hr))
theorem asked_back {x : Nd} {l r : List Tk} {t1 t2 : Tk} (h1 : Is t1 sOpen) (h2 : Is t2 sClose) (h : Rd .expr (l ++ t2 :: r) (.got x (t2 :: r))) : Rd .asked (t1 :: (l ++ t2 :: r)) (.got x r) :=
 rd1 h fun m a => by
  rw [prs, need_yes h1]; show (prs m .expr (l ++ t2 :: r)).bind _ = _
  rw [a]; show (pNeed sClose (t2 :: r)).bind _ = _
  rw [need_yes h2]; rfl
theorem args_back {s : ByteArray} : ∀ (ys : List Nd) (acc : List Nd) (y : Nd) (l1 l2 r : List Tk) (t : Tk), (∀ z ∈ y :: ys, ExB z ∧ (exP 0 z).1 = true ∧ ∃ w ws, (exP 0 z).2 = w :: ws ∧ HeadE w) → Fits (exP 0 y).2 l1 → Fits (comP (ys.map (exP 0)) false).2 l2 → Is t sClose →
  Rd (.args s acc) (l1 ++ (l2 ++ t :: r)) (.got (.mk 18 s 0 (acc ++ y :: ys)) r) := by
 intro ys; induction ys with
 | nil =>
  intro acc y l1 l2 r t hz h1 h2 ht; obtain ⟨hb, hok, w, ws, e, hw⟩ := hz y (by simp); obtain rfl : l2 = [] := Fits.nil h2; have hx : Rd .expr (l1 ++ t :: r) (.got y (t :: r)) := hb.all h1 (folE_close ht (.inl rfl) r)
  have hno : ¬ (isB (l1 ++ t :: r) [sClose] = true ∧ acc.length = 0) := by
   rw [e] at h1; obtain ⟨t1, q, rfl, h3, -⟩ := Fits.cons h1; rintro ⟨h4, -⟩; rw [List.cons_append, is_no h3 hw.ne] at h4; cases h4
  refine rd1 hx fun m a => ?_
  rw [List.nil_append, prs, if_neg hno, a]; show (if isB (t :: r) [sComma] = true then _ else _) = _
  rw [is_no ht, if_neg (by decide), need_yes ht]; rfl
 | cons z ys ih =>
  intro acc y l1 l2 r t hz h1 h2 ht; obtain ⟨hb, hok, w, ws, e, hw⟩ := hz y (by simp); have hzk := (hz z (by simp)).2.1; rw [List.map_cons, comP] at h2; simp only [Bool.false_eq_true, if_false] at h2; rw [say_then2, then_snd hzk, List.singleton_append] at h2; obtain ⟨t3, q, rfl, h3, h4⟩ := Fits.cons h2; obtain ⟨l3, l4, rfl, h5, h6⟩ := Fits.app h4; have hrec := ih (acc ++ [y]) z l3 l4 r t (fun u hu => hz u (by simp at hu ⊢; exact .inr hu)) h5 h6 ht; have hx : Rd .expr (l1 ++ t3 :: ((l3 ++ l4) ++ t :: r)) (.got y (t3 :: ((l3 ++ l4) ++ t :: r))) := hb.all h1 (folE_close h3 (.inr (.inr (.inl rfl))) _)
  have hno : ¬ (isB (l1 ++ t3 :: ((l3 ++ l4) ++ t :: r)) [sClose] = true ∧ acc.length = 0) := by
   rw [e] at h1; obtain ⟨t1, q, rfl, h3, -⟩ := Fits.cons h1; rintro ⟨h4, -⟩; rw [List.cons_append, is_no h3 hw.ne] at h4; cases h4
  refine rd2 hx hrec fun m a b => ?_
  rw [List.cons_append, prs, if_neg hno, a]; show (if isB (t3 :: ((l3 ++ l4) ++ t :: r)) [sComma] = true then prs m (.args s (acc ++ [y])) ((l3 ++ l4) ++ t :: r) else _) = _
  rw [if_pos (is_yes h3), List.append_assoc, b, List.append_assoc]; rfl
theorem call_back {s : ByteArray} {ys : List Nd} {l r : List Tk} {t1 t2 : Tk} (hz : ∀ z ∈ ys, ExB z ∧ (exP 0 z).1 = true ∧ ∃ w ws, (exP 0 z).2 = w :: ws ∧ HeadE w) (h1 : Is t1 sOpen) (h2 : Is t2 sClose) (h : Fits (comP (ys.map (exP 0)) true).2 l) :
  Rd (.call s) (t1 :: (l ++ t2 :: r)) (.got (.mk 18 s 0 ys) r) := by
 have key : Rd (.args s []) (l ++ t2 :: r) (.got (.mk 18 s 0 ys) r) := by
  cases ys with
  | nil =>
   obtain rfl : l = [] := Fits.nil h; refine rd0 fun m => ?_
   rw [List.nil_append, prs, if_pos ⟨is_yes h2, rfl⟩, need_yes h2]; rfl
  | cons y ys =>
   rw [List.map_cons, comP] at h; simp only [if_true] at h; rw [say_then2, then_snd (hz y (by simp)).2.1, List.nil_append] at h; obtain ⟨l3, l4, rfl, h5, h6⟩ := Fits.app h; have := args_back (s := s) ys [] y l3 l4 r t2 hz h5 h6 h2; rw [List.append_assoc]; exact this
 refine rd1 key fun m a => ?_
 rw [prs, need_yes h1]; exact a
theorem place_name {s : ByteArray} {r : List Tk} (hr : isB r [sBra] = false) : Rd (.place s) r (.got (.mk 16 s 0 []) r) := rd0 fun m => by rw [prs, if_neg (by rw [hr]; decide)]
theorem place_item {s : ByteArray} {x : Nd} {l r : List Tk} {t1 t2 : Tk} (h1 : Is t1 sBra) (h2 : Is t2 sKet) (h : Rd .expr (l ++ t2 :: r) (.got x (t2 :: r))) : Rd (.place s) (t1 :: (l ++ t2 :: r)) (.got (.mk 17 s 0 [x]) r) :=
 rd1 h fun m a => by
  rw [prs, if_pos (is_yes h1)]; show (prs m .expr (l ++ t2 :: r)).bind _ = _
  rw [a]; show (pNeed sKet (t2 :: r)).bind _ = _
  rw [need_yes h2]; rfl
theorem unary_name {t : ByteArray} (ht : WholeT t) {l r : List Tk} {o : Out Nd} (h : Fits (wholeW t) l) (hr : isB r [sDot] = false) (h2 : if isB r [sOpen] = true then Rd (.call t) r o else Rd (.place t) r o) : Rd .unary (l ++ r) o := by
 have hp := whole_yes ht h hr; obtain ⟨w, ws, e, hw⟩ := whole_head ht; rw [e] at h; obtain ⟨t1, q, rfl, h3, -⟩ := Fits.cons h; have hw2 : nameB w.data.toList = true := hw; have a1 : isB (t1 :: (q ++ r)) [sMinus] = false := is_no h3 (name_ne hw); have a2 : isB (t1 :: (q ++ r)) [sNot] = false := is_no h3 (name_ne hw); have a3 : isB (t1 :: (q ++ r)) [sOpen] = false := is_no h3 (name_ne hw); have a4 : kindOf (t1 :: (q ++ r)) = 1 := by show t1.kind = 1; rw [h3.2, name_kind hw2]
 rw [List.cons_append] at hp ⊢; split at h2
 ·rename_i ho
  refine rd1 h2 fun m a => ?_
  rw [prs, a1, a2, a3, if_neg (by decide), if_neg (by decide), if_neg (by decide), if_neg (by omega), hp]; show (if isB r [sOpen] = true then _ else _) = _
  rw [if_pos ho, a]
 ·rename_i ho
  refine rd1 h2 fun m a => ?_
  rw [prs, a1, a2, a3, if_neg (by decide), if_neg (by decide), if_neg (by decide), if_neg (by omega), hp]; show (if isB r [sOpen] = true then _ else _) = _
  rw [if_neg ho, a]
theorem ex_back : ∀ (x : Nd), Rng x → IsNd x → KdE x.kd → ExB x := by
 refine nd_ind fun kd t m l ih hr hX hke => ?_
 have hk := hr.kids; have hkid := hX.kids; have hf := hX.form; have ok : ∀ y ∈ l, KdE y.kd → ∀ le, (exP le y).1 = true := fun y hy h le => (ex_form y le (hk y hy)).2 ⟨hkid y hy, h⟩
 have hd : ∀ y ∈ l, KdE y.kd → ∃ w ws, (exP 0 y).2 = w :: ws ∧ HeadE w := fun y hy h => ex_head y 0 (hk y hy) (hkid y hy) h
 have bk : ∀ y ∈ l, KdE y.kd → ExB y := fun y hy h => ih y hy (hk y hy) (hkid y hy) h
 unfold KdE Nd.kd at hke; intro k ts r o hk3 hfit hc; cases hf with
 | num h0 h1 =>
  rw [w_num _ h0] at hfit; obtain ⟨t1, q, rfl, h3, h4⟩ := Fits.cons hfit; obtain rfl := Fits.nil h4; have hkd := kind_dig h0 h1; refine lift_atom (fun _ => rd0 fun n => ?_) hk3 hc
  rw [List.singleton_append, prs, is_num h3 hkd, is_num h3 hkd, is_num h3 hkd, if_neg (by decide), if_neg (by decide), if_neg (by decide), if_pos (show kindOf (t1 :: r) = 2 from h3.2.trans hkd)]; simp only [pNumber]; rw [if_pos (h3.2.trans hkd), h3.1, val_dig h0 h1]
 | name ht =>
  rw [w_name _ ht] at hfit; refine lift_atom (fun hF => unary_name ht hfit hF.dot ?_) hk3 hc
  rw [if_neg (by rw [hF.opn]; decide)]; exact place_name hF.bra
 | @item _ x ht hx =>
  rw [w_item _ ht (ok x (by simp) hx 0)] at hfit; obtain ⟨l1, l2, rfl, h1, h2⟩ := Fits.app hfit; obtain ⟨t1, q, rfl, h3, h4⟩ := Fits.cons h2; obtain ⟨l3, l4, rfl, h5, h6⟩ := Fits.app h4; obtain ⟨t2, q, rfl, h7, h8⟩ := Fits.cons h6; obtain rfl := Fits.nil h8; have e : (l1 ++ t1 :: (l3 ++ [t2])) ++ r = l1 ++ (t1 :: (l3 ++ t2 :: r)) := by simp
  rw [e]; refine lift_atom (fun hF => unary_name ht h1 (is_no h3) ?_) hk3 hc
  rw [if_neg (by rw [is_no h3]; decide)]; exact place_item h3 h7 ((bk x (by simp) hx).all h5 (folE_close h7 (.inr (.inl rfl)) r))
 | call ht hl =>
  rw [w_call _ ht fun y hy => ok y hy (hl y hy) 0] at hfit; obtain ⟨l1, l2, rfl, h1, h2⟩ := Fits.app hfit; obtain ⟨t1, q, rfl, h3, h4⟩ := Fits.cons h2; obtain ⟨l3, l4, rfl, h5, h6⟩ := Fits.app h4; obtain ⟨t2, q, rfl, h7, h8⟩ := Fits.cons h6; obtain rfl := Fits.nil h8; have e : (l1 ++ t1 :: (l3 ++ [t2])) ++ r = l1 ++ (t1 :: (l3 ++ t2 :: r)) := by simp
  rw [e]; refine lift_atom (fun hF => unary_name ht h1 (is_no h3) ?_) hk3 hc
  rw [if_pos (is_yes h3)]; exact call_back (fun z hz => ⟨bk z hz (hl z hz), ok z hz (hl z hz) 0, hd z hz (hl z hz)⟩) h3 h7 h5
 | @op _ x y h0 h1 hx hy =>
  rw [w_op _ h0 h1 (ok x (by simp) hx _)] at hfit; obtain ⟨ho, hs3, -, -, -, hlev⟩ := sign_opOf h0 h1; -- the words without parentheses
  have inner : ∀ (j : Nat) (ts r : List Tk) (o : Out Nd), (signF m).2 = (j : Int) → Fits (opW m x y) ts → Cont j (.mk 19 noText m [x, y]) r o → Rd (.bound j) (ts ++ r) o := by
   intro j ts r o hj hfit hc; obtain ⟨l1, l2, rfl, h2, h3⟩ := Fits.app hfit; obtain ⟨t1, l3, rfl, h4, h5⟩ := Fits.cons h3; have hkk : t1.kind = 3 := h4.2.trans hs3; have hop : opOf t1.text = (m, (j : Int)) := by rw [h4.1, ho, hj]
   have e : (l1 ++ t1 :: l3) ++ r = l1 ++ (t1 :: (l3 ++ r)) := by simp
   rw [e]; have hxb := bk x (by simp) hx; have hyb := bk y (by simp) hy; have hfolJ : FolE ((j + 1 : Nat) : Int) r := by have := hc.fol; rw [show ((j + 1 : Nat) : Int) = (j : Int) + 1 by omega]; exact this
   have hy2 : Rd (.bound (j + 1)) (l3 ++ r) (.got y r) := hyb (j + 1) l3 r _ (by omega) (by rw [hj] at h5; exact h5) (cont_got hfolJ); by_cases hj0 : j = 0
   ·subst hj0
    have h2' : Fits (exP ((1 : Nat) : Int) x).2 l1 := by
     have e2 : leftL m = ((1 : Nat) : Int) := by unfold leftL; rw [hj]; rfl
     rw [e2] at h2; exact h2
    obtain ⟨hF0, rfl⟩ := hc.fin (.inl rfl); have hx1 : Rd (.bound 1) (l1 ++ (t1 :: (l3 ++ r))) (.got x (t1 :: (l3 ++ r))) := hxb 1 l1 _ _ (by decide) h2' (cont_got (folE_op h4 h0 h1 (by rw [hj]; decide) _)); exact rd_bound (by decide) hx1 (rd_op0 hkk hop hy2)
   ·have h2' : Fits (exP (j : Int) x).2 l1 := by
     have e2 : leftL m = (j : Int) := by unfold leftL; rw [if_neg (by omega)]; exact hj
     rw [e2] at h2; exact h2
    refine hxb j l1 _ o (by omega) h2' ⟨folE_op h4 h0 h1 (by rw [hj]; omega) _, fun _ => ?_, fun h => by omega⟩
    exact rd_op hj0 hkk hop hy2 (hc.mid (by omega))
  obtain ⟨j, hj, hj2⟩ : ∃ j : Nat, (signF m).2 = (j : Int) ∧ j ≤ 2 := by
   rcases hlev with h | h | h
   ·exact ⟨0, h, by decide⟩
   ·exact ⟨1, h, by decide⟩
   ·exact ⟨2, h, by decide⟩
  split at hfit
  ·obtain ⟨t1, q, rfl, h3, h4⟩ := Fits.cons hfit
   obtain ⟨l3, l4, rfl, h5, h6⟩ := Fits.app h4; obtain ⟨t2, q, rfl, h7, h8⟩ := Fits.cons h6; obtain rfl := Fits.nil h8; have e : (t1 :: (l3 ++ [t2])) ++ r = t1 :: (l3 ++ t2 :: r) := by simp
   rw [e]; refine lift_atom (fun hF => ?_) hk3 hc
   have hin : Rd .expr (l3 ++ t2 :: r) (.got (.mk 19 noText m [x, y]) (t2 :: r)) :=
    rd_expr (lift (by omega) (fun o hc => inner j l3 (t2 :: r) o hj h5 hc) j 0 _ (by omega) (cont_got (folE_close h7 (.inl rfl) r)))
   refine rd1 (asked_back h3 h7 hin) fun n a => ?_
   rw [prs, is_no h3, is_no h3, is_yes h3, if_neg (by decide), if_neg (by decide), if_pos rfl, a]
  ·exact lift (by omega) (fun o hc => inner j ts r o hj hfit hc) (j - k) k o (by omega) hc
 | @neg x hx =>
  rw [w_neg] at hfit; obtain ⟨t1, q, rfl, h3, h4⟩ := Fits.cons hfit; refine lift_atom (fun hF => ?_) hk3 hc
  have hb := bk x (by simp) hx; have h5 : Rd (.bound 3) (q ++ r) (.got x r) := hb 3 q r _ (by decide) h4 (cont_got hF)
  have h6 : Rd .unary (q ++ r) (.got x r) := by
   obtain ⟨n, hn⟩ := h5; refine ⟨n, fun p hp => ?_⟩
   have := hn (p + 1) (by omega); rw [prs, if_pos (by decide)] at this; exact this
  refine rd1 h6 fun n a => ?_
  rw [List.cons_append, prs, is_yes h3, if_pos rfl]; show (prs n .unary (q ++ r)).bind _ = _
  rw [a]; rfl
 | @not_ x hx =>
  rw [w_not] at hfit; obtain ⟨t1, q, rfl, h3, h4⟩ := Fits.cons hfit; refine lift_atom (fun hF => ?_) hk3 hc
  have hb := bk x (by simp) hx; have h5 : Rd (.bound 3) (q ++ r) (.got x r) := hb 3 q r _ (by decide) h4 (cont_got hF)
  have h6 : Rd .unary (q ++ r) (.got x r) := by
   obtain ⟨n, hn⟩ := h5; refine ⟨n, fun p hp => ?_⟩
   have := hn (p + 1) (by omega); rw [prs, if_pos (by decide)] at this; exact this
  refine rd1 h6 fun n a => ?_
  rw [List.cons_append, prs, is_no h3, is_yes h3, if_neg (by decide), if_pos rfl]; show (prs n .unary (q ++ r)).bind _ = _
  rw [a]; rfl
 | _ => exact absurd hke (by simp)
end prt
end Go.Proofs.YtpcihajmcejliacGreatDoor
