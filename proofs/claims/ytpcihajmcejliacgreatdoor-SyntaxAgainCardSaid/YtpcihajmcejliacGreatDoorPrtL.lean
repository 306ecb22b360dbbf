/- The printed words of statements, declarations and a module are read as them. The printed words of declarations and of a module are read as them; what is printed is read as what it was printed of. What is printed of a text that is read is no longer than its tokens. -/
import Derived.Test.YtpcihajmcejliacGreatDoorPrtA
namespace Go.Proofs.YtpcihajmcejliacGreatDoor
open Go.RowKit
namespace prt
open synw
theorem w_loc {t : ByteArray} {m : Int} {x : Nd} (ht : NameT t) (h0 : 0 ≤ m) (h1 : m ≤ 1) (hx : (exP 0 x).1 = true) : (stP (.mk 7 t m [x])).2 = labW (decide (m = 1)) :: t :: sEq :: ((exP 0 x).2 ++ [sSemi]) := by
 simp only [stP, stK, finS]; rw [must_then2 (named_iff.2 ⟨ht, h0, h1, by simp, .inr (by simp)⟩)]; simp [PO.then, sayP, kidP, hx]
theorem w_set {p x : Nd} (hp : KdP p.kd) (h1 : (exP 0 p).1 = true) (hx : (exP 0 x).1 = true) : (stP (.mk 8 noText 0 [p, x])).2 = (exP 0 p).2 ++ sEq :: ((exP 0 x).2 ++ [sSemi]) := by
 unfold KdP at hp; simp only [stP, stK, finS]; simp [PO.then, sayP, mustP, kidP, hx, h1, plainB, kidsB, kd0, hp]
theorem w_do {c : Nd} (hc : c.kd = 18) (h1 : (exP 0 c).1 = true) : (stP (.mk 9 noText 0 [c])).2 = sDo :: ((exP 0 c).2 ++ [sSemi]) := by
 simp only [stP, stK, finS]; simp [PO.then, sayP, mustP, kidP, h1, plainB, kidsB, kd0, hc]
theorem w_if2 {x b : Nd} (hx : (exP 0 x).1 = true) (hb : (blP b).1 = true) : (stP (.mk 10 noText 0 [x, b])).2 = sIf :: sOpen :: ((exP 0 x).2 ++ sClose :: (blP b).2) := by
 simp only [stP, stK, finS]; simp only [true_or, if_true, List.length_cons, List.length_nil]; rw [must_then2 (plain_iff.2 ⟨rfl, by decide, by decide, by simp, .inr (by simp)⟩)]; simp [PO.then, sayP, kidP, hx, hb]
theorem w_if3 {x b c : Nd} (hx : (exP 0 x).1 = true) (hb : (blP b).1 = true) (hc : (blP c).1 = true) : (stP (.mk 10 noText 0 [x, b, c])).2 = sIf :: sOpen :: ((exP 0 x).2 ++ sClose :: ((blP b).2 ++ sElse :: (blP c).2)) := by
 simp only [stP, stK, finS]; simp only [true_or, if_true, List.length_cons, List.length_nil]; rw [must_then2 (plain_iff.2 ⟨rfl, by decide, by decide, by simp, .inr (by simp)⟩)]; simp [PO.then, sayP, kidP, hx, hb, hc]
theorem w_while {x b : Nd} (hx : (exP 0 x).1 = true) (hb : (blP b).1 = true) : (stP (.mk 11 noText 0 [x, b])).2 = sWhile :: sOpen :: ((exP 0 x).2 ++ sClose :: (blP b).2) := by
 simp only [stP, stK, finS]; simp only [or_true, if_true, List.length_cons, List.length_nil]; rw [must_then2 (plain_iff.2 ⟨rfl, by decide, by decide, by simp, .inr (by simp)⟩)]; simp [PO.then, sayP, kidP, hx, hb]
theorem w_out {m : Int} {x : Nd} (h0 : 0 ≤ m) (h1 : m ≤ 1) (hx : (exP 0 x).1 = true) : (stP (.mk 12 noText m [x])).2 = sOut :: labW (decide (m = 1)) :: ((exP 0 x).2 ++ [sSemi]) := by
 simp only [stP, stK, finS]; simp only [true_or, if_true, List.length_cons, List.length_nil]; simp [PO.then, sayP, mustP, kidP, hx, plainB, kidsB, h0, h1]
theorem w_inp {m : Int} {x : Nd} (h0 : 0 ≤ m) (h1 : m ≤ 1) (hp : KdP x.kd) (hx : (exP 0 x).1 = true) : (stP (.mk 13 noText m [x])).2 = sIn :: labW (decide (m = 1)) :: ((exP 0 x).2 ++ [sSemi]) := by
 unfold KdP at hp; simp only [stP, stK, finS]; simp only [or_true, if_true, List.length_cons, List.length_nil]; simp [PO.then, sayP, mustP, kidP, hx, plainB, kidsB, h0, h1, kd0, hp]
theorem w_ret {x : Nd} (hx : (exP 0 x).1 = true) : (stP (.mk 14 noText 0 [x])).2 = sReturn :: ((exP 0 x).2 ++ [sSemi]) := by
 simp [stP, stK, finS, PO.then, sayP, mustP, kidP, hx, plainB, kidsB]
def stsW : List Nd → List ByteArray
 | [] => []
 | x :: r => (stP x).2 ++ stsW r
theorem seq_words : ∀ (l : List Nd), (∀ y ∈ l, (stP y).1 = true) → (seqP (stL l)).2 = stsW l ∧ (seqP (stL l)).1 = true := by
 intro l; induction l with
 | nil => intro _; exact ⟨rfl, rfl⟩
 | cons x r ih =>
  intro h; obtain ⟨i1, i2⟩ := ih fun y hy => h y (by simp [hy])
  have hx := h x (by simp); rw [stL, seqP, then_snd hx, then_ok1, i1, i2]; exact ⟨rfl, hx, rfl⟩
theorem w_block {l : List Nd} (h : ∀ y ∈ l, (stP y).1 = true) : (blP (.mk 6 noText 0 l)).2 = sCurl :: (stsW l ++ [sLruc]) := by
 obtain ⟨h1, h2⟩ := seq_words l h; rw [blP, finB, must_then2 (by decide), must_then2 (plain_iff.2 ⟨rfl, by decide, by decide, by omega, .inl (by decide)⟩), say_then2, then_snd h2, h1]; rfl
theorem lab_back {b : Bool} {t : Tk} {r : List Tk} (h : Is t (labW b)) : pLabel (t :: r) = .got (if b = true then 1 else 0) r := by
 unfold pLabel; cases b with
 | true => rw [if_pos (is_yes (w := sHigh) h)]; rfl
 | false =>
  have h2 : Is t sLow := h; rw [if_neg (by rw [is_no h2]; decide), need_yes h2]; rfl
theorem lab_num {m : Int} (h0 : 0 ≤ m) (h1 : m ≤ 1) : (if decide (m = 1) = true then (1 : Int) else 0) = m := by
 rcases (show m = 0 ∨ m = 1 by omega) with rfl | rfl <;> rfl
theorem semi_back {x : Nd} {t : Tk} {r : List Tk} (h : Is t sSemi) : semi x (t :: r) = .got x r := by
 unfold semi; rw [need_yes h]; rfl
theorem is_two {t : Tk} {r : List Tk} {w a b : ByteArray} (h : Is t w) (h1 : w ≠ a) (h2 : w ≠ b) : isB (t :: r) [a, b] = false := by
 obtain ⟨h3, h4⟩ := h; simp [isB, h3, h1, h2]
theorem place_back {p : Nd} (hr : Rng p) (hX : IsNd p) (hp : KdP p.kd) {l r : List Tk} (h : Fits (exP 0 p).2 l) (hF : FolE 0 r) : ∃ t r1 w q, pWhole (l ++ r) = .got t r1 ∧ Rd (.place t) r1 (.got p r) ∧ (∃ t1, l = t1 :: q ∧ Is t1 w ∧ NameT w) := by
 obtain ⟨kd, t, m, ks⟩ := p; have hk := hr.kids; have hkid := hX.kids; have hf := hX.form; unfold KdP Nd.kd at hp; cases hf with
 | name ht =>
  rw [w_name _ ht] at h; obtain ⟨w, ws, e, hw⟩ := whole_head ht; have h2 := h; rw [e] at h2; obtain ⟨t1, q, rfl, h3, -⟩ := Fits.cons h2; exact ⟨t, r, w, q, whole_yes ht h hF.dot, place_name hF.bra, t1, rfl, h3, hw⟩
 | @item _ x ht hx =>
  have hok := (ex_form x 0 (hk x (by simp))).2 ⟨hkid x (by simp), hx⟩; rw [w_item _ ht hok] at h; obtain ⟨l1, l2, rfl, h1, h2⟩ := Fits.app h; obtain ⟨t1, q, rfl, h3, h4⟩ := Fits.cons h2; obtain ⟨l3, l4, rfl, h5, h6⟩ := Fits.app h4; obtain ⟨t2, q, rfl, h7, h8⟩ := Fits.cons h6; obtain rfl := Fits.nil h8; obtain ⟨w, ws, e, hw⟩ := whole_head ht; have h9 := h1; rw [e] at h9; obtain ⟨t5, q5, rfl, h10, -⟩ := Fits.cons h9; have e2 : ((t5 :: q5) ++ t1 :: (l3 ++ [t2])) ++ r = (t5 :: q5) ++ (t1 :: (l3 ++ t2 :: r)) := by simp
  refine ⟨t, t1 :: (l3 ++ t2 :: r), w, q5 ++ t1 :: (l3 ++ [t2]), ?_, place_item h3 h7 ((ex_back x (hk x (by simp)) (hkid x (by simp)) hx).all h5 (folE_close h7 (.inr (.inl rfl)) r)), t5, rfl, h10, hw⟩
  rw [e2]; exact whole_yes ht h1 (is_no h3)
 | _ => exact absurd hp (by simp)
theorem do_back {c : Nd} (hr : Rng c) (hX : IsNd c) (hp : c.kd = 18) {l r : List Tk} (h : Fits (exP 0 c).2 l) : ∃ t r1, pWhole (l ++ r) = .got t r1 ∧ Rd (.call t) r1 (.got c r) := by
 obtain ⟨kd, t, m, ks⟩ := c; have hk := hr.kids; have hkid := hX.kids; have hf := hX.form; have h18 : kd = 18 := hp; subst h18; cases hf with
 | call ht hl =>
  have ok : ∀ y ∈ ks, (exP 0 y).1 = true := fun y hy => (ex_form y 0 (hk y hy)).2 ⟨hkid y hy, hl y hy⟩
  rw [w_call _ ht ok] at h; obtain ⟨l1, l2, rfl, h1, h2⟩ := Fits.app h; obtain ⟨t1, q, rfl, h3, h4⟩ := Fits.cons h2; obtain ⟨l3, l4, rfl, h5, h6⟩ := Fits.app h4; obtain ⟨t2, q, rfl, h7, h8⟩ := Fits.cons h6; obtain rfl := Fits.nil h8; have e2 : (l1 ++ t1 :: (l3 ++ [t2])) ++ r = l1 ++ (t1 :: (l3 ++ t2 :: r)) := by simp
  refine ⟨t, t1 :: (l3 ++ t2 :: r), ?_, call_back (fun z hz => ⟨ex_back z (hk z hz) (hkid z hz) (hl z hz), ok z hz, ex_head z 0 (hk z hz) (hkid z hz) (hl z hz)⟩) h3 h7 h5⟩
  rw [e2]; exact whole_yes ht h1 (is_no h3)
def HeadS (w : ByteArray) : Prop := nameB w.data.toList = true ∨ w = sHigh ∨ w = sLow ∨ w = sDo ∨ w = sIf ∨ w = sWhile ∨ w = sOut ∨ w = sIn ∨ w = sReturn
theorem HeadS.ne {w : ByteArray} (h : HeadS w) : w ≠ sLruc ∧ w ≠ sElse := by
 rcases h with h | rfl | rfl | rfl | rfl | rfl | rfl | rfl | rfl
 ·exact ⟨name_ne h, name_ne h⟩
 all_goals decide
theorem head_lab (b : Bool) : HeadS (labW b) := by
 cases b
 ·exact .inr (.inr (.inl rfl))
 ·exact .inr (.inl rfl)
theorem place_head {p : Nd} (hr : Rng p) (hX : IsNd p) (hp : KdP p.kd) : ∃ w ws, (exP 0 p).2 = w :: ws ∧ NameT w := by
 obtain ⟨kd, t, m, ks⟩ := p; have hk := hr.kids; have hkid := hX.kids; have hf := hX.form; unfold KdP Nd.kd at hp; cases hf with
 | name ht =>
  obtain ⟨w, ws, e, hw⟩ := whole_head ht; exact ⟨w, ws, by rw [w_name _ ht, e], hw⟩
 | @item _ x ht hx =>
  have hok := (ex_form x 0 (hk x (by simp))).2 ⟨hkid x (by simp), hx⟩; obtain ⟨w, ws, e, hw⟩ := whole_head ht; exact ⟨w, _, by rw [w_item _ ht hok, e]; rfl, hw⟩
 | _ => exact absurd hp (by simp)
theorem st_head (x : Nd) (hr : Rng x) (hX : IsNd x) (hs : KdS x.kd) : ∃ w ws, (stP x).2 = w :: ws ∧ HeadS w := by
 obtain ⟨kd, t, m, l⟩ := x; have hk := hr.kids; have hkid := hX.kids; have hf := hX.form; unfold KdS Nd.kd at hs; have exo : ∀ y ∈ l, KdE y.kd → (exP 0 y).1 = true := fun y hy h => (ex_form y 0 (hk y hy)).2 ⟨hkid y hy, h⟩
 have blo : ∀ y ∈ l, y.kd = 6 → (blP y).1 = true := fun y hy h => (st_form y (hk y hy)).2.2 ⟨hkid y hy, h⟩
 cases hf with
 | @loc _ _ x ht h0 h1 hx => exact ⟨_, _, w_loc ht h0 h1 (exo x (by simp) hx), head_lab _⟩
 | @set p x hp hx =>
  obtain ⟨w, ws, e, hw⟩ := place_head (hk p (by simp)) (hkid p (by simp)) hp; exact ⟨w, _, by rw [w_set hp (exo p (by simp) (ndis.kp_ke hp)) (exo x (by simp) hx), e]; rfl, .inl hw⟩
 | @do_ c hc => exact ⟨_, _, w_do hc (exo c (by simp) (by rw [hc]; exact ⟨by decide, by decide⟩)), .inr (.inr (.inr (.inl rfl)))⟩
 | @if2 x b hx hb => exact ⟨_, _, w_if2 (exo x (by simp) hx) (blo b (by simp) hb), .inr (.inr (.inr (.inr (.inl rfl))))⟩
 | @if3 x b c hx hb hc => exact ⟨_, _, w_if3 (exo x (by simp) hx) (blo b (by simp) hb) (blo c (by simp) hc), .inr (.inr (.inr (.inr (.inl rfl))))⟩
 | @while_ x b hx hb => exact ⟨_, _, w_while (exo x (by simp) hx) (blo b (by simp) hb), .inr (.inr (.inr (.inr (.inr (.inl rfl)))))⟩
 | @out _ x h0 h1 hx => exact ⟨_, _, w_out h0 h1 (exo x (by simp) hx), .inr (.inr (.inr (.inr (.inr (.inr (.inl rfl))))))⟩
 | @inp _ x h0 h1 hx => exact ⟨_, _, w_inp h0 h1 hx (exo x (by simp) (ndis.kp_ke hx)), .inr (.inr (.inr (.inr (.inr (.inr (.inr (.inl rfl)))))))⟩
 | @ret x hx => exact ⟨_, _, w_ret (exo x (by simp) hx), .inr (.inr (.inr (.inr (.inr (.inr (.inr (.inr rfl)))))))⟩
 | _ => exact absurd hs (by simp)
def BlB (x : Nd) : Prop := ∀ (l r : List Tk), Fits (blP x).2 l → Rd .block (l ++ r) (.got x r)
def StB (x : Nd) : Prop := ∀ (l r : List Tk), Fits (stP x).2 l → isB r [sElse] = false → Rd .stat (l ++ r) (.got x r)
theorem stats_back : ∀ (ys acc : List Nd) (l r : List Tk) (t : Tk), (∀ z ∈ ys, StB z ∧ ∃ w ws, (stP z).2 = w :: ws ∧ HeadS w) → Fits (stsW ys) l → Is t sLruc → Rd (.stats acc) (l ++ t :: r) (.got (.mk 6 noText 0 (acc ++ ys)) r) := by
 intro ys; induction ys with
 | nil =>
  intro acc l r t hz h ht; obtain rfl := Fits.nil h; refine rd0 fun m => ?_
  rw [List.nil_append, prs, is_yes ht, if_pos rfl, List.append_nil]; rfl
 | cons y ys ih =>
  intro acc l r t hz h ht; obtain ⟨hb, w, ws, e, hw⟩ := hz y (by simp); rw [stsW] at h; obtain ⟨l1, l2, rfl, h1, h2⟩ := Fits.app h; have hrec := ih (acc ++ [y]) l2 r t (fun u hu => hz u (by simp [hu])) h2 ht
  have hfol : isB (l2 ++ t :: r) [sElse] = false := by
   cases ys with
   | nil =>
    obtain rfl := Fits.nil h2; exact is_no ht
   | cons z zs =>
    obtain ⟨-, w2, ws2, e2, hw2⟩ := hz z (by simp); rw [stsW, e2] at h2; obtain ⟨t2, q2, rfl, h4, -⟩ := Fits.cons h2; exact is_no h4 hw2.ne.2
  have hy := hb l1 (l2 ++ t :: r) h1 hfol
  have hno : isB (l1 ++ (l2 ++ t :: r)) [sLruc] = false := by
   rw [e] at h1; obtain ⟨t2, q2, rfl, h4, -⟩ := Fits.cons h1; exact is_no h4 hw.ne.1
  refine rd2 hy hrec fun m a b => ?_
  rw [List.append_assoc, prs, hno, if_neg (by decide), a]; show prs m (.stats (acc ++ [y])) (l2 ++ t :: r) = _
  rw [b, List.append_assoc]; rfl
theorem st_back : ∀ (x : Nd), Rng x → IsNd x → (KdS x.kd → StB x) ∧ (x.kd = 6 → BlB x) := by
 refine nd_ind fun kd t m l ih hr hX => ?_
 have hk := hr.kids; have hkid := hX.kids; have hf := hX.form; have exo : ∀ y ∈ l, KdE y.kd → (exP 0 y).1 = true := fun y hy h => (ex_form y 0 (hk y hy)).2 ⟨hkid y hy, h⟩
 have blo : ∀ y ∈ l, y.kd = 6 → (blP y).1 = true := fun y hy h => (st_form y (hk y hy)).2.2 ⟨hkid y hy, h⟩
 have exb : ∀ y ∈ l, KdE y.kd → ExB y := fun y hy h => ex_back y (hk y hy) (hkid y hy) h
 have blb : ∀ y ∈ l, y.kd = 6 → BlB y := fun y hy h => (ih y hy (hk y hy) (hkid y hy)).2 h
 refine ⟨fun hs => ?_, fun h6 => ?_⟩
 ·unfold KdS Nd.kd at hs
  intro ts r hfit hel; cases hf with
  | @loc _ _ x ht h0 h1 hx =>
   rw [w_loc ht h0 h1 (exo x (by simp) hx)] at hfit; obtain ⟨t1, q, rfl, h2, h3⟩ := Fits.cons hfit; obtain ⟨t2, q, rfl, h4, h5⟩ := Fits.cons h3; obtain ⟨t3, q, rfl, h6, h7⟩ := Fits.cons h5; obtain ⟨l1, l2, rfl, h8, h9⟩ := Fits.app h7; obtain ⟨t4, q, rfl, h10, h11⟩ := Fits.cons h9; obtain rfl := Fits.nil h11; have hx2 := (exb x (by simp) hx).all h8 (folE_close h10 (.inr (.inr (.inr (.inl rfl)))) r); have e : (t1 :: t2 :: t3 :: (l1 ++ [t4])) ++ r = t1 :: t2 :: t3 :: (l1 ++ t4 :: r) := by simp
   have hlh : isB (t1 :: t2 :: t3 :: (l1 ++ t4 :: r)) [sLow, sHigh] = true := by
    obtain ⟨a1, a2⟩ := h2; cases hm : decide (m = 1) <;> rw [hm] at a1 a2
    ·have a1' : t1.text = sLow := a1
     have a2' : t1.kind ≠ 2 := by rw [a2]; decide
     simp [isB, a1', a2']
    ·have a1' : t1.text = sHigh := a1
     have a2' : t1.kind ≠ 2 := by rw [a2]; decide
     simp [isB, a1', a2']
   refine rd1 hx2 fun n a => ?_
   rw [e, prs, hlh, if_pos rfl, lab_back h2, lab_num h0 h1]; show (pName (t2 :: t3 :: (l1 ++ t4 :: r))).bind _ = _
   rw [name_yes h4 ht]; show (pNeed sEq (t3 :: (l1 ++ t4 :: r))).bind _ = _
   rw [need_yes h6]; show (prs n .expr (l1 ++ t4 :: r)).bind _ = _
   rw [a]; exact semi_back h10
  | @set p x hp hx =>
   rw [w_set hp (exo p (by simp) (ndis.kp_ke hp)) (exo x (by simp) hx)] at hfit; obtain ⟨l1, l2, rfl, h1, h2⟩ := Fits.app hfit; obtain ⟨t3, q, rfl, h6, h7⟩ := Fits.cons h2; obtain ⟨l3, l4, rfl, h8, h9⟩ := Fits.app h7; obtain ⟨t4, q, rfl, h10, h11⟩ := Fits.cons h9; obtain rfl := Fits.nil h11; have hx2 := (exb x (by simp) hx).all h8 (folE_close h10 (.inr (.inr (.inr (.inl rfl)))) r); have e : (l1 ++ t3 :: (l3 ++ [t4])) ++ r = l1 ++ (t3 :: (l3 ++ t4 :: r)) := by simp
   obtain ⟨s, r1, w, q, hp1, hp2, t1, rfl, hw1, hw⟩ := place_back (hk p (by simp)) (hkid p (by simp)) hp h1 (folE_close h6 (.inr (.inr (.inr (.inr rfl)))) (l3 ++ t4 :: r)); refine rd2 hp2 hx2 fun n a b => ?_
   rw [e, List.cons_append]; rw [List.cons_append] at hp1; rw [prs, is_two hw1 (name_ne hw) (name_ne hw), is_no hw1 (name_ne hw), is_no hw1 (name_ne hw), is_no hw1 (name_ne hw), is_no hw1 (name_ne hw), is_no hw1 (name_ne hw), is_no hw1 (name_ne hw)]; rw [if_neg (by decide), if_neg (by decide), if_neg (by decide), if_neg (by decide), if_neg (by decide), if_neg (by decide), if_neg (by decide), hp1]; show (prs n (.place s) r1).bind _ = _
   rw [a]; show (pNeed sEq (t3 :: (l3 ++ t4 :: r))).bind _ = _
   rw [need_yes h6]; show (prs n .expr (l3 ++ t4 :: r)).bind _ = _
   rw [b]; exact semi_back h10
  | @do_ c hc =>
   rw [w_do hc (exo c (by simp) (by rw [hc]; exact ⟨by decide, by decide⟩))] at hfit; obtain ⟨t1, q, rfl, h2, h3⟩ := Fits.cons hfit; obtain ⟨l1, l2, rfl, h8, h9⟩ := Fits.app h3; obtain ⟨t4, q, rfl, h10, h11⟩ := Fits.cons h9; obtain rfl := Fits.nil h11; have e : (t1 :: (l1 ++ [t4])) ++ r = t1 :: (l1 ++ t4 :: r) := by simp
   obtain ⟨s, r1, hp1, hp2⟩ := do_back (hk c (by simp)) (hkid c (by simp)) hc h8 (r := t4 :: r); refine rd1 hp2 fun n a => ?_
   rw [e, prs, is_two h2 (by decide) (by decide), is_yes h2, if_neg (by decide), if_pos rfl]; show (pWhole (l1 ++ t4 :: r)).bind _ = _
   rw [hp1]; show (prs n (.call s) r1).bind _ = _
   rw [a]; exact semi_back h10
  | @if2 x b hx hb =>
   rw [w_if2 (exo x (by simp) hx) (blo b (by simp) hb)] at hfit; obtain ⟨t1, q, rfl, h2, h3⟩ := Fits.cons hfit; obtain ⟨t2, q, rfl, h4, h5⟩ := Fits.cons h3; obtain ⟨l1, l2, rfl, h6, h7⟩ := Fits.app h5; obtain ⟨t3, q, rfl, h8, h9⟩ := Fits.cons h7; have e : (t1 :: t2 :: (l1 ++ t3 :: q)) ++ r = t1 :: t2 :: (l1 ++ t3 :: (q ++ r)) := by simp
   have hx2 := asked_back h4 h8 ((exb x (by simp) hx).all h6 (folE_close h8 (.inl rfl) (q ++ r))); have hb2 := blb b (by simp) hb q r h9; refine rd2 hx2 hb2 fun n a c => ?_
   rw [e, prs, is_two h2 (by decide) (by decide), is_no h2, is_yes h2, if_neg (by decide), if_neg (by decide), if_pos rfl]; show (prs n .asked (t2 :: (l1 ++ t3 :: (q ++ r)))).bind _ = _
   rw [a]; show (prs n .block (q ++ r)).bind _ = _
   rw [c]; show (if isB r [sElse] = true then _ else _) = _
   rw [hel, if_neg (by decide)]
  | @if3 x b c hx hb hc =>
   rw [w_if3 (exo x (by simp) hx) (blo b (by simp) hb) (blo c (by simp) hc)] at hfit; obtain ⟨t1, q, rfl, h2, h3⟩ := Fits.cons hfit; obtain ⟨t2, q, rfl, h4, h5⟩ := Fits.cons h3; obtain ⟨l1, l2, rfl, h6, h7⟩ := Fits.app h5; obtain ⟨t3, q, rfl, h8, h9⟩ := Fits.cons h7; obtain ⟨l3, l4, rfl, h10, h11⟩ := Fits.app h9; obtain ⟨t4, q, rfl, h12, h13⟩ := Fits.cons h11; have e : (t1 :: t2 :: (l1 ++ t3 :: (l3 ++ t4 :: q))) ++ r = t1 :: t2 :: (l1 ++ t3 :: (l3 ++ t4 :: (q ++ r))) := by simp
   have hx2 := asked_back h4 h8 ((exb x (by simp) hx).all h6 (folE_close h8 (.inl rfl) (l3 ++ t4 :: (q ++ r)))); have hb2 := blb b (by simp) hb l3 (t4 :: (q ++ r)) h10; have hc2 := blb c (by simp) hc q r h13; refine rd3 hx2 hb2 hc2 fun n a c d => ?_
   rw [e, prs, is_two h2 (by decide) (by decide), is_no h2, is_yes h2, if_neg (by decide), if_neg (by decide), if_pos rfl]; show (prs n .asked (t2 :: (l1 ++ t3 :: (l3 ++ t4 :: (q ++ r))))).bind _ = _
   rw [a]; show (prs n .block (l3 ++ t4 :: (q ++ r))).bind _ = _
   rw [c]; show (if isB (t4 :: (q ++ r)) [sElse] = true then (prs n .block (q ++ r)).bind _ else _) = _
   rw [is_yes h12, if_pos rfl, d]; rfl
  | @while_ x b hx hb =>
   rw [w_while (exo x (by simp) hx) (blo b (by simp) hb)] at hfit; obtain ⟨t1, q, rfl, h2, h3⟩ := Fits.cons hfit; obtain ⟨t2, q, rfl, h4, h5⟩ := Fits.cons h3; obtain ⟨l1, l2, rfl, h6, h7⟩ := Fits.app h5; obtain ⟨t3, q, rfl, h8, h9⟩ := Fits.cons h7; have e : (t1 :: t2 :: (l1 ++ t3 :: q)) ++ r = t1 :: t2 :: (l1 ++ t3 :: (q ++ r)) := by simp
   have hx2 := asked_back h4 h8 ((exb x (by simp) hx).all h6 (folE_close h8 (.inl rfl) (q ++ r))); have hb2 := blb b (by simp) hb q r h9; refine rd2 hx2 hb2 fun n a c => ?_
   rw [e, prs, is_two h2 (by decide) (by decide), is_no h2, is_no h2, is_yes h2, if_neg (by decide), if_neg (by decide), if_neg (by decide), if_pos rfl]; show (prs n .asked (t2 :: (l1 ++ t3 :: (q ++ r)))).bind _ = _
   rw [a]; show (prs n .block (q ++ r)).bind _ = _
   rw [c]; rfl
  | @out _ x h0 h1 hx =>
   rw [w_out h0 h1 (exo x (by simp) hx)] at hfit; obtain ⟨t1, q, rfl, h2, h3⟩ := Fits.cons hfit; obtain ⟨t2, q, rfl, h4, h5⟩ := Fits.cons h3; obtain ⟨l1, l2, rfl, h8, h9⟩ := Fits.app h5; obtain ⟨t4, q, rfl, h10, h11⟩ := Fits.cons h9; obtain rfl := Fits.nil h11; have hx2 := (exb x (by simp) hx).all h8 (folE_close h10 (.inr (.inr (.inr (.inl rfl)))) r); have e : (t1 :: t2 :: (l1 ++ [t4])) ++ r = t1 :: t2 :: (l1 ++ t4 :: r) := by simp
   refine rd1 hx2 fun n a => ?_
   rw [e, prs, is_two h2 (by decide) (by decide), is_no h2, is_no h2, is_no h2, is_yes h2, if_neg (by decide), if_neg (by decide), if_neg (by decide), if_neg (by decide), if_pos rfl]; show (pLabel (t2 :: (l1 ++ t4 :: r))).bind _ = _
   rw [lab_back h4, lab_num h0 h1]; show (prs n .expr (l1 ++ t4 :: r)).bind _ = _
   rw [a]; exact semi_back h10
  | @inp _ x h0 h1 hx =>
   rw [w_inp h0 h1 hx (exo x (by simp) (ndis.kp_ke hx))] at hfit; obtain ⟨t1, q, rfl, h2, h3⟩ := Fits.cons hfit; obtain ⟨t2, q, rfl, h4, h5⟩ := Fits.cons h3; obtain ⟨l1, l2, rfl, h8, h9⟩ := Fits.app h5; obtain ⟨t4, q, rfl, h10, h11⟩ := Fits.cons h9; obtain rfl := Fits.nil h11; have e : (t1 :: t2 :: (l1 ++ [t4])) ++ r = t1 :: t2 :: (l1 ++ t4 :: r) := by simp
   obtain ⟨s, r1, w, q, hp1, hp2, -⟩ := place_back (hk x (by simp)) (hkid x (by simp)) hx h8 (folE_close h10 (.inr (.inr (.inr (.inl rfl)))) r); refine rd1 hp2 fun n a => ?_
   rw [e, prs, is_two h2 (by decide) (by decide), is_no h2, is_no h2, is_no h2, is_no h2, is_yes h2, if_neg (by decide), if_neg (by decide), if_neg (by decide), if_neg (by decide), if_neg (by decide), if_pos rfl]; show (pLabel (t2 :: (l1 ++ t4 :: r))).bind _ = _
   rw [lab_back h4, lab_num h0 h1]; show (pWhole (l1 ++ t4 :: r)).bind _ = _
   rw [hp1]; show (prs n (.place s) r1).bind _ = _
   rw [a]; exact semi_back h10
  | @ret x hx =>
   rw [w_ret (exo x (by simp) hx)] at hfit; obtain ⟨t1, q, rfl, h2, h3⟩ := Fits.cons hfit; obtain ⟨l1, l2, rfl, h8, h9⟩ := Fits.app h3; obtain ⟨t4, q, rfl, h10, h11⟩ := Fits.cons h9; obtain rfl := Fits.nil h11; have hx2 := (exb x (by simp) hx).all h8 (folE_close h10 (.inr (.inr (.inr (.inl rfl)))) r); have e : (t1 :: (l1 ++ [t4])) ++ r = t1 :: (l1 ++ t4 :: r) := by simp
   refine rd1 hx2 fun n a => ?_
   rw [e, prs, is_two h2 (by decide) (by decide), is_no h2, is_no h2, is_no h2, is_no h2, is_no h2, is_yes h2, if_neg (by decide), if_neg (by decide), if_neg (by decide), if_neg (by decide), if_neg (by decide), if_neg (by decide), if_pos rfl]; show (prs n .expr (l1 ++ t4 :: r)).bind _ = _
   rw [a]; exact semi_back h10
  | _ => exact absurd hs (by simp)
 ·have hk6 : kd = 6 := h6
  subst hk6; intro ts r hfit; cases hf with
  | block hl =>
   have sto : ∀ y ∈ l, (stP y).1 = true := fun y hy => (st_form y (hk y hy)).1.2 ⟨hkid y hy, hl y hy⟩
   rw [w_block sto] at hfit; obtain ⟨t1, q, rfl, h2, h3⟩ := Fits.cons hfit; obtain ⟨l1, l2, rfl, h8, h9⟩ := Fits.app h3; obtain ⟨t4, q, rfl, h10, h11⟩ := Fits.cons h9; obtain rfl := Fits.nil h11; have e : (t1 :: (l1 ++ [t4])) ++ r = t1 :: (l1 ++ t4 :: r) := by simp
   have hs2 := stats_back l [] l1 r t4 (fun z hz => ⟨(ih z hz (hk z hz) (hkid z hz)).1 (hl z hz), st_head z (hk z hz) (hkid z hz) (hl z hz)⟩) h8 h10; refine rd1 hs2 fun n a => ?_
   rw [e, prs, need_yes h2]; exact a
end prt
end Go.Proofs.YtpcihajmcejliacGreatDoor
namespace Go.Proofs.YtpcihajmcejliacGreatDoor
open Go.RowKit
namespace prt
open synw
theorem w_var {t : ByteArray} {m : Int} (ht : NameT t) (h0 : 0 ≤ m) (h1 : m ≤ 3) : (varP (.mk 3 t m [])).2 = pubW m ++ labW (decide (m % 2 = 1)) :: t :: [sSemi] := by
 simp only [varP]; rw [must_then2 (named_iff.2 ⟨ht, h0, h1, by simp, .inr (by simp)⟩)]; simp [PO.then, sayP, seqP]
theorem w_arr {t : ByteArray} {m : Int} {y : Nd} (ht : NameT t) (h0 : 0 ≤ m) (h1 : m ≤ 3) (hy : y.kd = 15) (ho : (exP 0 y).1 = true) : (varP (.mk 3 t m [y])).2 = pubW m ++ labW (decide (m % 2 = 1)) :: t :: sBra :: ((exP 0 y).2 ++ sKet :: [sSemi]) := by
 simp only [varP]; rw [must_then2 (named_iff.2 ⟨ht, h0, h1, by simp, .inr (by simp)⟩)]; simp [PO.then, sayP, seqP, mustP, hy, ho]
def parsW : List Nd → Nat → List ByteArray
 | [], _ => []
 | x :: r, i => (if 0 < i then [sComma] else []) ++ labW (decide (x.nm = 1)) :: x.tx :: parsW r (i + 1)
theorem pars_words : ∀ (l : List Nd) (i : Nat), (∀ y ∈ l, y.kd = 5 ∧ namedB y.tx y.nm y.kids.length 0 0 1 = true) → (parsP l i).2 = parsW l i ∧ (parsP l i).1 = true := by
 intro l; induction l with
 | nil => intro i _; exact ⟨rfl, rfl⟩
 | cons x r ih =>
  intro i h; obtain ⟨i1, i2⟩ := ih (i + 1) fun y hy => h y (by simp [hy])
  obtain ⟨hk, hn⟩ := h x (by simp)
  have hp : (parP i x).1 = true ∧ (parP i x).2 = (if 0 < i then [sComma] else []) ++ labW (decide (x.nm = 1)) :: [x.tx] := by
   unfold parP; rw [must_then2 (by simpa using hk), must_then2 hn]; refine ⟨by simp only [then_ok1, say_ok1]; exact ⟨trivial, trivial, trivial⟩, ?_⟩
   rw [say_then2, say_then2]; rfl
  rw [parsP, then_snd hp.1, then_ok1, i1, i2, hp.2, parsW]; exact ⟨by simp, hp.1, rfl⟩
def givW (m : Int) : List ByteArray := if 4 ≤ m then [sGives, labW (decide (8 ≤ m))] else []
theorem w_proc {t : ByteArray} {m : Int} {ps : List Nd} {b : Nd} (ht : NameT t) (h0 : 0 ≤ m) (h1 : m ≤ 11) (hp : ∀ y ∈ ps, IsNd y ∧ y.kd = 5) : (procP (.mk 4 t m (ps ++ [b]))).2 = pubW m ++ sProc :: t :: sOpen :: (parsW ps 0 ++ sClose :: labW (decide (m % 2 = 1)) :: (givW m ++ (blP b).2)) := by
 obtain ⟨p1, p2⟩ := pars_words ps 0 fun y hy => (param_form y).2 (hp y hy)
 simp only [procP]; rw [must_then2 (named_iff.2 ⟨ht, h0, h1, by rw [List.length_append, List.length_singleton]; omega, .inl (by decide)⟩), List.dropLast_concat, List.getLastD_concat]
 have hg : (if 4 ≤ m then (sayP [sGives]).then (sayP [labW (decide (8 ≤ m))]) else sayP []) = (true, givW m) := by
  unfold givW; split
  ·rfl
  ·rfl
 rw [say_then2, say_then2, then_snd p2, say_then2, say_then2, hg, p1]; simp [PO.then]
theorem is_pub {m : Int} {t : Tk} {ts l : List Tk} (h : Fits (pubW m) l) (hn : t.text ≠ sPub) : ∃ l2, l ++ (t :: ts) = l2 ∧ (isB l2 [sPub] = decide (2 ≤ m % 4)) ∧ (if decide (2 ≤ m % 4) = true then l2.tail else l2) = t :: ts := by
 unfold pubW at h; refine ⟨_, rfl, ?_⟩
 split at h
 ·rename_i h2
  obtain ⟨t1, q, rfl, h3, h4⟩ := Fits.cons h; obtain rfl := Fits.nil h4; rw [List.singleton_append, is_yes h3]; exact ⟨by simpa using h2, by rw [if_pos (by simpa using h2)]; rfl⟩
 ·rename_i h2
  obtain rfl := Fits.nil h; have hno : isB (t :: ts) [sPub] = false := by simp [isB, hn]
  rw [List.nil_append, hno]; exact ⟨by simpa using h2, by rw [if_neg (by simpa using h2)]⟩
theorem is_txt {t : Tk} {w v : ByteArray} (h : Is t w) (hn : w ≠ v) : t.text ≠ v := by rw [h.1]; exact hn
theorem lab_ne (b : Bool) : labW b ≠ sPub ∧ labW b ≠ sProc := by cases b <;> decide
theorem lab_two (m : Int) : (if decide (m % 2 = 1) = true then (1 : Int) else 0) = m % 2 := by
 have : m % 2 = 0 ∨ m % 2 = 1 := by omega
 rcases this with h | h <;> rw [h] <;> rfl
theorem var_back (x : Nd) (hr : Rng x) (hX : IsNd x) (h3 : x.kd = 3) (l r : List Tk) (h : Fits (varP x).2 l) : Rd .decl (l ++ r) (.got x r) := by
 obtain ⟨kd, t, m, ks⟩ := x; have hk3 : kd = 3 := h3; subst hk3; have hk := hr.kids; have hkid := hX.kids; have hf := hX.form; cases hf with
 | var ht h0 h1 =>
  rw [w_var ht h0 h1] at h; obtain ⟨l1, l2, rfl, h4, h5⟩ := Fits.app h; obtain ⟨t1, q, rfl, h6, h7⟩ := Fits.cons h5; obtain ⟨t2, q, rfl, h8, h9⟩ := Fits.cons h7; obtain ⟨t3, q, rfl, h10, h11⟩ := Fits.cons h9; obtain rfl := Fits.nil h11; have e : (l1 ++ t1 :: t2 :: [t3]) ++ r = l1 ++ t1 :: (t2 :: t3 :: r) := by simp
  obtain ⟨L, hL, hp1, hp2⟩ := is_pub h4 (ts := t2 :: t3 :: r) (is_txt h6 (lab_ne _).1); rw [e, hL]; refine rd0 fun n => ?_
  rw [prs]; simp only [hp1, hp2]; rw [is_no h6 (lab_ne _).2, if_neg (by decide), lab_back h6, lab_two m]; show (pName (t2 :: t3 :: r)).bind _ = _
  rw [name_yes h8 ht]; show (if isB (t3 :: r) [sBra] = true then _ else _) = _
  rw [is_no h10, if_neg (by decide), semi_back h10]; congr 2
  by_cases h2 : 2 ≤ m % 4
  ·simp only [decide_eq_true_eq, h2, if_true]; omega
  ·simp only [decide_eq_true_eq, h2, if_false]; omega
 | @array _ _ y ht h0 h1 hy =>
  obtain ⟨kd, ty, my, ky⟩ := y; have hk15 : kd = 15 := hy; subst hk15; have hfy := (hkid (.mk 15 ty my ky) (by simp)).form; cases hfy with
  | num g0 g1 =>
   rw [w_arr ht h0 h1 hy ((ex_form _ 0 (hk _ (by simp))).2 ⟨hkid _ (by simp), by rw [hy]; exact ⟨by decide, by decide⟩⟩), w_num _ g0] at h; obtain ⟨l1, l2, rfl, h4, h5⟩ := Fits.app h; obtain ⟨t1, q, rfl, h6, h7⟩ := Fits.cons h5; obtain ⟨t2, q, rfl, h8, h9⟩ := Fits.cons h7; obtain ⟨t3, q, rfl, h10, h11⟩ := Fits.cons h9; rw [List.singleton_append] at h11; obtain ⟨t4, q, rfl, h12, h13⟩ := Fits.cons h11; obtain ⟨t5, q, rfl, h14, h15⟩ := Fits.cons h13; obtain ⟨t6, q, rfl, h16, h17⟩ := Fits.cons h15; obtain rfl := Fits.nil h17; have e : (l1 ++ t1 :: t2 :: t3 :: t4 :: t5 :: [t6]) ++ r = l1 ++ t1 :: (t2 :: t3 :: t4 :: t5 :: t6 :: r) := by simp
   obtain ⟨L, hL, hp1, hp2⟩ := is_pub h4 (ts := t2 :: t3 :: t4 :: t5 :: t6 :: r) (is_txt h6 (lab_ne _).1); rw [e, hL]; refine rd0 fun n => ?_
   rw [prs]; simp only [hp1, hp2]; rw [is_no h6 (lab_ne _).2, if_neg (by decide), lab_back h6, lab_two m]; show (pName (t2 :: t3 :: t4 :: t5 :: t6 :: r)).bind _ = _
   rw [name_yes h8 ht]; show (if isB (t3 :: t4 :: t5 :: t6 :: r) [sBra] = true then (pNumber (t4 :: t5 :: t6 :: r)).bind _ else _) = _
   rw [is_yes h10, if_pos rfl]
   have hnum : pNumber (t4 :: t5 :: t6 :: r) = .got (.mk 15 noText my []) (t5 :: t6 :: r) := by
    simp only [pNumber]; rw [if_pos (h12.2.trans (kind_dig g0 g1)), h12.1, val_dig g0 g1]
   rw [hnum]; show (pNeed sKet (t5 :: t6 :: r)).bind _ = _
   rw [need_yes h14]; show semi _ (t6 :: r) = _
   rw [semi_back h16]; congr 2
   by_cases h2 : 2 ≤ m % 4
   ·simp only [decide_eq_true_eq, h2, if_true]; omega
   ·simp only [decide_eq_true_eq, h2, if_false]; omega
def tailO (n : Nat) (s : ByteArray) (pub : Int) (acc : List Nd) (l : List Tk) : Out Nd := (pNeed sClose l).bind fun _ l => (pLabel l).bind fun b l =>
 if isB l [sGives] = true then (pLabel l.tail).bind fun g l => (prs n .block l).bind fun x l => .got (.mk 4 s (pub + b + (4 + 4 * g)) (acc ++ [x])) l
 else (prs n .block l).bind fun x l => .got (.mk 4 s (pub + b) (acc ++ [x])) l
theorem tail_back {n : Nat} {s : ByteArray} {m : Int} (h0 : 0 ≤ m) (h1 : m ≤ 11) {acc : List Nd} {b : Nd} {t1 t2 : Tk} {l1 l2 r : List Tk} (k1 : Is t1 sClose) (k2 : Is t2 (labW (decide (m % 2 = 1)))) (k3 : Fits (givW m) l1) (hg : isB (l2 ++ r) [sGives] = false) (hb : prs n .block (l2 ++ r) = .got b r) :
  tailO n s (if 2 ≤ m % 4 then 2 else 0) acc (t1 :: t2 :: (l1 ++ (l2 ++ r))) = .got (.mk 4 s m (acc ++ [b])) r := by
 unfold tailO; rw [need_yes k1]; show (pLabel (t2 :: (l1 ++ (l2 ++ r)))).bind _ = _
 rw [lab_back k2, lab_two m]; unfold givW at k3; split at k3
 ·rename_i h4
  obtain ⟨t3, q, rfl, h5, h6⟩ := Fits.cons k3; obtain ⟨t4, q, rfl, h7, h8⟩ := Fits.cons h6; obtain rfl := Fits.nil h8; show (if isB (t3 :: t4 :: (l2 ++ r)) [sGives] = true then (pLabel (t4 :: (l2 ++ r))).bind _ else _) = _
  rw [is_yes h5, if_pos rfl, lab_back h7]; show (prs n .block (l2 ++ r)).bind _ = _
  rw [hb]; show Out.got (Nd.mk 4 s _ (acc ++ [b])) r = _
  congr 2
  by_cases h8 : 8 ≤ m
  ·simp only [h8, decide_true, if_true]
   split <;> omega
  ·simp only [h8, decide_false, Bool.false_eq_true, if_false]
   split <;> omega
 ·rename_i h4
  obtain rfl := Fits.nil k3; show (if isB (l2 ++ r) [sGives] = true then _ else _) = _
  rw [hg, if_neg (by decide)]; show (prs n .block (l2 ++ r)).bind _ = _
  rw [hb]; show Out.got (Nd.mk 4 s _ (acc ++ [b])) r = _
  congr 2
  split <;> omega
theorem prs_params (n : Nat) (s : ByteArray) (pub : Int) (acc : List Nd) (l : List Tk) : prs (n + 1) (.params s pub acc) l =
  if isB l [sClose] = true ∧ acc.length = 0 then tailO n s pub acc l
  else (pLabel l).bind fun b l => (pName l).bind fun p l => if isB l [sComma] = true then prs n (.params s pub (acc ++ [.mk 5 p b []])) l.tail else tailO n s pub (acc ++ [.mk 5 p b []]) l := rfl
theorem params_back {s : ByteArray} {m : Int} (h0 : 0 ≤ m) (h1 : m ≤ 11) {b : Nd} {t1 t2 : Tk} {l1 l2 r : List Tk} (k1 : Is t1 sClose) (k2 : Is t2 (labW (decide (m % 2 = 1)))) (k3 : Fits (givW m) l1) (hg : isB (l2 ++ r) [sGives] = false) (hb : Rd .block (l2 ++ r) (.got b r)) :
  ∀ (ps acc : List Nd) (l : List Tk) (i : Nat), (∀ y ∈ ps, IsNd y ∧ y.kd = 5) → (i = 0 ↔ acc.length = 0) → (match ps with | [] => i = 0 | _ => True) → Fits (if 0 < i then (parsW ps i).tail else parsW ps i) l →
  Rd (.params s (if 2 ≤ m % 4 then 2 else 0) acc) (l ++ t1 :: t2 :: (l1 ++ (l2 ++ r))) (.got (.mk 4 s m (acc ++ (ps ++ [b]))) r) := by
 intro ps; induction ps with
 | nil =>
  intro acc l i _ hi h00 hl; have hi0 : i = 0 := h00; subst hi0; obtain rfl : l = [] := Fits.nil hl; refine rd1 hb fun n a => ?_
  rw [prs_params, List.nil_append, if_pos ⟨is_yes k1, hi.1 rfl⟩, tail_back h0 h1 k1 k2 k3 hg a]; rfl
 | cons y ps ih =>
  intro acc l i hp hi _ hl; obtain ⟨hY, h5⟩ := hp y (by simp); obtain ⟨kd, ty, my, ky⟩ := y; have hk5 : kd = 5 := h5; subst hk5; have hf := hY.form; cases hf with
  | param ht g0 g1 =>
   have hl2 : Fits (labW (decide (my = 1)) :: ty :: parsW ps (i + 1)) l := by
    by_cases hi1 : 0 < i
    ·rw [if_pos hi1, parsW, if_pos hi1] at hl; exact hl
    ·rw [if_neg hi1, parsW, if_neg hi1] at hl; exact hl
   obtain ⟨u1, q, rfl, h6, h7⟩ := Fits.cons hl2; obtain ⟨u2, q, rfl, h8, h9⟩ := Fits.cons h7
   have hno : ¬ (isB (u1 :: u2 :: (q ++ t1 :: t2 :: (l1 ++ (l2 ++ r)))) [sClose] = true ∧ acc.length = 0) := by
    rintro ⟨h, -⟩; rw [is_no h6 (by cases decide (my = 1) <;> decide)] at h; cases h
   cases ps with
   | nil =>
    obtain rfl : q = [] := Fits.nil h9; refine rd1 hb fun n a => ?_
    have e : (u1 :: u2 :: []) ++ t1 :: t2 :: (l1 ++ (l2 ++ r)) = u1 :: u2 :: ([] ++ t1 :: t2 :: (l1 ++ (l2 ++ r))) := rfl; rw [e, prs_params, if_neg hno, lab_back h6, lab_num g0 g1]; show (pName (u2 :: t1 :: t2 :: (l1 ++ (l2 ++ r)))).bind _ = _
    rw [name_yes h8 ht]; show (if isB (t1 :: t2 :: (l1 ++ (l2 ++ r))) [sComma] = true then _ else _) = _
    rw [is_no k1, if_neg (by decide), tail_back h0 h1 k1 k2 k3 hg a]; simp
   | cons z ps =>
    rw [parsW, if_pos (Nat.succ_pos i)] at h9; obtain ⟨u3, q, rfl, h10, h11⟩ := Fits.cons h9; have hrec := ih (acc ++ [.mk 5 ty my []]) q (i + 1) (fun w hw => hp w (by simp at hw ⊢; exact .inr hw)) ⟨fun h => absurd h (by omega), fun h => by simp at h⟩ trivial (by rw [if_pos (Nat.succ_pos i), parsW, if_pos (Nat.succ_pos i)]; exact h11); refine rd1 hrec fun n a => ?_
    have e : (u1 :: u2 :: u3 :: q) ++ t1 :: t2 :: (l1 ++ (l2 ++ r)) = u1 :: u2 :: ((u3 :: q) ++ t1 :: t2 :: (l1 ++ (l2 ++ r))) := rfl; rw [e, prs_params, if_neg hno, lab_back h6, lab_num g0 g1]; show (pName (u2 :: u3 :: (q ++ t1 :: t2 :: (l1 ++ (l2 ++ r))))).bind _ = _
    rw [name_yes h8 ht]; show (if isB (u3 :: (q ++ t1 :: t2 :: (l1 ++ (l2 ++ r)))) [sComma] = true then prs n (.params s _ (acc ++ [.mk 5 ty my []])) (q ++ t1 :: t2 :: (l1 ++ (l2 ++ r))) else _) = _
    rw [is_yes h10, if_pos rfl, a]; simp
theorem blk_head (b : Nd) (hr : Rng b) (hX : IsNd b) (h6 : b.kd = 6) : ∃ ws, (blP b).2 = sCurl :: ws := by
 obtain ⟨kd, t, m, l⟩ := b; have hk6 : kd = 6 := h6; subst hk6; have hf := hX.form; cases hf with
 | block hl => exact ⟨_, w_block fun y hy => (st_form y (hr.kids y hy)).1.2 ⟨hX.kids y hy, hl y hy⟩⟩
theorem proc_back (x : Nd) (hr : Rng x) (hX : IsNd x) (h4 : x.kd = 4) (l r : List Tk) (h : Fits (procP x).2 l) : Rd .decl (l ++ r) (.got x r) := by
 obtain ⟨kd, t, m, ks⟩ := x; have hk4 : kd = 4 := h4; subst hk4; have hk := hr.kids; have hkid := hX.kids; have hf := hX.form; cases hf with
 | @proc _ _ ps b ht h0 h1 hp hb =>
  have hps : ∀ y ∈ ps, IsNd y ∧ y.kd = 5 := fun y hy => ⟨hkid y (by simp [hy]), hp y hy⟩
  rw [w_proc ht h0 h1 hps] at h; obtain ⟨l1, l2, rfl, h4, h5⟩ := Fits.app h; obtain ⟨t1, q, rfl, h6, h7⟩ := Fits.cons h5; obtain ⟨t2, q, rfl, h8, h9⟩ := Fits.cons h7; obtain ⟨t3, q, rfl, h10, h11⟩ := Fits.cons h9; obtain ⟨l3, l4, rfl, h12, h13⟩ := Fits.app h11; obtain ⟨t4, q, rfl, h14, h15⟩ := Fits.cons h13; obtain ⟨t5, q, rfl, h16, h17⟩ := Fits.cons h15; obtain ⟨l5, l6, rfl, h18, h19⟩ := Fits.app h17; have hrb := hk b (by simp); have hXb := hkid b (by simp); have hbb : Rd .block (l6 ++ r) (.got b r) := (st_back b hrb hXb).2 hb l6 r h19
  have hgv : isB (l6 ++ r) [sGives] = false := by
   obtain ⟨ws, e⟩ := blk_head b hrb hXb hb; rw [e] at h19; obtain ⟨u, q, rfl, h20, -⟩ := Fits.cons h19; exact is_no h20
  have hpar := params_back (s := t) h0 h1 h14 h16 h18 hgv hbb ps [] l3 0 hps ⟨fun _ => rfl, fun _ => rfl⟩ (by cases ps <;> trivial) h12
  have hproc : Rd (.proc (if 2 ≤ m % 4 then 2 else 0)) (t2 :: t3 :: (l3 ++ t4 :: t5 :: (l5 ++ (l6 ++ r)))) (.got (.mk 4 t m (ps ++ [b])) r) :=
   rd1 hpar fun n a => by
    rw [prs, name_yes h8 ht]; show (pNeed sOpen (t3 :: (l3 ++ t4 :: t5 :: (l5 ++ (l6 ++ r))))).bind _ = _
    rw [need_yes h10]; exact a
  have e : (l1 ++ t1 :: t2 :: t3 :: (l3 ++ t4 :: t5 :: (l5 ++ l6))) ++ r = l1 ++ t1 :: (t2 :: t3 :: (l3 ++ t4 :: t5 :: (l5 ++ (l6 ++ r)))) := by simp
  obtain ⟨L, hL, hp1, hp2⟩ := is_pub h4 (ts := t2 :: t3 :: (l3 ++ t4 :: t5 :: (l5 ++ (l6 ++ r)))) (is_txt h6 (show sProc ≠ sPub by decide)); rw [e, hL]; refine rd1 hproc fun n a => ?_
  rw [prs]; simp only [hp1, hp2]; rw [is_yes h6, if_pos rfl]; have e2 : (if decide (2 ≤ m % 4) = true then (2 : Int) else 0) = if 2 ≤ m % 4 then 2 else 0 := by simp
  rw [e2]; exact a
def declW (x : Nd) : List ByteArray := if x.kd = 2 then [sImport, x.tx, sSemi] else if x.kd = 3 then (varP x).2 else (procP x).2
def declsW : List Nd → List ByteArray
 | [] => []
 | x :: r => declW x ++ declsW r
theorem decls_words : ∀ (l : List Nd) (d : Bool), (∀ y ∈ l, Rng y) → (declsP l d).1 = true → (declsP l d).2 = declsW l := by
 intro l; induction l with
 | nil => intro d _ _; rfl
 | cons x r ih =>
  intro d hr h; rw [declsP] at h ⊢; rw [then_ok1] at h; rw [then_snd h.1, ih _ (fun y hy => hr y (by simp [hy])) h.2, declsW]; congr 1
  have h1 := h.1; unfold declP at h1 ⊢; unfold declW; split
  ·rename_i h2
   rw [if_pos h2, then_ok1, then_ok1, must_ok1, must_ok1] at h1; rw [must_then2 h1.1, must_then2 h1.2.1]; rfl
  ·rename_i h2
   rw [if_neg h2] at h1; split
   ·rfl
   ·rename_i h3
    rw [if_neg h3, then_ok1, must_ok1] at h1; rw [must_then2 h1.1]
theorem decl_head (x : Nd) (hr : Rng x) (hX : IsNd x) (h : x.kd = 3 ∨ x.kd = 4) : ∃ w ws, declW x = w :: ws ∧ w ≠ sImport := by
 have hpub : ∀ (m : Int) (w : ByteArray) (ws : List ByteArray), w ≠ sImport → ∃ w2 ws2, pubW m ++ w :: ws = w2 :: ws2 ∧ w2 ≠ sImport := by
  intro m w ws hw; unfold pubW; split
  ·exact ⟨_, _, rfl, by decide⟩
  ·exact ⟨_, _, rfl, hw⟩
 have hlab : ∀ b, labW b ≠ sImport := by intro b; cases b <;> decide
 obtain ⟨kd, t, m, ks⟩ := x; have hkid := hX.kids; have hf := hX.form; unfold declW; rw [if_neg (by rcases h with h | h <;> omega)]; rcases h with h | h
 ·rw [if_pos h]
  have hk3 : kd = 3 := h; subst hk3; cases hf with
  | var ht h0 h1 => rw [w_var ht h0 h1]; exact hpub _ _ _ (hlab _)
  | @array _ _ y ht h0 h1 hy =>
   rw [w_arr ht h0 h1 hy ((ex_form _ 0 (hr.kids _ (by simp))).2 ⟨hkid _ (by simp), by rw [hy]; exact ⟨by decide, by decide⟩⟩)]; exact hpub _ _ _ (hlab _)
 ·rw [if_neg (by omega)]
  have hk4 : kd = 4 := h; subst hk4; cases hf with
  | @proc _ _ ps b ht h0 h1 hp hb =>
   rw [w_proc ht h0 h1 fun y hy => ⟨hkid y (by simp [hy]), hp y hy⟩]; exact hpub _ _ _ (by decide)
theorem decl_back (x : Nd) (hr : Rng x) (hX : IsNd x) (h : x.kd = 3 ∨ x.kd = 4) (l r : List Tk) (hf : Fits (declW x) l) : Rd .decl (l ++ r) (.got x r) := by
 unfold declW at hf; rw [if_neg (by rcases h with h | h <;> omega)] at hf; rcases h with h | h
 ·rw [if_pos h] at hf
  exact var_back x hr hX h l r hf
 ·rw [if_neg (by omega)] at hf
  exact proc_back x hr hX h l r hf
theorem decls_back {s : ByteArray} : ∀ (b acc : List Nd) (l : List Tk), (∀ y ∈ b, Rng y ∧ IsNd y ∧ (y.kd = 3 ∨ y.kd = 4)) → Fits (declsW b) l → Rd (.decls s acc) l (.got (.mk 1 s 0 (acc ++ b)) []) := by
 intro b; induction b with
 | nil =>
  intro acc l _ h; obtain rfl := Fits.nil h; exact rd0 fun n => by rw [prs, if_pos (show ([] : List Tk).length = 0 from rfl), List.append_nil]
 | cons x r ih =>
  intro acc l hb h; obtain ⟨h1, h2, h3⟩ := hb x (by simp); rw [declsW] at h; obtain ⟨l1, l2, rfl, h4, h5⟩ := Fits.app h; have hrec := ih (acc ++ [x]) l2 (fun y hy => hb y (by simp [hy])) h5; have hx := decl_back x h1 h2 h3 l1 l2 h4
  have hne : ¬ (l1 ++ l2).length = 0 := by
   obtain ⟨w, ws, e, -⟩ := decl_head x h1 h2 h3; rw [e] at h4; obtain ⟨u, q, rfl, -, -⟩ := Fits.cons h4; simp
  refine rd2 hx hrec fun n a c => ?_
  rw [prs, if_neg hne, a]; show prs n (.decls s (acc ++ [x])) l2 = _
  rw [c, List.append_assoc]; rfl
theorem imports_back {s : ByteArray} {b : List Nd} (hb : ∀ y ∈ b, Rng y ∧ IsNd y ∧ (y.kd = 3 ∨ y.kd = 4)) : ∀ (a acc : List Nd) (l : List Tk), (∀ y ∈ a, IsNd y ∧ y.kd = 2) → Fits (declsW (a ++ b)) l → Rd (.imports s acc) l (.got (.mk 1 s 0 (acc ++ (a ++ b))) []) := by
 intro a; induction a with
 | nil =>
  intro acc l _ h; rw [List.nil_append] at h ⊢; have hd := decls_back (s := s) b acc l hb h
  have hno : isB l [sImport] = false := by
   cases b with
   | nil =>
    obtain rfl := Fits.nil h; rfl
   | cons x r =>
    obtain ⟨h1, h2, h3⟩ := hb x (by simp); obtain ⟨w, ws, e, hw⟩ := decl_head x h1 h2 h3; rw [declsW, e] at h; obtain ⟨u, q, rfl, h4, -⟩ := Fits.cons h; exact is_no h4 hw
  refine rd1 hd fun n c => ?_
  rw [prs, hno, if_neg (by decide), c]
 | cons x r ih =>
  intro acc l ha h; obtain ⟨hX, h2⟩ := ha x (by simp); obtain ⟨kd, t, m, ks⟩ := x; have hk2 : kd = 2 := h2; subst hk2; have hf := hX.form; cases hf with
  | imp ht =>
   rw [List.cons_append, declsW] at h; unfold declW at h; rw [if_pos h2] at h; obtain ⟨t1, q, rfl, h4, h5⟩ := Fits.cons h; obtain ⟨t2, q, rfl, h6, h7⟩ := Fits.cons h5; obtain ⟨t3, q, rfl, h8, h9⟩ := Fits.cons h7; have hrec := ih (acc ++ [.mk 2 t 0 []]) q (fun y hy => ha y (by simp [hy])) h9; refine rd1 hrec fun n c => ?_
   rw [prs, is_yes h4, if_pos rfl]; show (pName (t2 :: t3 :: q)).bind _ = _
   rw [name_yes h6 ht]; show (pNeed sSemi (t3 :: q)).bind _ = _
   rw [need_yes h8]; show prs n (.imports s (acc ++ [.mk 2 t 0 []])) q = _
   rw [c]; simp
theorem mod_words (x : Nd) (hr : Rng x) (h : (modP x).1 = true) : (modP x).2 = sModule :: x.tx :: sSemi :: declsW x.kids := by
 obtain ⟨k, t, m, l⟩ := x; simp only [modP] at h ⊢; rw [then_ok1, then_ok1, then_ok1, must_ok1, must_ok1] at h; rw [must_then2 h.1, must_then2 h.2.1, say_then2, decls_words l false hr.kids h.2.2.2]; rfl
theorem mod_back (x : Nd) (hr : Rng x) (h : (modP x).1 = true) (l : List Tk) (hl : Fits (modP x).2 l) : Rd .module l (.got x []) := by
 obtain ⟨hX, h1⟩ := (mod_form x hr).1 h; rw [mod_words x hr h] at hl; obtain ⟨k, t, m, ks⟩ := x; have hk1 : k = 1 := h1; subst hk1; have hf := hX.form; cases hf with
 | @module _ a b ht ha hb =>
  obtain ⟨t1, q, rfl, h4, h5⟩ := Fits.cons hl; obtain ⟨t2, q, rfl, h6, h7⟩ := Fits.cons h5; obtain ⟨t3, q, rfl, h8, h9⟩ := Fits.cons h7; have hi := imports_back (s := t) (b := b) (fun y hy => ⟨hr.kids y (by simp [hy]), hX.kids y (by simp [hy]), hb y hy⟩) a [] q (fun y hy => ⟨hX.kids y (by simp [hy]), ha y hy⟩) h9; refine rd1 hi fun n c => ?_
  rw [prs, need_yes h4]; show (pName (t2 :: t3 :: q)).bind _ = _
  rw [name_yes h6 ht]; show (pNeed sSemi (t3 :: q)).bind _ = _
  rw [need_yes h8]; exact c
end prt
open prt synw in
theorem print_back (x : Nd) (hr : Rng x) (h : (printR x).2 = 0) : parseR (printR x).1 = (x, 0, 0) := by
 unfold printR at h ⊢; by_cases hw : (weighF 16 x 0).1 = false
 ·rw [if_pos hw] at h; exact absurd (show (1 : Int) = 0 from h) (by decide)
 ·rw [if_neg hw] at h ⊢
  by_cases hm : (modP x).1 = false
  ·rw [if_pos hm] at h; exact absurd (show (2 : Int) = 0 from h) (by decide)
  ·rw [if_neg hm] at h ⊢
   have hm1 : (modP x).1 = true := by simpa using hm
   have hw1 : (weighF 16 x 0).1 = true := by simpa using hw
   split at h
   ·exact absurd (show (1 : Int) = 0 from h) (by decide)
   ·rename_i hlen
    rw [if_neg hlen]; rw [join_words] at hlen ⊢
    have hg : ∀ w ∈ (modP x).2.map fun s => s.data.toList, GoodL w := by
     intro w hw2; obtain ⟨y, hy, rfl⟩ := List.mem_map.1 hw2; exact good_mod x hr y hy
    have hs := scan_joined _ hg (by omega); show parseR (⟨(wordsJ ((modP x).2.map fun s => s.data.toList)).toArray⟩ : ByteArray) = _
    obtain ⟨S, hS⟩ : ∃ S : ByteArray, (⟨(wordsJ ((modP x).2.map fun s => s.data.toList)).toArray⟩ : ByteArray) = S := ⟨_, rfl⟩; have hSl : S.data.toList = wordsJ ((modP x).2.map fun s => s.data.toList) := by rw [← hS]
    rw [hS]; have hfit := fits_placed S (modP x).2 0 (by rw [List.drop_zero]; exact hSl); have hrd := mod_back x hr hm1 _ hfit; unfold parseR; rw [hSl, hs]; simp only [if_true]; rw [hrd.at (synm.prs_in _ _ _ (by simp [tksOf, NT.rank]))]; simp only
    rw [if_pos hw1]; rfl
end Go.Proofs.YtpcihajmcejliacGreatDoor
namespace Go.Proofs.YtpcihajmcejliacGreatDoor
open Go.RowKit
def cw : List ByteArray → Nat
 | [] => 0
 | w :: r => w.size + 1 + cw r
def ct : List Tk → Nat
 | [] => 0
 | t :: r => t.text.size + 1 + ct r
namespace prt
open synw synm ofm ndis
theorem cw_app (a b : List ByteArray) : cw (a ++ b) = cw a + cw b := by
 induction a with
 | nil => simp [cw]
 | cons w r ih => simp only [List.cons_append, cw, ih]; omega
theorem rng_of_is : ∀ (x : Nd), IsNd x → Rng x := by
 refine nd_ind fun k t m l ih hX => ?_
 have hf := hX.form; refine .mk ?_ fun y hy => ih y hy (hX.kids y hy)
 cases hf <;> first | omega | decide
theorem ct_is {l : List Tk} {w : ByteArray} (h : isB l [w] = true) : ct l = w.size + 1 + ct l.tail := by
 cases l with
 | nil => cases h
 | cons t r =>
  simp only [isB, List.any_cons, List.any_nil, Bool.or_false, Bool.and_eq_true, decide_eq_true_eq] at h; simp only [ct, List.tail_cons, h.2]
theorem ct_need {l r : List Tk} {w : ByteArray} {u : Unit} (h : pNeed w l = .got u r) : ct l = w.size + 1 + ct r := by
 unfold pNeed at h; split at h
 ·rename_i hb
  injection h with _ h
  subst h; exact ct_is hb
 ·cases h
theorem ct_name {l r : List Tk} {s : ByteArray} (h : pName l = .got s r) : ct l = s.size + 1 + ct r := by
 cases l with
 | nil => cases h
 | cons t q =>
  simp only [pName] at h; split at h
  ·injection h with h1 h2
   subst h1 h2; rfl
  ·cases h
theorem ct_lab {l r : List Tk} {b : Int} (h : pLabel l = .got b r) : ct l = (labW (decide (b = 1))).size + 1 + ct r := by
 unfold pLabel at h; split at h
 ·rename_i hb
  injection h with h1 h2
  subst h1 h2; exact ct_is hb
 ·obtain ⟨_, _, h1, h⟩ := got_bind h
  injection h with h2 h3
  subst h2 h3; exact ct_need h1
theorem whole_cost {l r : List Tk} {s : ByteArray} (h : pWhole l = .got s r) (ho : ∀ t ∈ l, TkOk t) : cw (wholeW s) + ct r = ct l := by
 have hw := whole_is h ho; unfold pWhole at h; obtain ⟨a, l1, h1, h⟩ := got_bind h; have ha := name_is h1 ho; have c1 := ct_name h1; have h1o := name_sub h1 ho; split at h
 ·rename_i hb
  obtain ⟨b, l2, h2, h⟩ := got_bind h; have hbn := name_is h2 (tks_tail h1o); have c2 := ct_name h2; have c3 := ct_is hb; injection h with h3 h4
  subst h3 h4
  have e : cutB (a ++ (sDot ++ b)) = (a, b, true) := by
   have e2 : (a ++ (sDot ++ b)).data.toList = a.data.toList ++ 46 :: b.data.toList := by simp [sDot]
   unfold cutB; rw [e2, cut_join _ _ (name_dot ha)]
  unfold wholeW; rw [e]; simp only [if_true, cw]; have : sDot.size = 1 := rfl; omega
 ·injection h with h3 h4
  subst h3 h4
  have e : cutB a = (a, noText, false) := by
   unfold cutB; rw [cut_none _ (name_dot ha)]; rfl
  unfold wholeW; rw [e]; simp only [Bool.false_eq_true, if_false, cw]; omega
theorem dd_len : ∀ (u n : Nat), 1 ≤ n → u < 10 ^ n → (Lib.decDigits u).length ≤ n := by
 intro u; induction u using Nat.strongRecOn with
 | _ u ih =>
  intro n hn h; rw [Lib.decDigits]; split
  ·simpa using hn
  ·rename_i hu
   obtain ⟨k, rfl⟩ : ∃ k, n = k + 1 := ⟨n - 1, by omega⟩; rw [Nat.pow_succ] at h
   have hk : 1 ≤ k := by
    rcases Nat.eq_zero_or_pos k with rfl | hk
    ·simp at h; omega
    ·exact hk
   have := ih (u / 10) (by omega) k hk (by omega); rw [List.length_append, List.length_singleton]; omega
theorem num_cost {l r : List Tk} {x : Nd} (h : pNumber l = .got x r) (ho : ∀ t ∈ l, TkOk t) : ∃ m, x = .mk 15 noText m [] ∧ 0 ≤ m ∧ m < 9223372036854775808 ∧ (digW m).size + 1 + ct r ≤ ct l := by
 cases l with
 | nil => cases h
 | cons t q =>
  simp only [pNumber] at h; split at h
  ·rename_i hk
   injection h with h1 h2
   subst h1 h2; obtain ⟨d1, d2, d3⟩ := (ho t (by simp)).num hk; have hlen : 1 ≤ t.text.data.toList.length := List.length_pos_iff.2 d2; have hl := dd_len _ _ hlen (decFrom_lt _ d1); refine ⟨_, rfl, by unfold valOf; omega, by unfold valOf; omega, ?_⟩
   have e : (digW (valOf t.text)).size = (Lib.decDigits (decFrom 0 t.text.data.toList)).length := by
    unfold digW valOf Lib.itoa; rw [if_neg (by omega)]; exact List.size_toArray ..
   have e2 : t.text.data.toList.length = t.text.size := by rw [Array.length_toList]; rfl
   rw [e]; simp only [ct]; omega
  ·cases h
theorem ex_lev (x : Nd) (hX : IsNd x) (hke : KdE x.kd) : (∀ k, (exP k x).2 = (exP 0 x).2) ∨ ∃ (lev : Int) (inner : List ByteArray), 0 ≤ lev ∧ lev ≤ 2 ∧ ∀ k, (exP k x).2 = if lev < k then sOpen :: (inner ++ [sClose]) else inner := by
 have hr := rng_of_is x hX; obtain ⟨kd, t, m, l⟩ := x; have hk := hr.kids; have hkid := hX.kids; have hf := hX.form; unfold KdE Nd.kd at hke; have ok : ∀ y ∈ l, KdE y.kd → ∀ le, (exP le y).1 = true := fun y hy h le => (ex_form y le (hk y hy)).2 ⟨hkid y hy, h⟩
 cases hf with
 | num h0 h1 => exact .inl fun k => by rw [w_num _ h0, w_num _ h0]
 | name ht => exact .inl fun k => by rw [w_name _ ht, w_name _ ht]
 | @item _ x ht hx => exact .inl fun k => by rw [w_item _ ht (ok x (by simp) hx 0), w_item _ ht (ok x (by simp) hx 0)]
 | call ht hl => exact .inl fun k => by rw [w_call _ ht fun y hy => ok y hy (hl y hy) 0, w_call _ ht fun y hy => ok y hy (hl y hy) 0]
 | @op _ x y h0 h1 hx hy =>
  refine .inr ⟨(signF m).2, opW m x y, ?_, ?_, fun k => w_op k h0 h1 (ok x (by simp) hx _)⟩
  ·have := (sign_opOf h0 h1).2.2.2.2.2; omega
  ·have := (sign_opOf h0 h1).2.2.2.2.2; omega
 | neg hx => exact .inl fun k => by rw [w_neg, w_neg]
 | not_ hx => exact .inl fun k => by rw [w_not, w_not]
 | _ => exact absurd hke (by simp)
theorem cw_wrap (i : List ByteArray) : cw (sOpen :: (i ++ [sClose])) = cw i + 4 := by
 rw [cw, cw_app]; have h1 : sOpen.size = 1 := rfl; have h2 : sClose.size = 1 := rfl; simp only [cw]; omega
theorem ex_mono {x : Nd} (hX : IsNd x) (hke : KdE x.kd) {k j : Int} (h : k ≤ j) : cw (exP k x).2 ≤ cw (exP j x).2 := by
 rcases ex_lev x hX hke with e | ⟨lev, i, -, -, e⟩
 ·rw [e k, e j]; exact Nat.le_refl _
 ·rw [e k, e j]
  split
  ·rw [if_pos (by omega)]; exact Nat.le_refl _
  ·split
   ·rw [cw_wrap]; omega
   ·exact Nat.le_refl _
theorem ex_three {x : Nd} (hX : IsNd x) (hke : KdE x.kd) (k : Int) : cw (exP k x).2 ≤ cw (exP 3 x).2 := by
 rcases ex_lev x hX hke with e | ⟨lev, i, -, h2, e⟩
 ·rw [e k, e 3]; exact Nat.le_refl _
 ·rw [e k, e 3, if_pos (show lev < 3 by omega)]
  split
  ·exact Nat.le_refl _
  ·rw [cw_wrap]; omega
theorem ex_four {x : Nd} (hX : IsNd x) (hke : KdE x.kd) (k : Int) : cw (exP k x).2 ≤ cw (exP 0 x).2 + 4 := by
 rcases ex_lev x hX hke with e | ⟨lev, i, h1, -, e⟩
 ·rw [e k]; omega
 ·rw [e k, e 0, if_neg (show ¬ lev < 0 by omega)]
  split
  ·rw [cw_wrap]; exact Nat.le_refl _
  ·omega
theorem com_snoc : ∀ (l : List Nd) (x : Nd), (∀ y ∈ l, (exP 0 y).1 = true) → (exP 0 x).1 = true → ∀ f, cw (comP ((l ++ [x]).map (exP 0)) f).2 = cw (comP (l.map (exP 0)) f).2 + cw (exP 0 x).2 + (if l = [] ∧ f = true then 0 else 2) := by
 intro l; induction l with
 | nil =>
  intro x _ hx f; simp only [List.nil_append, List.map_cons, List.map_nil, comP]; rw [say_then2, then_snd hx]; have : sComma.size = 1 := rfl; cases f <;> simp [cw, sayP] <;> omega
 | cons y r ih =>
  intro x hl hx f; have hy := hl y (by simp); rw [List.cons_append, List.map_cons, List.map_cons, comP, comP, say_then2, say_then2, then_snd hy, then_snd hy, cw_app, cw_app, cw_app, cw_app, ih x (fun z hz => hl z (by simp [hz])) hx false]; rw [if_neg (show ¬ (r = [] ∧ false = true) by simp), if_neg (show ¬ (y :: r = [] ∧ f = true) by simp)]; omega
theorem sts_app (a b : List Nd) : stsW (a ++ b) = stsW a ++ stsW b := by
 induction a with
 | nil => rfl
 | cons x r ih => rw [List.cons_append, stsW, stsW, ih, List.append_assoc]
theorem decls_app (a b : List Nd) : declsW (a ++ b) = declsW a ++ declsW b := by
 induction a with
 | nil => rfl
 | cons x r ih => rw [List.cons_append, declsW, declsW, ih, List.append_assoc]
theorem pars_app (b : List Nd) : ∀ (a : List Nd) (i : Nat), parsW (a ++ b) i = parsW a i ++ parsW b (i + a.length) := by
 intro a; induction a with
 | nil => intro i; rfl
 | cons x r ih => intro i; rw [List.cons_append, parsW, parsW, ih, List.length_cons, show i + 1 + r.length = i + (r.length + 1) by omega]; simp
def cstN : NT → Nd → Nat
 | .expr, x => cw (exP 0 x).2
 | .bound k, x => cw (exP (k : Nat) x).2
 | .loop k _, x => cw (exP (k : Nat) x).2
 | .unary, x => cw (exP 3 x).2
 | .asked, x => cw (exP 0 x).2 + 4
 | .place _, x => cw (exP 0 x).2
 | .call _, x => cw (exP 0 x).2
 | .args _ _, x => cw (exP 0 x).2
 | .block, x => cw (blP x).2
 | .stats _, x => cw (blP x).2
 | .stat, x => cw (stP x).2
 | .decl, x => cw (declW x)
 | .proc _, x => cw (procP x).2
 | .params _ _ _, x => cw (procP x).2
 | .module, x => cw (modP x).2
 | .imports _ _, x => cw (modP x).2
 | .decls _ _, x => cw (modP x).2
def pubC (pub : Int) : Nat := if pub = 2 then 4 else 0
def preN : NT → Nat
 | .loop k y => cw (exP (if k = 0 then 1 else (k : Nat)) y).2
 | .place s => cw (wholeW s)
 | .call s => cw (wholeW s)
 | .args s acc => cw (wholeW s) + 2 + cw (comP (acc.map (exP 0)) true).2 + (if acc = [] then 0 else 2)
 | .stats acc => 2 + cw (stsW acc)
 | .proc pub => pubC pub + 5
 | .params s pub acc => pubC pub + 5 + (s.size + 1) + 2 + cw (parsW acc 0) + (if acc.length = 0 then 0 else 2)
 | .imports s acc => 7 + (s.size + 1) + 2 + cw (declsW acc)
 | .decls s acc => 7 + (s.size + 1) + 2 + cw (declsW acc)
 | _ => 0
theorem sz1 : sMinus.size = 1 ∧ sNot.size = 1 ∧ sOpen.size = 1 ∧ sClose.size = 1 ∧ sBra.size = 1 ∧ sKet.size = 1 ∧ sSemi.size = 1 ∧ sEq.size = 1 ∧ sComma.size = 1 ∧ sCurl.size = 1 ∧ sLruc.size = 1 := ⟨rfl, rfl, rfl, rfl, rfl, rfl, rfl, rfl, rfl, rfl, rfl⟩
theorem sz2 : sDo.size = 2 ∧ sIf.size = 2 ∧ sElse.size = 4 ∧ sWhile.size = 5 ∧ sOut.size = 3 ∧ sIn.size = 2 ∧ sReturn.size = 6 ∧ sModule.size = 6 ∧ sImport.size = 6 ∧ sPub.size = 3 ∧ sProc.size = 4 ∧ sGives.size = 5 := ⟨rfl, rfl, rfl, rfl, rfl, rfl, rfl, rfl, rfl, rfl, rfl, rfl⟩
theorem ct_semi {l r : List Tk} {x y : Nd} (h : semi x l = .got y r) : ct l = 2 + ct r := by
 unfold semi at h; obtain ⟨_, _, h1, h⟩ := got_bind h; injection h with _ h2
 subst h2; have := ct_need h1; have := sz1; omega
theorem op_cost {l : List Tk} {k : Nat} (h : kindOf l = 3 ∧ (opOf (textOf l)).2 = k) : ct l = (signF (opOf (textOf l)).1).1.size + 1 + ct l.tail ∧ (signF (opOf (textOf l)).1).2 = k := by
 cases l with
 | nil => exact absurd h.1 (by decide)
 | cons t r =>
  have h2 : (opOf t.text).2 = k := h.2; show t.text.size + 1 + ct r = (signF (opOf t.text).1).1.size + 1 + ct r ∧ (signF (opOf t.text).1).2 = k
  have e : (signF (opOf t.text).1).1 = t.text ∧ (signF (opOf t.text).1).2 = (opOf t.text).2 := by
   unfold opOf at h2 ⊢
   repeat' split
   all_goals first | (simp_all; done) | (subst_vars; decide) | skip
   all_goals (rename_i e; first | (rw [e]; decide) | (exfalso; omega))
  rw [e.1, e.2]; exact ⟨rfl, h2⟩
end prt
end Go.Proofs.YtpcihajmcejliacGreatDoor
