/- What is read costs no less than what is printed of it: by how it is read. The walk of Print. The walk of the law SyntaxAgain: what is read is printed, unless that is too long, and what is printed is printed as itself. -/
import Derived.Defers
import Derived.Test.YtpcihajmcejliacGreatDoorPrtL
import Derived.Test.YtpcihajmcejliacGreatDoorPrtF
namespace Go.Proofs.YtpcihajmcejliacGreatDoor
open Go.RowKit
namespace prt
open synw synm ofm ndis
theorem ex_ok {x : Nd} (hX : IsNd x) (hke : KdE x.kd) (k : Int) : (exP k x).1 = true := (ex_form x k (rng_of_is x hX)).2 ⟨hX, hke⟩
theorem st_ok {x : Nd} (hX : IsNd x) (hk : KdS x.kd) : (stP x).1 = true := (st_form x (rng_of_is x hX)).1.2 ⟨hX, hk⟩
theorem bl_ok {x : Nd} (hX : IsNd x) (hk : x.kd = 6) : (blP x).1 = true := (st_form x (rng_of_is x hX)).2.2 ⟨hX, hk⟩
theorem ex_atom {x : Nd} (hX : IsNd x) (h : x.kd = 16 ∨ x.kd = 17 ∨ x.kd = 18) (k : Int) : (exP k x).2 = (exP 0 x).2 := by
 obtain ⟨kd, t, m, l⟩ := x; have hkid := hX.kids; have hf := hX.form; unfold Nd.kd at h; cases hf with
 | name ht => rw [w_name _ ht, w_name _ ht]
 | @item _ x ht hx => rw [w_item _ ht (ex_ok (hkid x (by simp)) hx 0), w_item _ ht (ex_ok (hkid x (by simp)) hx 0)]
 | call ht hl => rw [w_call _ ht fun y hy => ex_ok (hkid y hy) (hl y hy) 0, w_call _ ht fun y hy => ex_ok (hkid y hy) (hl y hy) 0]
 | _ => exact absurd h (by simp)
theorem prs_cost (n : Nat) : ∀ (X : NT) (l : List Tk) (x : Nd) (r : List Tk), (∀ t ∈ l, TkOk t) → PreI X → prs n X l = .got x r → cstN X x + ct r ≤ preN X + ct l := by
 induction n with
 | zero => intro X l x r _ _ h; cases X <;> cases h
 | succ n ih =>
  intro X l x r ho hp h; have sub : ∀ {Y : NT} {l r : List Tk} {y : Nd}, (∀ t ∈ l, TkOk t) → prs n Y l = .got y r → ∀ t ∈ r, TkOk t := fun ho h => prs_sub n _ _ _ _ ho h
  have isn := prs_is n; have z1 := sz1; have z2 := sz2; cases X with
  | expr => simp only [prs] at h; exact ih (.bound 0) _ _ _ ho trivial h
  | bound k =>
   simp only [prs] at h; split at h
   ·have hx := isn .unary _ _ _ ho trivial h
    have c := ih .unary _ _ _ ho trivial h; have := ex_three hx.1 hx.2 (k : Nat); simp only [cstN, preN] at c ⊢; omega
   ·obtain ⟨y, l1, h1, h⟩ := got_bind h
    have hy := isn (.bound (k + 1)) _ _ _ ho trivial h1; have c1 := ih (.bound (k + 1)) _ _ _ ho trivial h1; have c2 := ih (.loop k y) _ _ _ (sub ho h1) hy h; have := ex_mono hy.1 hy.2 (show (if k = 0 then (1 : Int) else (k : Nat)) ≤ ((k + 1 : Nat) : Int) by split <;> omega); simp only [cstN, preN] at c1 c2 ⊢; omega
  | loop k y =>
   simp only [prs] at h; split at h
   ·rename_i hk
    obtain ⟨z, l1, h1, h⟩ := got_bind h; have hz := isn (.bound (k + 1)) _ _ _ (tks_tail ho) trivial h1; have c1 := ih (.bound (k + 1)) _ _ _ (tks_tail ho) trivial h1; have hop := op_is hk.2; obtain ⟨o1, o2⟩ := op_cost hk; have hnew : IsNd (.mk 19 noText (opOf (textOf l)).1 [y, z]) ∧ KdE (Nd.mk 19 noText (opOf (textOf l)).1 [y, z]).kd := ⟨.mk (.op hop.1 hop.2 hp.2 hz.2) (none2 hp.1 hz.1), by show KdE 19; unfold KdE; omega⟩
    have hlf : leftL (opOf (textOf l)).1 = if k = 0 then (1 : Int) else (k : Nat) := by
     unfold leftL; rw [o2]; by_cases h0 : k = 0
     ·subst h0; rfl
     ·rw [if_neg (by omega), if_neg h0]
    have hcost : cw (exP (k : Nat) (.mk 19 noText (opOf (textOf l)).1 [y, z])).2 = cw (exP (if k = 0 then (1 : Int) else (k : Nat)) y).2 + ((signF (opOf (textOf l)).1).1.size + 1) + cw (exP ((k + 1 : Nat) : Int) z).2 := by
     rw [w_op _ hop.1 hop.2 (ex_ok hp.1 hp.2 _), if_neg (by omega)]; unfold opW; rw [cw_app, cw, hlf, o2, show ((k + 1 : Nat) : Int) = (k : Int) + 1 by omega]; omega
    simp only [cstN, preN] at c1 ⊢; split at h
    ·rename_i h0
     injection h with h2 h3
     subst h2 h3; omega
    ·rename_i h0
     have c2 := ih (.loop k (.mk 19 noText (opOf (textOf l)).1 [y, z])) _ _ _ (sub (tks_tail ho) h1) hnew h; simp only [cstN, preN] at c2; rw [if_neg h0] at c2; omega
   ·injection h with h2 h3
    subst h2 h3; have := ex_mono hp.1 hp.2 (show ((k : Nat) : Int) ≤ (if k = 0 then (1 : Int) else (k : Nat)) by split <;> omega); simp only [cstN, preN]; omega
  | unary =>
   simp only [prs] at h; split at h
   ·rename_i hb
    have t1 := ct_is hb; obtain ⟨y, l1, h1, h⟩ := got_bind h; have c := ih .unary _ _ _ (tks_tail ho) trivial h1; injection h with h2 h3
    subst h2 h3; simp only [cstN, preN] at c ⊢; rw [w_neg, cw]; omega
   ·split at h
    ·rename_i hb
     have t1 := ct_is hb; obtain ⟨y, l1, h1, h⟩ := got_bind h; have c := ih .unary _ _ _ (tks_tail ho) trivial h1; injection h with h2 h3
     subst h2 h3; simp only [cstN, preN] at c ⊢; rw [w_not, cw]; omega
    ·split at h
     ·have hx := isn .asked _ _ _ ho trivial h
      have c := ih .asked _ _ _ ho trivial h; have := ex_four hx.1 hx.2 3; simp only [cstN, preN] at c ⊢; omega
     ·split at h
      ·obtain ⟨m, rfl, m0, m1, hc⟩ := num_cost h ho
       simp only [cstN, preN]; rw [w_num _ m0]; simp only [cw]; omega
      ·obtain ⟨s, l1, h1, h⟩ := got_bind h
       have hs := whole_is h1 ho; have ho1 := sub_suf (whole_suf h1) ho; have c1 := whole_cost h1 ho; split at h
       ·obtain ⟨h2, h3⟩ := isn (.call s) _ _ _ ho1 hs h
        have c2 := ih (.call s) _ _ _ ho1 hs h; have e := ex_atom h2 (.inr (.inr h3)) 3; simp only [cstN, preN] at c2 ⊢; rw [e]; omega
       ·obtain ⟨h2, h3⟩ := isn (.place s) _ _ _ ho1 hs h
        have c2 := ih (.place s) _ _ _ ho1 hs h; have e := ex_atom h2 (by rcases h3 with h3 | h3; exact .inl h3; exact .inr (.inl h3)) 3; simp only [cstN, preN] at c2 ⊢; rw [e]; omega
  | asked =>
   simp only [prs] at h; obtain ⟨_, l1, h1, h⟩ := got_bind h; obtain ⟨y, l2, h2, h⟩ := got_bind h; obtain ⟨_, l3, h3, h⟩ := got_bind h; injection h with h4 h5
   subst h4 h5; have c := ih .expr _ _ _ (need_sub h1 ho) trivial h2; have t1 := ct_need h1; have t2 := ct_need h3; simp only [cstN, preN] at c ⊢; omega
  | place s =>
   simp only [prs] at h; split at h
   ·rename_i hb
    have t1 := ct_is hb; obtain ⟨y, l1, h1, h⟩ := got_bind h; have hy := isn .expr _ _ _ (tks_tail ho) trivial h1; have c := ih .expr _ _ _ (tks_tail ho) trivial h1; obtain ⟨_, l2, h2, h⟩ := got_bind h; have t2 := ct_need h2; injection h with h4 h5
    subst h4 h5; simp only [cstN, preN] at c ⊢; rw [w_item _ hp (ex_ok hy.1 hy.2 0), cw_app, cw, cw_app]; simp only [cw]; omega
   ·injection h with h4 h5
    subst h4 h5; simp only [cstN, preN]; rw [w_name _ hp]; exact Nat.le_refl _
  | call s =>
   simp only [prs] at h; obtain ⟨_, l1, h1, h⟩ := got_bind h; have c := ih (.args s []) _ _ _ (need_sub h1 ho) ⟨hp, fun y hy => by cases hy⟩ h; have t1 := ct_need h1; simp only [cstN, preN, List.map_nil, comP, sayP, cw, if_true] at c ⊢; omega
  | args s acc =>
   obtain ⟨hs, ha⟩ := hp; have hao : ∀ y ∈ acc, (exP 0 y).1 = true := fun y hy => ex_ok (ha y hy).1 (ha y hy).2 0
   simp only [prs] at h; split at h
   ·rename_i hb
    obtain ⟨_, l1, h1, h⟩ := got_bind h; have t1 := ct_need h1; injection h with h4 h5
    subst h4 h5; simp only [cstN, preN]; rw [w_call _ hs hao, cw_app, cw, cw_app]; simp only [cw]; omega
   ·obtain ⟨y, l1, h1, h⟩ := got_bind h
    have hy := isn .expr _ _ _ ho trivial h1; have c := ih .expr _ _ _ ho trivial h1; have ho1 := sub ho h1; have hcs := com_snoc acc y hao (ex_ok hy.1 hy.2 0) true; have e2 : (if acc = [] ∧ true = true then 0 else 2) = if acc = [] then 0 else 2 := by simp
    rw [e2] at hcs; simp only [cstN, preN] at c ⊢; split at h
    ·rename_i hb
     have t1 := ct_is hb; have c2 := ih (.args s (acc ++ [y])) _ _ _ (tks_tail ho1) ⟨hs, snoc ha hy⟩ h; simp only [cstN, preN] at c2; rw [hcs, if_neg (show ¬ acc ++ [y] = [] by simp)] at c2; omega
    ·obtain ⟨_, l2, h2, h⟩ := got_bind h
     have t1 := ct_need h2; injection h with h4 h5
     subst h4 h5; have hao2 : ∀ z ∈ acc ++ [y], (exP 0 z).1 = true := snoc hao (ex_ok hy.1 hy.2 0); rw [w_call _ hs hao2, cw_app, cw, cw_app, hcs]; simp only [cw]; omega
  | block =>
   simp only [prs] at h; obtain ⟨_, l1, h1, h⟩ := got_bind h; have c := ih (.stats []) _ _ _ (need_sub h1 ho) (fun y hy => by cases hy) h; have t1 := ct_need h1; simp only [cstN, preN, stsW, cw] at c ⊢; omega
  | stats acc =>
   simp only [prs] at h; split at h
   ·rename_i hb
    have t1 := ct_is hb; injection h with h4 h5
    subst h4 h5; simp only [cstN, preN]; rw [w_block fun y hy => st_ok (hp y hy).1 (hp y hy).2, cw, cw_app]; simp only [cw]; omega
   ·obtain ⟨y, l1, h1, h⟩ := got_bind h
    have hy := isn .stat _ _ _ ho trivial h1; have c1 := ih .stat _ _ _ ho trivial h1; have c2 := ih (.stats (acc ++ [y])) _ _ _ (sub ho h1) (snoc hp hy) h; simp only [cstN, preN] at c1 c2 ⊢; rw [sts_app, cw_app, stsW, cw_app, stsW, cw] at c2; omega
  | stat =>
   simp only [prs] at h; split at h
   ·obtain ⟨b, l1, h1, h⟩ := got_bind h
    obtain ⟨s, l2, h2, h⟩ := got_bind h; obtain ⟨_, l3, h3, h⟩ := got_bind h; obtain ⟨y, l4, h4, h⟩ := got_bind h; have hb := lab_ok h1; have ho1 := lab_sub h1 ho; have ho2 := name_sub h2 ho1; have ho3 := need_sub h3 ho2; have hy := isn .expr _ _ _ ho3 trivial h4; have c := ih .expr _ _ _ ho3 trivial h4; have t1 := ct_lab h1; have t2 := ct_name h2; have t3 := ct_need h3; have t5 := ct_semi h; rw [semi_is h]; simp only [cstN, preN] at c ⊢; rw [w_loc (name_is h2 ho1) hb.1 hb.2 (ex_ok hy.1 hy.2 0), cw, cw, cw, cw_app]; simp only [cw]; omega
   ·split at h
    ·rename_i hb
     have t0 := ct_is hb; obtain ⟨s, l1, h1, h⟩ := got_bind h; obtain ⟨y, l2, h2, h⟩ := got_bind h; have hs1 := whole_is h1 (tks_tail ho); have hy := isn (.call s) _ _ _ (sub_suf (whole_suf h1) (tks_tail ho)) hs1 h2; have c := ih (.call s) _ _ _ (sub_suf (whole_suf h1) (tks_tail ho)) hs1 h2; have t1 := whole_cost h1 (tks_tail ho); have t5 := ct_semi h; rw [semi_is h]; simp only [cstN, preN] at c ⊢; rw [w_do hy.2 (ex_ok hy.1 (by rw [show y.kd = 18 from hy.2]; exact ⟨by decide, by decide⟩) 0), cw, cw_app]; simp only [cw]; omega
    ·split at h
     ·rename_i hb0
      have t0 := ct_is hb0; obtain ⟨y, l1, h1, h⟩ := got_bind h; have hy := isn .asked _ _ _ (tks_tail ho) trivial h1; have c1 := ih .asked _ _ _ (tks_tail ho) trivial h1; have ho1 := sub (tks_tail ho) h1; obtain ⟨b, l2, h2, h⟩ := got_bind h; have hb := isn .block _ _ _ ho1 trivial h2; have c2 := ih .block _ _ _ ho1 trivial h2; have ho2 := sub ho1 h2; simp only [cstN, preN] at c1 c2 ⊢; split at h
      ·rename_i hb3
       have t3 := ct_is hb3; obtain ⟨c, l3, h3, h⟩ := got_bind h; have hc := isn .block _ _ _ (tks_tail ho2) trivial h3; have c3 := ih .block _ _ _ (tks_tail ho2) trivial h3; injection h with h4 h5
       subst h4 h5; simp only [cstN, preN] at c3; rw [w_if3 (ex_ok hy.1 hy.2 0) (bl_ok hb.1 hb.2) (bl_ok hc.1 hc.2), cw, cw, cw_app, cw, cw_app, cw]; omega
      ·injection h with h4 h5
       subst h4 h5; rw [w_if2 (ex_ok hy.1 hy.2 0) (bl_ok hb.1 hb.2), cw, cw, cw_app, cw]; omega
     ·split at h
      ·rename_i hb0
       have t0 := ct_is hb0; obtain ⟨y, l1, h1, h⟩ := got_bind h; have hy := isn .asked _ _ _ (tks_tail ho) trivial h1; have c1 := ih .asked _ _ _ (tks_tail ho) trivial h1; have ho1 := sub (tks_tail ho) h1; obtain ⟨b, l2, h2, h⟩ := got_bind h; have hb := isn .block _ _ _ ho1 trivial h2; have c2 := ih .block _ _ _ ho1 trivial h2; injection h with h4 h5
       subst h4 h5; simp only [cstN, preN] at c1 c2 ⊢; rw [w_while (ex_ok hy.1 hy.2 0) (bl_ok hb.1 hb.2), cw, cw, cw_app, cw]; omega
      ·split at h
       ·rename_i hb0
        have t0 := ct_is hb0; obtain ⟨b, l1, h1, h⟩ := got_bind h; obtain ⟨y, l2, h2, h⟩ := got_bind h; have hb := lab_ok h1; have t1 := ct_lab h1; have ho1 := lab_sub h1 (tks_tail ho); have hy := isn .expr _ _ _ ho1 trivial h2; have c := ih .expr _ _ _ ho1 trivial h2; have t5 := ct_semi h; rw [semi_is h]; simp only [cstN, preN] at c ⊢; rw [w_out hb.1 hb.2 (ex_ok hy.1 hy.2 0), cw, cw, cw_app]; simp only [cw]; omega
       ·split at h
        ·rename_i hb0
         have t0 := ct_is hb0; obtain ⟨b, l1, h1, h⟩ := got_bind h; obtain ⟨s, l2, h2, h⟩ := got_bind h; obtain ⟨y, l3, h3, h⟩ := got_bind h; have hb := lab_ok h1; have t1 := ct_lab h1; have ho1 := lab_sub h1 (tks_tail ho); have t2 := whole_cost h2 ho1; have hy := isn (.place s) _ _ _ (sub_suf (whole_suf h2) ho1) (whole_is h2 ho1) h3; have c := ih (.place s) _ _ _ (sub_suf (whole_suf h2) ho1) (whole_is h2 ho1) h3; have t5 := ct_semi h; rw [semi_is h]; simp only [cstN, preN] at c ⊢; rw [w_inp hb.1 hb.2 hy.2 (ex_ok hy.1 (kp_ke hy.2) 0), cw, cw, cw_app]; simp only [cw]; omega
        ·split at h
         ·rename_i hb0
          have t0 := ct_is hb0; obtain ⟨y, l1, h1, h⟩ := got_bind h; have hy := isn .expr _ _ _ (tks_tail ho) trivial h1; have c := ih .expr _ _ _ (tks_tail ho) trivial h1; have t5 := ct_semi h; rw [semi_is h]; simp only [cstN, preN] at c ⊢; rw [w_ret (ex_ok hy.1 hy.2 0), cw, cw_app]; simp only [cw]; omega
         ·obtain ⟨s, l1, h1, h⟩ := got_bind h
          obtain ⟨p, l2, h2, h⟩ := got_bind h; obtain ⟨_, l3, h3, h⟩ := got_bind h; obtain ⟨y, l4, h4, h⟩ := got_bind h; have ho1 := sub_suf (whole_suf h1) ho; have t1 := whole_cost h1 ho; have hq := isn (.place s) _ _ _ ho1 (whole_is h1 ho) h2; have c1 := ih (.place s) _ _ _ ho1 (whole_is h1 ho) h2; have t3 := ct_need h3; have ho3 := need_sub h3 (sub ho1 h2); have hy := isn .expr _ _ _ ho3 trivial h4; have c2 := ih .expr _ _ _ ho3 trivial h4; have t5 := ct_semi h; rw [semi_is h]; simp only [cstN, preN] at c1 c2 ⊢; rw [w_set hq.2 (ex_ok hq.1 (kp_ke hq.2) 0) (ex_ok hy.1 hy.2 0), cw_app, cw, cw_app]; simp only [cw]; omega
  | decl =>
   simp only [prs] at h
   obtain ⟨l0, hl0, ho0, t0⟩ : ∃ l0, (if isB l [sPub] = true then l.tail else l) = l0 ∧ (∀ t ∈ l0, TkOk t) ∧ ct l = pubC (if isB l [sPub] = true then 2 else 0) + ct l0 := by
    refine ⟨_, rfl, ?_, ?_⟩
    ·split; exact tks_tail ho; exact ho
    ·split
     ·rename_i hb; have := ct_is hb; unfold pubC; rw [if_pos rfl]; omega
     ·unfold pubC; rw [if_neg (by decide)]; omega
   have hpb : (if isB l [sPub] = true then (2 : Int) else 0) = 0 ∨ (if isB l [sPub] = true then (2 : Int) else 0) = 2 := by split <;> simp
   rw [hl0] at h; generalize (if isB l [sPub] = true then (2 : Int) else 0) = pb at h hpb t0; split at h
   ·rename_i hb
    have t1 := ct_is hb; obtain ⟨h1, h2⟩ := isn (.proc pb) _ _ _ (tks_tail ho0) hpb h; have c := ih (.proc pb) _ _ _ (tks_tail ho0) hpb h; have h2' : x.kd = 4 := h2; simp only [cstN, preN] at c ⊢; unfold declW; rw [if_neg (by omega), if_neg (by omega)]; omega
   ·obtain ⟨b, l1, h1, h⟩ := got_bind h
    obtain ⟨s, l2, h2, h⟩ := got_bind h; have hb := lab_ok h1; have ho1 := lab_sub h1 ho0; have hs := name_is h2 ho1; have ho2 := name_sub h2 ho1; have t1 := ct_lab h1; have t2 := ct_name h2
    have hm : pubW (b + pb) = (if pb = 2 then [sPub] else []) ∧ decide ((b + pb) % 2 = 1) = decide (b = 1) := by
     have hb2 : b = 0 ∨ b = 1 := by omega
     rcases hb2 with rfl | rfl <;> rcases hpb with rfl | rfl <;> exact ⟨rfl, rfl⟩
    have hcp : cw (if pb = 2 then [sPub] else []) = pubC pb := by
     rcases hpb with rfl | rfl <;> rfl
    split at h
    ·rename_i hb5
     have t3 := ct_is hb5; obtain ⟨y, l3, h3, h⟩ := got_bind h; obtain ⟨_, l4, h4, h⟩ := got_bind h; have hy := num_is h3 (tks_tail ho2); obtain ⟨mv, rfl, m0, m1, hc⟩ := num_cost h3 (tks_tail ho2); have t4 := ct_need h4; have t5 := ct_semi h; rw [semi_is h]; simp only [cstN, preN]; have e : declW (.mk 3 s (b + pb) [.mk 15 noText mv []]) = (varP (.mk 3 s (b + pb) [.mk 15 noText mv []])).2 := rfl; rw [e, w_arr hs (by omega) (by omega) hy.2 (ex_ok hy.1 (by rw [hy.2]; exact ⟨by decide, by decide⟩) 0), w_num _ m0, cw_app, hm.1, hm.2, hcp]; simp only [cw, List.singleton_append]; omega
    ·have t5 := ct_semi h
     rw [semi_is h]; simp only [cstN, preN]; have e : declW (.mk 3 s (b + pb) []) = (varP (.mk 3 s (b + pb) [])).2 := rfl; rw [e, w_var hs (by omega) (by omega), cw_app, hm.1, hm.2, hcp]; simp only [cw]; omega
  | proc pub =>
   simp only [prs] at h; obtain ⟨s, l1, h1, h⟩ := got_bind h; obtain ⟨_, l2, h2, h⟩ := got_bind h; have c := ih (.params s pub []) _ _ _ (need_sub h2 (name_sub h1 ho)) ⟨name_is h1 ho, hp, fun y hy => by cases hy⟩ h; have t1 := ct_name h1; have t2 := ct_need h2; simp only [cstN, preN, parsW, cw, List.length_nil, if_true] at c ⊢; omega
  | params s pub acc =>
   obtain ⟨hs, hpb, ha⟩ := hp
   have hcp : cw (if pub = 2 then [sPub] else []) = pubC pub := by
    rcases hpb with rfl | rfl <;> rfl
   have hdone : ∀ (acc : List Nd) (l : List Tk), (∀ y ∈ acc, IsNd y ∧ y.kd = 5) → (∀ t ∈ l, TkOk t) → ((pNeed sClose l).bind fun _ l => (pLabel l).bind fun b l =>
     if isB l [sGives] = true then (pLabel l.tail).bind fun g l => (prs n .block l).bind fun x l => .got (.mk 4 s (pub + b + (4 + 4 * g)) (acc ++ [x])) l
     else (prs n .block l).bind fun x l => .got (.mk 4 s (pub + b) (acc ++ [x])) l) = Out.got x r → cw (procP x).2 + ct r ≤ pubC pub + 5 + (s.size + 1) + 2 + cw (parsW acc 0) + ct l := by
    intro acc l hacc ho h; obtain ⟨_, l1, h1, h⟩ := got_bind h; have t1 := ct_need h1; have ho1 := need_sub h1 ho; obtain ⟨b, l2, hb, h⟩ := got_bind h; have t2 := ct_lab hb; have ho2 := lab_sub hb ho1; have hb := lab_ok hb; have hb2 : b = 0 ∨ b = 1 := by omega
    split at h
    ·rename_i hb5
     have t3 := ct_is hb5; obtain ⟨g, l3, hg, h⟩ := got_bind h; have t4 := ct_lab hg; have ho3 := lab_sub hg (tks_tail ho2); have hg := lab_ok hg; have hg2 : g = 0 ∨ g = 1 := by omega
     obtain ⟨y, l4, h4, h⟩ := got_bind h; have c := ih .block _ _ _ ho3 trivial h4; injection h with h5 h6
     subst h5 h6; simp only [cstN, preN] at c
     have hm : pubW (pub + b + (4 + 4 * g)) = (if pub = 2 then [sPub] else []) ∧ decide ((pub + b + (4 + 4 * g)) % 2 = 1) = decide (b = 1) ∧ givW (pub + b + (4 + 4 * g)) = [sGives, labW (decide (g = 1))] := by
      rcases hb2 with rfl | rfl <;> rcases hpb with rfl | rfl <;> rcases hg2 with rfl | rfl <;> exact ⟨rfl, rfl, rfl⟩
     rw [w_proc hs (by omega) (by omega) hacc, hm.1, hm.2.1, hm.2.2, cw_app, hcp]; simp only [cw, cw_app]; omega
    ·obtain ⟨y, l4, h4, h⟩ := got_bind h
     have c := ih .block _ _ _ ho2 trivial h4; injection h with h5 h6
     subst h5 h6; simp only [cstN, preN] at c
     have hm : pubW (pub + b) = (if pub = 2 then [sPub] else []) ∧ decide ((pub + b) % 2 = 1) = decide (b = 1) ∧ givW (pub + b) = [] := by
      rcases hb2 with rfl | rfl <;> rcases hpb with rfl | rfl <;> exact ⟨rfl, rfl, rfl⟩
     rw [w_proc hs (by omega) (by omega) hacc, hm.1, hm.2.1, hm.2.2, cw_app, hcp]; simp only [cw, cw_app]; omega
   simp only [prs] at h; simp only [cstN, preN]; split at h
   ·have := hdone _ _ ha ho h
    omega
   ·obtain ⟨b, l1, h1, h⟩ := got_bind h
    obtain ⟨p, l2, h2, h⟩ := got_bind h; have t1 := ct_lab h1; have t2 := ct_name h2; have ho1 := lab_sub h1 ho; have hpn := name_is h2 ho1; have ho2 := name_sub h2 ho1; have hb := lab_ok h1; have hacc2 : ∀ q ∈ acc ++ [Nd.mk 5 p b []], IsNd q ∧ q.kd = 5 := snoc ha ⟨.mk (.param hpn hb.1 hb.2) (fun y hy => by cases hy), rfl⟩
    have hcst : cw (parsW (acc ++ [Nd.mk 5 p b []]) 0) = cw (parsW acc 0) + (if acc.length = 0 then 0 else 2) + ((labW (decide (b = 1))).size + 1) + (p.size + 1) := by
     rw [pars_app, cw_app, Nat.zero_add]; simp only [parsW]; rw [cw_app]; simp only [cw]; show cw (parsW acc 0) + (cw (if 0 < acc.length then [sComma] else []) + ((labW (decide (b = 1))).size + 1 + (p.size + 1 + 0))) = _
     split
     ·rename_i h9; rw [if_neg (by omega)]; simp only [cw]; omega
     ·rename_i h9; rw [if_pos (by omega)]; simp only [cw]; omega
    split at h
    ·rename_i hb5
     have t3 := ct_is hb5; have c := ih (.params s pub (acc ++ [.mk 5 p b []])) _ _ _ (tks_tail ho2) ⟨hs, hpb, hacc2⟩ h; simp only [cstN, preN] at c; rw [hcst, if_neg (show ¬ (acc ++ [Nd.mk 5 p b []]).length = 0 by simp)] at c; omega
    ·have := hdone _ _ hacc2 ho2 h
     rw [hcst] at this; omega
  | module =>
   simp only [prs] at h; obtain ⟨_, l1, h1, h⟩ := got_bind h; obtain ⟨s, l2, h2, h⟩ := got_bind h; obtain ⟨_, l3, h3, h⟩ := got_bind h; have ho1 := need_sub h1 ho; have ho2 := name_sub h2 ho1; have c := ih (.imports s []) _ _ _ (need_sub h3 ho2) ⟨name_is h2 ho1, fun y hy => by cases hy⟩ h; have t1 := ct_need h1; have t2 := ct_name h2; have t3 := ct_need h3; simp only [cstN, preN, declsW, cw] at c ⊢; omega
  | imports s acc =>
   obtain ⟨hs, ha⟩ := hp; simp only [prs] at h; split at h
   ·rename_i hb
    have t0 := ct_is hb; obtain ⟨p, l1, h1, h⟩ := got_bind h; obtain ⟨_, l2, h2, h⟩ := got_bind h; have t1 := ct_name h1; have t2 := ct_need h2; have ho1 := name_sub h1 (tks_tail ho); have c := ih (.imports s (acc ++ [.mk 2 p 0 []])) _ _ _ (need_sub h2 ho1) ⟨hs, snoc ha ⟨.mk (.imp (name_is h1 (tks_tail ho))) (fun y hy => by cases hy), rfl⟩⟩ h; have e : declW (.mk 2 p 0 []) = [sImport, p, sSemi] := rfl; simp only [cstN, preN] at c ⊢; rw [decls_app, cw_app, declsW, cw_app, declsW, e] at c; simp only [cw] at c; omega
   ·exact ih (.decls s acc) _ _ _ ho ⟨hs, acc, [], by simp, ha, fun y hy => by cases hy⟩ h
  | decls s acc =>
   have hp2 := hp; obtain ⟨hs, a, b, rfl, ha, hb⟩ := hp; simp only [prs] at h; split at h
   ·injection h with h4 h5
    subst h4 h5
    have hX : IsNd (.mk 1 s 0 (a ++ b)) := by
     refine .mk (.module hs (snd ha) (snd hb)) (fun y hy => ?_)
     rcases List.mem_append.1 hy with hy | hy
     ·exact (ha y hy).1
     ·exact (hb y hy).1
    have hr := rng_of_is _ hX; simp only [cstN, preN]; rw [mod_words _ hr ((mod_form _ hr).2 ⟨hX, rfl⟩), cw, cw, cw]; simp only [Nd.tx, Nd.kids]; omega
   ·obtain ⟨y, l1, h1, h⟩ := got_bind h
    have hy := isn .decl _ _ _ ho trivial h1; have c1 := ih .decl _ _ _ ho trivial h1; have c2 := ih (.decls s (a ++ b ++ [y])) _ _ _ (sub ho h1) ⟨hs, a, b ++ [y], by rw [List.append_assoc], ha, snoc hb hy⟩ h; simp only [cstN, preN] at c1 c2 ⊢; rw [decls_app, cw_app, declsW, cw_app, declsW, cw] at c2; omega
end prt
end Go.Proofs.YtpcihajmcejliacGreatDoor
namespace Go.Proofs.YtpcihajmcejliacGreatDoor
open Go.RowKit
theorem results_11 {P : Program} {fn : Func} {p q : Tmp} {ty ty2 : TypeId} (h : fn.results = #[.cell p ty, .cell q ty2]) (tmps : Array Value) (w : World) {g g2 : Nat} {T T2 : TypeId} {d d2 : TypeDesc} {v v2 : Value}
  (hp : tmps.getD p undef = .pointer (some ⟨g, 0, none⟩)) (hg : Blk w g #[v] T) (hu : P.underlying ty = some d) (hd : (match d with | .struct _ | .array _ _ => true | _ => false) = false)
  (hq : tmps.getD q undef = .pointer (some ⟨g2, 0, none⟩)) (hg2 : Blk w g2 #[v2] T2) (hu2 : P.underlying ty2 = some d2) (hd2 : (match d2 with | .struct _ | .array _ _ => true | _ => false) = false) :
  (results fn tmps).run P w = .ok (.tuple #[v, v2]) w := by
 have hp' : tmps[p]?.getD undef = .pointer (some ⟨g, 0, none⟩) := by simpa using hp
 have hq' : tmps[q]?.getD undef = .pointer (some ⟨g2, 0, none⟩) := by simpa using hq
 have hl : (loadVar ty ⟨g, 0, none⟩).run P w = .ok v w := by
  have hc := hg.cell 0; simp only [List.getElem?_toArray, List.getElem?_cons_zero] at hc
  have hagg : (isAgg ty).run P w = .ok false w := by
   unfold isAgg; rw [Sem.run_bind, run_underlying hu w]; cases d <;> simp_all
  simp [loadVar, Sem.run_bind, hagg, hc]
 have hl2 : (loadVar ty2 ⟨g2, 0, none⟩).run P w = .ok v2 w := by
  have hc := hg2.cell 0; simp only [List.getElem?_toArray, List.getElem?_cons_zero] at hc
  have hagg : (isAgg ty2).run P w = .ok false w := by
   unfold isAgg; rw [Sem.run_bind, run_underlying hu2 w]; cases d2 <;> simp_all
  simp [loadVar, Sem.run_bind, hagg, hc]
 simp [results, h, hp', hq', asAddr, hl, hl2]
namespace prt
open synw
theorem then_yes2 {a b : PO} (h : (a.then b).1 = true) : a.1 = true ∧ b.1 = true ∧ (a.then b).2 = a.2 ++ b.2 := by
 unfold PO.then at h ⊢
 cases ha : a.1 with
 | false => rw [ha] at h; simp [ha] at h
 | true => rw [ha] at h; exact ⟨rfl, by simpa using h, by simp⟩
theorem mod_some (x : Nd) {pw : List ByteArray} (h : modP x = (true, pw)) : 0 < pw.length := by
 obtain ⟨k, t, m, l⟩ := x; unfold modP at h; have h1 := then_yes2 (congrArg Prod.fst h); have h2 := then_yes2 h1.2.1; have h3 := then_yes2 h2.2.1; have h4 := congrArg (fun p => p.2.length) h; simp only at h4; rw [h1.2.2, h2.2.2, h3.2.2] at h4; simp [sayP, mustP] at h4
 omega
theorem row_cells {u : World} {B : Nat} {row : Value} {xs : List ByteArray} (h : u.ownsRow B 9 1 row xs.length (xs.map fun s => .string s)) (hx : 0 < xs.length) : ∃ g c, row = .slice (some ⟨g, 0, none⟩) xs.length c ∧ xs.length ≤ c ∧ g < u.heap.size ∧ ∀ (j : Nat) x, xs[j]? = some x → u.cell? ⟨g, 0 + j, none⟩ = some (.string x) := by
 have h9 := h; obtain ⟨h1, h2⟩ := h; rcases h2 with ⟨rfl, h0⟩ | ⟨g, cap, cur, rfl, hb, hh, hc, -⟩
 ·omega
 ·refine ⟨g, cap, rfl, hc, (Array.getElem?_eq_some_iff.1 hh).1, fun j x hj => ?_⟩
  have hjl : j < xs.length := (List.getElem?_eq_some_iff.1 hj).1; rw [Nat.zero_add, h9.cellAt j (by omega), List.getElem?_map, hj]; rfl
set_option maxRecDepth 100000 in
set_option maxHeartbeats 8000000 in
theorem print_any (x : Nd) (v : Value) (w : World) (hnd : NgAt w x v) (hv : ErrVar w) (hmv : MaxVar w) (htab : Lib.TabIs Tryz.prog w "internal/strconv.uint64pow10" .u64 Lib.pow10Tab) :
  Calls Tryz.prog 16 #[v] w fun e w' => e = .returned (.tuple #[.string (printR x).1, .int .i64 (printR x).2]) ∧ Ext w w' := by
 obtain ⟨k, t, m, a, N, cc, rfl⟩ := ng_form hnd; obtain ⟨T, hT⟩ : ∃ T, printR x = T := ⟨_, rfl⟩; rw [hT]; have HT := Z_ hT; obtain ⟨B, hB⟩ : ∃ B, w.heap.size = B := ⟨_, rfl⟩; obtain ⟨w0, hw0⟩ : ∃ w0, w.alloc (.cells #[.int .i64 k, .string t, .int .i64 m, .slice a N cc] 24) = w0 := ⟨_, rfl⟩; have hb0 := Blk.made w #[.int .i64 k, .string t, .int .i64 m, .slice a N cc] 24; have hx0 := (Chg.refl (fun _ => False) w).alloc (.cells #[.int .i64 k, .string t, .int .i64 m, .slice a N cc] 24); have hs0 : w0.heap.size = B + 1 := by rw [← hw0, ← hB]; exact Array.size_push ..
 rw [hw0] at hb0 hx0; rw [hB] at hb0; have hR0 := Blk.made w0 #[.string ⟨#[]⟩] 9; obtain ⟨w1, hw1⟩ : ∃ w1, w0.alloc (.cells #[.string ⟨#[]⟩] 9) = w1 := ⟨_, rfl⟩; have hs1 : w1.heap.size = B + 2 := by rw [← hw1]; have h9 : (w0.alloc (.cells #[.string ⟨#[]⟩] 9)).heap.size = w0.heap.size + 1 := Array.size_push ..; omega
 have hb1 := hb0.alloc (.cells #[.string ⟨#[]⟩] 9); have hx1 := hx0.alloc (.cells #[.string ⟨#[]⟩] 9); rw [hw1] at hR0 hb1 hx1; rw [hs0] at hR0; have hF0 := Blk.made w1 #[.int .i64 0] 25; have hb2 := hb1.alloc (.cells #[.int .i64 0] 25); have hR2 := hR0.alloc (.cells #[.int .i64 0] 25); have hx2 := hx1.alloc (.cells #[.int .i64 0] 25); obtain ⟨w2, hw2⟩ : ∃ w2, w1.alloc (.cells #[.int .i64 0] 25) = w2 := ⟨_, rfl⟩; have hs2 : w2.heap.size = B + 3 := by rw [← hw2]; have h9 : (w1.alloc (.cells #[.int .i64 0] 25)).heap.size = w1.heap.size + 1 := Array.size_push ..; omega
 rw [hw2] at hF0 hb2 hR2 hx2; rw [hs1] at hF0; have HB := Z_ hb2; have HR := Z_ hR2; have HF := Z_ hF0; have HX := Z_ hx2; have HV := Z_ hv; have HMV := Z_ hmv; have HTAB := Z_ htab; have HND := Z_ hnd; clear hT hb0 hx0 hR0 hb1 hx1 hF0 hb2 hR2 hx2 hv hmv htab hnd; go_enter_defers Tryz.func16, Tryz.ntmps16
 go_upto_region 1 with (fail)
 try simp only [hw0, hs0, hw1, hs1, hB, hw2]
 clear hw0 hw1 hw2; have hbc := HB.out.cell; obtain ⟨w3, hw3⟩ : ∃ w3, w2.alloc (.cells #[.int .i64 0] 3) = w3 := ⟨_, rfl⟩; have hM := Blk.made w2 #[.int .i64 0] 3; have hB3 := HB.out.alloc (.cells #[.int .i64 0] 3); have hR3 := HR.out.alloc (.cells #[.int .i64 0] 3); have hF3 := HF.out.alloc (.cells #[.int .i64 0] 3); have hX3 := HX.out.alloc (.cells #[.int .i64 0] 3); rw [hw3] at hM hB3 hR3 hF3 hX3; rw [hs2] at hM; have HM := Z_ hM; have HB3 := Z_ hB3; have HR3 := Z_ hR3; have HF3 := Z_ hF3; have HX3 := Z_ hX3; clear hM hB3 hR3 hF3 hX3 hbc HB HR HF HX; have m1 := HM.out.cell; have m2 := HM.out.frozen; have m3 := HM.out.lt; go_upto_region 2 with (fail)
 try rw [hw3]
 have hM4 := HM.out.set 0 (.int .i64 0); have hB4 := HB3.out.setOther (p := ⟨B + 3, 0, none⟩) (by show B ≠ B + 3; omega) (.int .i64 0); have hR4 := HR3.out.setOther (p := ⟨B + 3, 0, none⟩) (by show B + 1 ≠ B + 3; omega) (.int .i64 0); have hF4 := HF3.out.setOther (p := ⟨B + 3, 0, none⟩) (by show B + 2 ≠ B + 3; omega) (.int .i64 0); have hX4 := HX3.out.setNew (p := ⟨B + 3, 0, none⟩) (by show w.heap.size ≤ B + 3; omega) (.int .i64 0); have HM := Z_ hM4; have HB := Z_ hB4; have HR := Z_ hR4; have HF := Z_ hF4; have HX := Z_ hX4; clear hM4 hB4 hR4 hF4 hX4 m1 m2 m3 HB3 HR3 HF3 HX3 hw3; generalize w3.setCell ⟨B + 3, 0, none⟩ (.int .i64 0) = w4 at *; have hbc := HB.out.cell
 have hW := weighg_any 16 x _ w4 (B + 3) 0 1 (fun i => decide (i = B + 3)) (ngAt_keeps (by
  refine keeps_hide (M := fun _ => false) HX.out.size fun i hi _ => ⟨by have : i ≠ B + 3 := (by omega); simpa using this, HX.out.block i hi id⟩) x _ (ngAt_keeps ⟨by rw [hide_size]; exact Nat.le_refl _, fun p u hp => by rw [hide_cell (fun _ => false) w p rfl]; exact hp⟩ x _ HND.out)) (by simp) HM.out (by decide) (by decide) (by decide)
 have HW := Z_ hW; clear hW; go_wp2_with fail
 refine HW.out.mono ?_
 rintro e w5 ⟨rfl, hC, hM5⟩; have HR5 := Z_ (HR.out.chg hC (by omega)); have HF5 := Z_ (HF.out.chg hC (by omega)); have HB5 := Z_ (HB.out.chg hC (by omega)); have HX5 := Z_ (HX.out.trans hC (fun i hi e => by omega)); clear hC hM5 HW HM HB HR HF HX hbc; cases hwe : (weighF 16 x 0).1 with
 | false =>
  have hq1 := HR5.out.cell; have hq2 := HR5.out.frozen; have hq3 := HR5.out.lt; have hs1 := HF5.out.cell; have hs2 := HF5.out.frozen; have hs3 := HF5.out.lt; go_wp2_with fail
  have hT : ((⟨#[]⟩ : ByteArray), (1 : Int)) = T := by rw [← HT.out]; unfold printR; rw [if_pos hwe]; rfl
  subst hT; have hF9 := (HF5.out.setOther (p := ⟨B + 1, 0, none⟩) (by show B + 2 ≠ B + 1; omega) (.string ⟨#[]⟩)).set 0 (.int .i64 1); have hR9 := (HR5.out.set 0 (.string ⟨#[]⟩)).setOther (p := ⟨B + 2, 0, none⟩) (by show B + 1 ≠ B + 2; omega) (.int .i64 1); have hX9 := (HX5.out.setNew (p := ⟨B + 1, 0, none⟩) (by show w.heap.size ≤ B + 1; omega) (.string ⟨#[]⟩)).setNew (p := ⟨B + 2, 0, none⟩) (by show w.heap.size ≤ B + 2; omega) (.int .i64 1); exact ⟨_, results_11 rfl _ _ rfl hR9 Tryz.underlying9 rfl rfl hF9 Tryz.underlying25 rfl, rfl, hX9⟩
 | true =>
  have hmf : ∀ (fn : Fn) (first cap : Array Value) (w : World), (Instr.makeFunc fn first cap).run Tryz.prog w = .ok (.func fn first cap) w := fun _ _ _ _ => rfl
  obtain ⟨P, hP⟩ : ∃ P, w5.heap.size = P := ⟨_, rfl⟩; obtain ⟨w6, hw6⟩ : ∃ w6, w5.alloc (.cells #[.slice none 0 0] 116) = w6 := ⟨_, rfl⟩; have hS := Blk.made w5 #[.slice none 0 0] 116; have hB6 := HB5.out.alloc (.cells #[.slice none 0 0] 116); have hR6 := HR5.out.alloc (.cells #[.slice none 0 0] 116); have hF6 := HF5.out.alloc (.cells #[.slice none 0 0] 116); have hX6 := HX5.out.alloc (.cells #[.slice none 0 0] 116); rw [hw6] at hS hB6 hR6 hF6 hX6; rw [hP] at hS; have hPB : B + 3 ≤ P := by have := HF5.out.lt; omega
  have HB6 := Z_ hB6; have HR6 := Z_ hR6; have HF6 := Z_ hF6; have HX6 := Z_ hX6; have hwl := (weigh_law 16 x 0 (by decide)).1.1 hwe; have hml := mod_len x; have hws := short_mod x ⟨_, HND.out⟩; have HPW := Z_ (show PW w w6 P (.slice none 0 0) [] from ⟨hX6, hS, ⟨rfl, .inl ⟨rfl, rfl⟩⟩, by omega⟩); have HMO := Z_ (show MoC w P x from by obtain ⟨k9, t9, m9, l9⟩ := x; exact mod_any HV.out HMV.out HTAB.out k9 t9 m9 l9); have HCA := Z_ (HMO.out _ _ _ _ HPW.out HND.out (by simp; omega)); obtain ⟨p, hp⟩ : ∃ p, modP x = p := ⟨_, rfl⟩; rw [hp] at HCA hml hws; have HPM := Z_ hp; have HWS := Z_ hws; clear hS hB6 hR6 hF6 hX6 hp HMO hws; have hbc := HB6.out.cell; go_upto_region 6 with (fail)
  try rw [hP]
  try rw [hw6]
  clear hw6 hP; go_wp2_with fail
  refine HCA.out.mono ?_
  rintro e w7 ⟨⟨row7, hF7⟩, he⟩; have hC7 := hF7.chg; have HR7 := Z_ (HR6.out.chg hC7 (fun e => by rcases e with e | e; omega; cases e)); have HF7 := Z_ (HF6.out.chg hC7 (fun e => by rcases e with e | e; omega; cases e)); have HX7 := Z_ hF7.pw.ext; have HPF := Z_ hF7; clear hC7 hF7 hbc HCA HB6 HR6 HF6 HX6; obtain ⟨pb, pw⟩ := p; cases pb with
  | false =>
   obtain rfl : e = _ := he; simp only [Bool.false_eq_true, if_false]; go_wp2_with fail
   refine leaves_cons (f := 50) (args := #[.pointer (some ⟨B + 1, 0, none⟩), .pointer (some ⟨B + 2, 0, none⟩)]) (by simp) (by simp [go_sem]) ?_
   refine (catch_print (B + 1) (B + 2) _ _ _ HR7.out HF7.out (by omega)).mono ?_
   rintro e u' w'' ⟨rfl, rfl, hRz, hFz, hCz⟩; have hT : (noText, (2 : Int)) = T := by rw [← HT.out]; unfold printR; rw [hwe, HPM.out]; rfl
   subst hT; exact ⟨_, results_11 rfl _ _ rfl hRz Tryz.underlying9 rfl rfl hFz Tryz.underlying25 rfl, rfl, HX7.out.trans hCz (fun i hi e => by omega)⟩
  | true =>
   obtain rfl : e = _ := he; simp only [if_true]; have hpos := mod_some x HPM.out; replace hml : pw.length ≤ 12 * szF x := hml; have hrow := HPF.out.pw.row; simp only [List.nil_append] at hrow; obtain ⟨g, c, rfl, hgc, hgl, hgx⟩ := row_cells hrow hpos; have hjl := join_le pw HWS.out; have hj := Tryz.strings_Join g 0 c pw ⟨#[32]⟩ w7 hgx hgl (by omega) hgc (by have h9 : (Lib.join (pw.map (·.data.toList)) (⟨#[32]⟩ : ByteArray).data.toList).length ≤ 25 * pw.length := hjl; omega); obtain ⟨J, hJ⟩ : ∃ J, (Lib.join (pw.map fun s => s.data.toList) [32]) = J := ⟨_, rfl⟩; have HJ := Z_ (show Calls Tryz.prog 52 #[.slice (some ⟨g, 0, none⟩) pw.length c, .string ⟨#[32]⟩] w7 fun e w' => e = .returned (.string ⟨J.toArray⟩) ∧ Below w7.heap.size w7 w' from by rw [← hJ]; exact hj); have hsc := HPF.out.pw.s.cell; have HJL := Z_ (show J.length ≤ 25 * pw.length from by rw [← hJ]; exact hjl)
   have HJE := Z_ hJ; obtain ⟨bs, hbs⟩ : ∃ bs : ByteArray, (⟨J.toArray⟩ : ByteArray) = bs := ⟨_, rfl⟩; have hbz : bs.size = J.length := by rw [← hbs]; exact List.size_toArray
   rw [hbs] at HJ; have HT2 := Z_ (show (if 3000 < J.length then ((noText, 1) : ByteArray × Int) else (bs, 0)) = T by rw [← HT.out, ← hbs]; unfold printR; rw [hwe, HPM.out, HJE.out]; rfl); clear hj hjl hgx hrow hJ hbs; go_wp2_with fail
   refine HJ.out.mono ?_
   rintro e w8 ⟨rfl, hbl⟩; have hE8 : Ext w7 w8 := Below.toExt hbl; have hR8 := HR7.out.ext hE8; have hF8 := HF7.out.ext hE8; have hX8 := HX7.out.ext hE8; have hq1 := hR8.cell; have hq2 := hR8.frozen; have hq3 := hR8.lt; have hR9 := hR8.set 0 (.string bs); have hF9 := hF8.setOther (p := ⟨B + 1, 0, none⟩) (by show B + 2 ≠ B + 1; omega) (.string bs); have hX9 := hX8.setNew (p := ⟨B + 1, 0, none⟩) (by show w.heap.size ≤ B + 1; omega) (.string bs); have HR9 := Z_ hR9; have HF9 := Z_ hF9; have HX9 := Z_ hX9; clear hR8 hF8 hX8 hR9 hF9 hX9 hbl hE8 HJ; by_cases hbig : 3000 < J.length
   ·have hT := HT2.out
    rw [if_pos hbig] at hT; subst hT; have hbi : (3000 : Int) < (bs.size : Int) := by omega
    have hbd : decide ((3000 : Int) < (bs.size : Int)) = true := by simpa using hbi
    go_upto_region 8 with (fail)
    clear hq1 hq2 hq3; generalize w8.setCell ⟨B + 1, 0, none⟩ (.string bs) = w9 at *; have hq1 := HR9.out.cell; have hq2 := HR9.out.frozen; have hq3 := HR9.out.lt; have hs1 := HF9.out.cell; have hs2 := HF9.out.frozen; have hs3 := HF9.out.lt; go_wp2_with fail
    refine leaves_cons (f := 50) (args := #[.pointer (some ⟨B + 1, 0, none⟩), .pointer (some ⟨B + 2, 0, none⟩)]) (by simp) (by simp [go_sem]) ?_
    refine (idle_print (B + 1) (B + 2) _).mono ?_
    rintro e u' w'' ⟨rfl, rfl, rfl⟩; have hFz := (HF9.out.setOther (p := ⟨B + 1, 0, none⟩) (by show B + 2 ≠ B + 1; omega) (.string ⟨#[]⟩)).set 0 (.int .i64 1); have hRz := (HR9.out.set 0 (.string ⟨#[]⟩)).setOther (p := ⟨B + 2, 0, none⟩) (by show B + 1 ≠ B + 2; omega) (.int .i64 1); have hXz := (HX9.out.setNew (p := ⟨B + 1, 0, none⟩) (by show w.heap.size ≤ B + 1; omega) (.string ⟨#[]⟩)).setNew (p := ⟨B + 2, 0, none⟩) (by show w.heap.size ≤ B + 2; omega) (.int .i64 1); exact ⟨_, results_11 rfl _ _ rfl hRz Tryz.underlying9 rfl rfl hFz Tryz.underlying25 rfl, rfl, hXz⟩
   ·have hT := HT2.out
    rw [if_neg hbig] at hT; subst hT; have hbi : ¬ (3000 : Int) < (bs.size : Int) := by omega
    have hbd : decide ((3000 : Int) < (bs.size : Int)) = false := by simpa using hbi
    go_upto_region 8 with (fail)
    clear hq1 hq2 hq3; generalize w8.setCell ⟨B + 1, 0, none⟩ (.string bs) = w9 at *; have hq1 := HR9.out.cell; have hq2 := HR9.out.frozen; have hq3 := HR9.out.lt; have hs1 := HF9.out.cell; have hs2 := HF9.out.frozen; have hs3 := HF9.out.lt; go_wp2_with fail
    refine leaves_cons (f := 50) (args := #[.pointer (some ⟨B + 1, 0, none⟩), .pointer (some ⟨B + 2, 0, none⟩)]) (by simp) (by simp [go_sem]) ?_
    refine (idle_print (B + 1) (B + 2) _).mono ?_
    rintro e u' w'' ⟨rfl, rfl, rfl⟩; have hFz := (HF9.out.setOther (p := ⟨B + 1, 0, none⟩) (by show B + 2 ≠ B + 1; omega) (.string bs)).set 0 (.int .i64 0); have hRz := (HR9.out.set 0 (.string bs)).setOther (p := ⟨B + 2, 0, none⟩) (by show B + 1 ≠ B + 2; omega) (.int .i64 0); have hXz := (HX9.out.setNew (p := ⟨B + 1, 0, none⟩) (by show w.heap.size ≤ B + 1; omega) (.string bs)).setNew (p := ⟨B + 2, 0, none⟩) (by show w.heap.size ≤ B + 2; omega) (.int .i64 0); exact ⟨_, results_11 rfl _ _ rfl hRz Tryz.underlying9 rfl rfl hFz Tryz.underlying25 rfl, rfl, hXz⟩
end prt
end Go.Proofs.YtpcihajmcejliacGreatDoor
namespace Go.Proofs.YtpcihajmcejliacGreatDoor
open Go.RowKit
namespace syntaxAgain
open synw prt
theorem ct_tks (s : ByteArray) : ∀ (ts : List Tok), (∀ t ∈ ts, again.Good s.data.toList t) → ct (tksOf s ts) = (ts.map (·.2.2)).sum + ts.length := by
 intro ts; induction ts with
 | nil => intro _; rfl
 | cons t r ih =>
  intro h; have hg := h t (by simp)
  have e : (tkOf s t).text.size = t.2.2 := by
   have e1 : (tkOf s t).text.data.toList = (s.data.toList.drop t.2.1).take t.2.2 := lex.extract_list s t.2.1 t.2.2; have e2 : (tkOf s t).text.data.toList.length = (tkOf s t).text.size := by rw [Array.length_toList]; rfl
   rw [← e2, e1, List.length_take, List.length_drop]; have := hg.2.1; omega
  have e3 : tksOf s (t :: r) = tkOf s t :: tksOf s r := rfl; rw [e3, ct, e, ih fun u hu => h u (by simp [hu]), List.map_cons, List.sum_cons, List.length_cons]; omega
theorem scan_cost (s : ByteArray) (ts : List Tok) (a : Nat) (h : scanF s.data.toList = (ts, 0, a)) : ct (tksOf s ts) ≤ 2 * s.size := by
 have hlen : s.data.toList.length = s.size := by rw [Array.length_toList]; rfl
 rw [scanF] at h; split at h
 ·cases h
 ·obtain ⟨h1, h2⟩ := again.scan_good s.data.toList (s.data.toList.length + 1) (skipB false s.data.toList) [] (by simp)
  rw [h] at h1 h2; simp only [List.map_nil, List.sum_nil, Nat.zero_add] at h2; have h3 := (again.join_length s.data.toList ts h1).2; rw [ct_tks s ts h1]; omega
theorem words_cw : ∀ (l : List ByteArray), (wordsJ (l.map fun s => s.data.toList)).length ≤ cw l := by
 intro l; induction l with
 | nil => exact Nat.le_refl _
 | cons x r ih =>
  have hx : x.data.toList.length = x.size := by rw [Array.length_toList]; rfl
  cases r with
  | nil => simp only [List.map_cons, List.map_nil, wordsJ, cw, hx]; omega
  | cons y r =>
   simp only [List.map_cons, wordsJ, cw, List.length_append, List.length_cons, hx] at ih ⊢; omega
theorem again_print (s : ByteArray) (h : (parseR s).2.1 = 0) : (printR (parseR s).1).2 = 0 ∨ ((printR (parseR s).1).2 = 1 ∧ 1000 < s.size) := by
 have his := parse_is s h; have hw : (weighF 16 (parseR s).1 0).1 = true := (weigh_law 16 (parseR s).1 0 (by omega)).1.2 ⟨his.2.2.1, by have := his.2.2.2; omega⟩; have hm := (mod_form _ (rng_of_is _ his.1)).2 ⟨his.1, his.2.1⟩
 have hc : cw (modP (parseR s).1).2 ≤ 2 * s.size := by
  unfold parseR at h ⊢; obtain ⟨T, hT⟩ : ∃ T, scanF s.data.toList = T := ⟨_, rfl⟩; rw [hT] at h ⊢; obtain ⟨ts, c, a⟩ := T; simp only at h ⊢; by_cases hc : c = 0
  ·subst hc
   obtain ⟨-, hok, -⟩ := synk.scan_tks s ts a hT; have hsc := scan_cost s ts a hT; rw [if_pos rfl] at h ⊢; cases hp : prs (20 * ts.length + 5) .module (tksOf s ts) with
   | out => exact absurd hp (synm.prs_in _ _ _ (by simp [tksOf, NT.rank]))
   | bad l => rw [hp] at h; exact absurd (show (2 : Int) = 0 from h) (by decide)
   | got x r =>
    rw [hp] at h; simp only at h ⊢; by_cases hw : (weighF 16 x 0).1 = true
    ·rw [if_pos hw] at h ⊢
     have := prs_cost _ .module _ _ _ hok trivial hp; simp only [cstN, preN] at this; simp only
     omega
    ·rw [if_neg hw] at h
     exact absurd (show (1 : Int) = 0 from h) (by decide)
  ·rw [if_neg hc] at h
   exact absurd h hc
 unfold printR; rw [hw, hm, if_neg (by decide), if_neg (by decide), join_words]; have := words_cw (modP (parseR s).1).2; split
 ·right; exact ⟨rfl, by omega⟩
 ·left; rfl
theorem ng_of_nd {w : World} : ∀ (x : Nd) (v : Value), IsNd x → NdAt w x v → NgAt w x v := by
 refine nd_ind fun k t m l ih v hX h => ?_
 rw [ndAt_mk] at h; rw [ngAt_mk]; obtain ⟨a, c, rfl, g1, g2, g3, g4⟩ := h; have hf := hX.form; refine ⟨a, c, rfl, g1, g2, ⟨by unfold maxLen; omega, ?_⟩, fun j hj => ?_⟩
 ·cases hf <;> first | omega | exact ⟨by decide, by decide⟩
 ·obtain ⟨b, o, ea, hb, u, hu, hs, hc⟩ := g4 j hj
  exact ⟨b, o, ea, hb, u, ih _ (List.getElem_mem hj) _ (hX.kids _ (List.getElem_mem hj)) hu, hs, hc⟩
def srcK : ByteArray := ⟨#[109, 111, 100, 117, 108, 101, 32, 109, 59, 112, 117, 98, 32, 104, 105, 103, 104, 32, 120, 59]⟩
def outK : ByteArray := ⟨#[109, 111, 100, 117, 108, 101, 32, 109, 32, 59, 32, 112, 117, 98, 32, 104, 105, 103, 104, 32, 120, 32, 59]⟩
def ndK : Nd := .mk 1 ⟨#[109]⟩ 0 [.mk 3 ⟨#[120]⟩ 3 []]
theorem read_known : parseR srcK = (ndK, 0, 0) := by kernel_rfl
theorem print_known : printR ndK = (outK, 0) := by kernel_rfl
theorem is_known : IsNd ndK := by
 have h := parse_is srcK (by rw [read_known]); rw [read_known] at h; exact h.1
theorem hide_no (w : World) : Keeps w (hide (fun _ => false) w) := ⟨by rw [hide_size]; exact Nat.le_refl _, fun p u hp => by rw [hide_cell (fun _ => false) w p rfl]; exact hp⟩
theorem ng_ext {w w' : World} {x : Nd} {v : Value} (h : NgAt w x v) (hE : Ext w w') : NgAt w' x v := ngAt_keeps ⟨hE.size, fun p u hp => by
 rw [hE.cell (World.block_lt_of_cell? w _ hp) id]; exact hp⟩ x v h
set_option maxRecDepth 100000 in
set_option maxHeartbeats 4000000 in
theorem walk (s : ByteArray) (w : World) (hs : s.size ≤ 9223372036854775807) (hv : ErrVar w) (hmv : MaxVar w) (htab : Lib.TabIs Tryz.prog w "internal/strconv.uint64pow10" .u64 Lib.pow10Tab) :
  Calls Tryz.prog 3 #[.string s] w fun e w' => e = .returned (.bool true) ∧ Ext w w' := by
 have CP := Z_ (fun (t : ByteArray) (u : World) (ht : t.size ≤ 9223372036854775807) (hE : Ext w u) => parse_any t u ht (hv.ext hE) (hmv.ext hE)); have CQ := Z_ (fun (x : Nd) (v : Value) (u : World) (hE : Ext w u) (h : NgAt u x v) => print_any x v u h (hv.ext hE) (hmv.ext hE) (tab_ext htab hE)); have K1 := Z_ (CP.out srcK w (by decide) (Chg.refl _ _)); rw [read_known] at K1; have HPR := Z_ (again_print s); have HIS := Z_ (parse_is s); obtain ⟨Q, hQ⟩ : ∃ Q, parseR s = Q := ⟨_, rfl⟩; have C5 := Z_ (fun (u : World) (hE : Ext w u) => CP.out s u hs hE); rw [hQ] at C5 HPR HIS; obtain ⟨x, c, a⟩ := Q; clear hQ hv hmv htab; go_enter Tryz.func3, Tryz.ntmps3
 go_upto_region 1 with (fail)
 go_wp2_with fail
 refine K1.out.mono ?_
 rintro e w1 ⟨hE1, v1, rfl, hn1⟩; replace hn1 : NdAt w1 ndK v1 := hn1; obtain ⟨k1, t1, m1, a1, l1, c1, rfl⟩ := nd_form hn1; have hX1 := ((Chg.refl (fun _ => False) w1).alloc (.cells #[.int .i64 k1, .string t1, .int .i64 m1, .slice a1 l1 c1] 24)).alloc (.cells #[.int .i64 0, .int .i64 0] 27); have HX := Z_ (hE1.ext hX1); have HN := Z_ (ng_ext (ng_of_nd _ _ is_known hn1) hX1); have HA := Z_ ((Blk.made w1 #[.int .i64 k1, .string t1, .int .i64 m1, .slice a1 l1 c1] 24).alloc (.cells #[.int .i64 0, .int .i64 0] 27)); obtain ⟨P, hP⟩ : ∃ P, w1.heap.size = P := ⟨_, rfl⟩; rw [hP] at HA; clear hE1 hX1 hn1 K1; go_upto_region 2 with (fail)
 try rw [hP]
 generalize (w1.alloc (.cells #[.int .i64 k1, .string t1, .int .i64 m1, .slice a1 l1 c1] 24)).alloc (.cells #[.int .i64 0, .int .i64 0] 27) = u1 at *; clear hP; have q1 := HA.out.cell; have K2 := Z_ (CQ.out ndK _ u1 HX.out HN.out); rw [print_known] at K2; go_wp2_with fail
 refine K2.out.mono ?_
 rintro e w2 ⟨rfl, hE2⟩; have HX2 := Z_ (HX.out.ext hE2); clear q1 HA HN HX K2 hE2; have hne : (outK.toList == [109, 111, 100, 117, 108, 101, 32, 109, 32, 59, 32, 112, 117, 98, 32, 104, 105, 103, 104, 32, 120, 32, 59]) = true := by rw [Go.ByteArray.toList_eq]; decide
 go_upto_region 5 with (fail)
 clear hne; have K5 := Z_ (C5.out w2 HX2.out); clear C5; go_wp2_with fail
 refine K5.out.mono ?_
 rintro e w3 ⟨hE3, v3, rfl, hn3⟩; replace hn3 : NdAt w3 x v3 := hn3; obtain ⟨k3, t3, m3, a3, l3, c3, rfl⟩ := nd_form hn3; have hX3 := ((Chg.refl (fun _ => False) w3).alloc (.cells #[.int .i64 k3, .string t3, .int .i64 m3, .slice a3 l3 c3] 24)).alloc (.cells #[.int .i64 c, .int .i64 a] 27); have HX4 := Z_ ((HX2.out.ext hE3).ext hX3); have HA4 := Z_ ((Blk.made w3 #[.int .i64 k3, .string t3, .int .i64 m3, .slice a3 l3 c3] 24).alloc (.cells #[.int .i64 c, .int .i64 a] 27)); have HF4 := Z_ (Blk.made2 w3 (.cells #[.int .i64 k3, .string t3, .int .i64 m3, .slice a3 l3 c3] 24) #[.int .i64 c, .int .i64 a] 27); have HN4 : Hid (c = 0 → NgAt ((w3.alloc (.cells #[.int .i64 k3, .string t3, .int .i64 m3, .slice a3 l3 c3] 24)).alloc (.cells #[.int .i64 c, .int .i64 a] 27)) x (.agg #[.int .i64 k3, .string t3, .int .i64 m3, .slice a3 l3 c3])) := fun h => ng_ext (ng_of_nd _ _ (HIS.out h).1 hn3) hX3
 obtain ⟨R, hR⟩ : ∃ R, w3.heap.size = R := ⟨_, rfl⟩; rw [hR] at HA4 HF4; clear hE3 hX3 hn3 K5 HX2; go_upto_region 6 with (fail)
 try rw [hR]
 generalize (w3.alloc (.cells #[.int .i64 k3, .string t3, .int .i64 m3, .slice a3 l3 c3] 24)).alloc (.cells #[.int .i64 c, .int .i64 a] 27) = u3 at *; clear hR; have q1 := HA4.out.cell; have q2 := HF4.out.cell; by_cases hc : c = 0
 ·subst hc
  have hx := (HIS.out rfl).1; have hpr := HPR.out rfl; have K8 := Z_ (CQ.out x _ u3 HX4.out (HN4.out rfl)); have hback := fun h => print_back x (rng_of_is x hx) h
  have hno : (printR x).2 ≠ 0 → (printR x).1 = noText := by
   unfold printR
   repeat' split
   all_goals first | (intro _; rfl) | (intro h; exact absurd rfl h)
  have hsz : (printR x).1.size ≤ 9223372036854775807 := by
   unfold printR
   repeat' split
   all_goals first | exact (show (0 : Nat) ≤ _ by decide) | skip
   rename_i h9
   show (Lib.join _ _).toArray.size ≤ _
   rw [List.size_toArray]; omega
  have CQX := Z_ (fun (v : Value) (u : World) (hE : Ext w u) (h : NdAt u x v) => CQ.out x v u hE (ng_of_nd _ _ hx h)); obtain ⟨Q, hQ⟩ : ∃ Q, printR x = Q := ⟨_, rfl⟩; rw [hQ] at hpr K8 hback hno hsz CQX; obtain ⟨p, pc⟩ := Q; have HPR2 := Z_ (show pc = 0 ∨ (pc = 1 ∧ 1000 < s.size) from hpr); have HB := Z_ (show pc = 0 → parseR p = (x, 0, 0) from hback); have HSZ := Z_ (show p.size ≤ 9223372036854775807 from hsz); have HXI := Z_ hx; clear hQ hpr hback hno hsz hx HIS HPR HN4 CQ; go_wp2_with fail
  refine K8.out.mono ?_
  rintro e w5 ⟨rfl, hE5⟩; have HX5 := Z_ (HX4.out.ext hE5); clear q1 q2 HA4 HF4 HX4 K8 hE5; by_cases hpc : pc = 0
  ·subst hpc
   have hbk := HB.out rfl; have K11 := Z_ (CP.out p w5 HSZ.out HX5.out); rw [hbk] at K11; clear HB hbk HPR2 CP; go_wp2_with fail
   refine K11.out.mono ?_
   rintro e w6 ⟨hE6, v6, rfl, hn6⟩; replace hn6 : NdAt w6 x v6 := hn6; obtain ⟨k6, t6, m6, a6, l6, c6, rfl⟩ := nd_form hn6; have hX6 := ((Chg.refl (fun _ => False) w6).alloc (.cells #[.int .i64 k6, .string t6, .int .i64 m6, .slice a6 l6 c6] 24)).alloc (.cells #[.int .i64 0, .int .i64 0] 27); have HX7 := Z_ ((HX5.out.ext hE6).ext hX6); have HA7 := Z_ ((Blk.made w6 #[.int .i64 k6, .string t6, .int .i64 m6, .slice a6 l6 c6] 24).alloc (.cells #[.int .i64 0, .int .i64 0] 27)); have HF7 := Z_ (Blk.made2 w6 (.cells #[.int .i64 k6, .string t6, .int .i64 m6, .slice a6 l6 c6] 24) #[.int .i64 0, .int .i64 0] 27); have HN7 := Z_ (ndAt_keeps (keeps_bare (fun _ => false) _) _ _ (ndAt_keeps (keeps_chg (M := fun _ => false) hX6 (fun i _ e => e.elim)) x _ (ndAt_keeps (hide_no _) _ _ hn6))); obtain ⟨T, hT⟩ : ∃ T, w6.heap.size = T := ⟨_, rfl⟩
   rw [hT] at HA7 HF7; clear hE6 hX6 hn6 K11 HX5; go_upto_region 12 with (fail)
   try rw [hT]
   generalize (w6.alloc (.cells #[.int .i64 k6, .string t6, .int .i64 m6, .slice a6 l6 c6] 24)).alloc (.cells #[.int .i64 0, .int .i64 0] 27) = u6 at *; clear hT; have q1 := HA7.out.cell; have K12 := Z_ (CQX.out _ u6 HX7.out HN7.out); go_wp2_with fail
   refine K12.out.mono ?_
   rintro e w8 ⟨rfl, hE8⟩; have HF8 := Z_ (HF7.out.ext hE8); have HX8 := Z_ (HX7.out.ext hE8); clear q1 HA7 HF7 HX7 K12 hE8 HN7; have q2 := HF8.out.cell; have hpp : (p.toList == p.toList) = true := by simp
   go_wp2_with fail
   go_ret
   exact ⟨by first | rfl | simp, HX8.out⟩
  ·obtain ⟨rfl, hbig⟩ := HPR2.out.resolve_left hpc
   have hbi : decide ((1000 : Int) < (s.size : Int)) = true := by simp; omega
   clear HB HPR2 CP; go_wp2_with fail
   go_ret
   exact ⟨by first | rfl | simp, HX5.out⟩
 ·have hcn : (c != 0) = true := by simpa using hc
  clear HPR HIS HN4; go_wp2_with fail
  go_ret
  exact ⟨rfl, HX4.out⟩
end syntaxAgain
end Go.Proofs.YtpcihajmcejliacGreatDoor
