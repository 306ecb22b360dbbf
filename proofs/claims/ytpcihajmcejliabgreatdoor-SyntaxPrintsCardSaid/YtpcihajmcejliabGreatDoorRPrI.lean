/- Show shows the words with blanks between. The reference's rule of which kid may stand where. -/
import Derived.Test.YtpcihajmcejliabGreatDoorRPrB
import Derived.Test.YtpcihajmcejliabGreatDoorRPrN
import Derived.Test.YtpcihajmcejliabGreatDoorRPrT
namespace Go.Proofs.YtpcihajmcejliabGreatDoor
open Go.RowKit
namespace rpr
open synw synr prt
theorem jB_le {ws : List ByteArray} (h : ∀ w ∈ ws, w.size ≤ 24) : (jB ws).size ≤ 25 * ws.length := by
 have h1 := join_le ws h; rw [join_words] at h1; have e : (jB ws).size = (wordsJ (ws.map fun s => s.data.toList)).length := List.size_toArray ..; rw [e]; exact h1
theorem sz_one (x : Nd) : 1 ≤ szF x := by cases x; simp only [szF]; omega
theorem sz_mem : ∀ (l : List Nd), l.length ≤ szL l ∧ ∀ y ∈ l, szF y ≤ szL l := by
 intro l; induction l with
 | nil => exact ⟨Nat.zero_le _, fun y hy => by cases hy⟩
 | cons x r ih =>
  have := sz_one x; refine ⟨by simp only [szL, List.length_cons]; omega, fun y hy => ?_⟩
  rcases List.mem_cons.1 hy with rfl | hy
  ·simp only [szL]; omega
  ·have := ih.2 y hy
   simp only [szL]; omega
theorem name_24 {t : ByteArray} (h : NameT t) : t.size ≤ 24 := short_name h
theorem whole_24 {t : ByteArray} (h : WholeT t) : t.size ≤ 100 ∧ (jB (wholeW t)).size ≤ 200 := by
 have hw : ∀ w ∈ wholeW t, w.size ≤ 24 := by
  unfold wholeW; rcases cutB_whole h with ⟨h1, e⟩ | ⟨a, b, ha, hb, rfl, e⟩
  ·rw [e]
   intro w hw; obtain rfl : w = t := by simpa using hw
   exact name_24 h1
  ·rw [e]
   intro w hw; have hw2 : w = a ∨ w = sDot ∨ w = b := by simpa using hw
   rcases hw2 with rfl | rfl | rfl
   ·exact name_24 ha
   ·decide
   ·exact name_24 hb
 refine ⟨?_, ?_⟩
 ·rcases h with h1 | ⟨a, b, ha, hb, rfl⟩
  ·have := name_24 h1; omega
  ·have h1 := name_24 ha
   have h2 := name_24 hb; have : sDot.size = 1 := rfl; simp only [ByteArray.size_append]; omega
 ·have h1 := jB_le hw
  have h2 := whole_len t; omega
theorem bd_ex {w : World} (x : Nd) (hs : szF x ≤ 500) (h : ∃ v, NgAt w x v) (k : Int) : (jB (exP k x).2).size ≤ 160000 := by
 have h1 := jB_le (short_exP x k h); have h2 := exP_len x k; omega
theorem bd_show {w : World} (x : Nd) (hX : IsNd x) (hs : szF x ≤ 500) (h : ∃ v, NgAt w x v) : (jB (showW x)).size ≤ 160000 := by
 by_cases h1 : x.kd = 1
 ·rw [sw_mod h1]
  have h2 := jB_le (short_mod x h); have h3 := mod_len x; omega
 by_cases h2 : x.kd = 2
 ·have e : showW x = [sImport, x.tx, sSemi] := by rw [sw_decl (.inl h2)]; unfold declW; rw [if_pos h2]
  have ht : x.tx.size ≤ 24 := by
   obtain ⟨k, t, m, l⟩ := x; have hf := hX.form; unfold Nd.kd at h2; subst h2; cases hf with
   | imp ht => exact name_24 ht
  rw [e]
  have h3 := jB_le (ws := [sImport, x.tx, sSemi]) (fun w hw => by
   have hw2 : w = sImport ∨ w = x.tx ∨ w = sSemi := by simpa using hw
   rcases hw2 with rfl | rfl | rfl
   ·decide
   ·exact ht
   ·decide)
  simp only [List.length_cons, List.length_nil] at h3; omega
 by_cases h3 : x.kd = 3
 ·rw [sw_decl (.inr (.inl h3))]
  unfold declW; rw [if_neg h2, if_pos h3]; have h4 := jB_le (short_var x h); have h5 := var_len x; omega
 by_cases h4 : x.kd = 4
 ·rw [sw_decl (.inr (.inr h4))]
  unfold declW; rw [if_neg h2, if_neg h3]; have h5 := jB_le (short_proc x h); have h6 := proc_len x; omega
 by_cases h5 : x.kd = 5
 ·rw [sw_par h5]
  have ht : x.tx.size ≤ 24 := by
   obtain ⟨k, t, m, l⟩ := x; have hf := hX.form; unfold Nd.kd at h5; subst h5; cases hf with
   | param ht _ _ => exact name_24 ht
  have h6 := jB_le (ws := [labW (decide (x.nm = 1)), x.tx]) (fun w hw => by
   have hw2 : w = labW (decide (x.nm = 1)) ∨ w = x.tx := by simpa using hw
   rcases hw2 with rfl | rfl
   ·cases decide (x.nm = 1) <;> decide
   ·exact ht)
  simp only [List.length_cons, List.length_nil] at h6; omega
 by_cases h6 : x.kd = 6
 ·rw [sw_bl h6]
  have h7 := jB_le (short_stP x h).2; have h8 := (stP_len x).2; omega
 by_cases h14 : x.kd ≤ 14
 ·have e : showW x = (stP x).2 := by
   unfold showW; rw [if_neg h1, if_neg h2, if_neg h3, if_neg h4, if_neg h5, if_neg h6, if_pos h14]
  rw [e]; have h7 := jB_le (short_stP x h).1; have h8 := (stP_len x).1; omega
 ·have e : showW x = (exP 0 x).2 := by
   unfold showW; rw [if_neg h1, if_neg h2, if_neg h3, if_neg h4, if_neg h5, if_neg h6, if_neg h14]
  rw [e]; exact bd_ex x hs h 0
theorem lb01 {m : Int} (h0 : 0 ≤ m) (h1 : m ≤ 1) : decide (m.tmod 2 = 1) = decide (m = 1) := by
 rcases (show m = 0 ∨ m = 1 by omega) with rfl | rfl <;> rfl
theorem lb2 {m : Int} (h0 : 0 ≤ m) : decide (m.tmod 2 = 1) = decide (m % 2 = 1) := by rw [Int.tmod_eq_emod_of_nonneg h0]
theorem pub_jB {m : Int} (h0 : 0 ≤ m) {ws : List ByteArray} (hw : ws ≠ []) : jB (pubW m ++ ws) = pubS m ++ jB ws := by
 unfold pubW pubS; rw [Int.tmod_eq_emod_of_nonneg h0]; split
 ·rw [List.singleton_append, jB_cons hw]
  exact ba_ext (by simp [sPub, bl1])
 ·rw [List.nil_append]
  exact ba_ext (by simp)
theorem giv_eq {m : Int} (h0 : 0 ≤ m) (h1 : m ≤ 11) {W : List ByteArray} (hW : W ≠ []) (H : ByteArray) : givS m H ++ jB W = H ++ jB (givW m ++ W) := by
 unfold givS givW; split
 ·have e : decide ((m.tdiv 8).tmod 2 = 1) = decide (8 ≤ m) := by
   have h : m = 4 ∨ m = 5 ∨ m = 6 ∨ m = 7 ∨ m = 8 ∨ m = 9 ∨ m = 10 ∨ m = 11 := by omega
   rcases h with rfl | rfl | rfl | rfl | rfl | rfl | rfl | rfl <;> rfl
  rw [e]; show _ = H ++ jB (sGives :: (labW (decide (8 ≤ m)) :: W))
  rw [jB_cons (by simp), jB_cons hW]; exact ba_ext (by simp [sGives, bl1])
 ·rw [List.nil_append]
theorem show_any : ∀ (x : Nd), IsNd x → szF x ≤ 500 → ShC x := by
 refine nd_ind fun k t m l ih hX hs v w hx => ?_
 have hk := (ng_kids hx).2; have hkid := hX.kids; have hf := hX.form; simp only [szF] at hs; obtain ⟨z1, z2⟩ := sz_mem l; have szk : ∀ y ∈ l, szF y ≤ 500 := fun y hy => by have := z2 y hy; omega
 have hll : l.length ≤ 500 := by omega
 have sh : ∀ y ∈ l, ShC y := fun y hy => ih y hy (hkid y hy) (szk y hy)
 have bd : ∀ y ∈ l, (jB (showW y)).size ≤ 160000 := fun y hy => bd_show y (hkid y hy) (szk y hy) (hk y hy)
 have be : ∀ y ∈ l, ∀ k, (jB (exP k y).2).size ≤ 160000 := fun y hy k => bd_ex y (szk y hy) (hk y hy) k
 have ne : ∀ y ∈ l, showW y ≠ [] := fun y hy => sw_ne y (hkid y hy)
 have n1 : ∀ {a : ByteArray} {r : List ByteArray}, a :: r ≠ [] := fun h => by cases h
 have n2 : ∀ {a : Nd} {r : List Nd}, a :: r ≠ [] := fun h => by cases h
 cases hf with
 | @module _ a b ht ha hb =>
  have hd : ∀ y ∈ a ++ b, y.kd = 2 ∨ y.kd = 3 ∨ y.kd = 4 := fun y hy => by
   rcases List.mem_append.1 hy with h | h
   ·exact .inl (ha y h)
   ·exact .inr (hb y h)
  have e : jB (showW (.mk 1 t 0 (a ++ b))) = modS (a ++ b) ((⟨#[109, 111, 100, 117, 108, 101, 32]⟩ ++ t) ++ ⟨#[32, 59]⟩) := by
   rw [sw_mod rfl, mod_words _ (rng_of_is _ hX) ((mod_form _ (rng_of_is _ hX)).2 ⟨hX, rfl⟩), mod_sp _ _ ne]; show jB (sModule :: t :: sSemi :: declsW (a ++ b)) = _
   rw [decls_flat _ hd]; by_cases hn : a ++ b = []
   ·rw [if_pos hn, hn, List.flatMap_nil, jB_cons n1, jB_cons n1, jB_one]
    exact ba_ext (by simp [sModule, bl1, sSemi])
   ·rw [if_neg hn, jB_cons n1, jB_cons n1, jB_cons (flat_ne hn ne)]
    exact ba_ext (by simp [sModule, bl1, sSemi])
  rw [e]; exact sh_mod _ (by have := name_24 ht; omega) sh hll bd v w hx
 | imp ht =>
  have e : jB (showW (.mk 2 t 0 [])) = (⟨#[105, 109, 112, 111, 114, 116, 32]⟩ ++ t) ++ ⟨#[32, 59]⟩ := by
   show jB [sImport, t, sSemi] = _
   rw [jB_cons n1, jB_cons n1, jB_one]; exact ba_ext (by simp [sImport, bl1, sSemi])
  rw [e]; exact sh_import t (by have := name_24 ht; omega) v w hx
 | var ht h0 h1 =>
  have e : jB (showW (.mk 3 t m [])) = (((pubS m ++ (labW (decide (m.tmod 2 = 1)) ++ bl1)) ++ t) ++ ⟨#[32, 59]⟩) := by
   rw [sw_decl (.inr (.inl rfl)), show declW (.mk 3 t m []) = (varP (.mk 3 t m [])).2 from rfl, w_var ht h0 h1, pub_jB h0 n1, jB_cons n1, jB_cons n1, jB_one, lb2 h0]; exact ba_ext (by simp [bl1, sSemi])
  rw [e]; exact sh_var (by have := name_24 ht; omega) v w hx
 | @array _ _ y ht h0 h1 hy =>
  have hke : KdE y.kd := by rw [hy]; exact ⟨by decide, by decide⟩
  have hne : (exP 0 y).2 ≠ [] := by rw [← sw_ex hke]; exact ne y (by simp)
  have e : jB (showW (.mk 3 t m [y])) = ((((((pubS m ++ (labW (decide (m.tmod 2 = 1)) ++ bl1)) ++ t) ++ ⟨#[32, 91, 32]⟩) ++ jB (showW y)) ++ ⟨#[32, 93]⟩) ++ ⟨#[32, 59]⟩) := by
   rw [sw_decl (.inr (.inl rfl)), show declW (.mk 3 t m [y]) = (varP (.mk 3 t m [y])).2 from rfl, w_arr ht h0 h1 hy (ex_ok (hkid y (by simp)) hke 0), pub_jB h0 n1, jB_cons n1, jB_cons n1, jB_cons (by simp), jB_app hne n1, jB_cons n1, jB_one, lb2 h0, sw_ex hke]; exact ba_ext (by simp [bl1, sSemi, sBra, sKet])
  rw [e]; exact sh_arr (sh y (by simp)) (bd y (by simp)) (by have := name_24 ht; omega) v w hx
 | @proc _ _ ps b ht h0 h1 hp hb =>
  have hps : ∀ y ∈ ps, IsNd y ∧ y.kd = 5 := fun y hy => ⟨hkid y (by simp [hy]), hp y hy⟩
  have hne : (blP b).2 ≠ [] := by rw [← sw_bl hb]; exact ne b (by simp)
  have e : jB (showW (.mk 4 t m (ps ++ [b]))) = givS m (headS m t ps) ++ jB (showW b) := by
   rw [sw_decl (.inr (.inr rfl)), show declW (.mk 4 t m (ps ++ [b])) = (procP (.mk 4 t m (ps ++ [b]))).2 from rfl, w_proc ht h0 h1 hps, sw_bl hb, giv_eq h0 h1 hne, pub_jB h0 n1]; have e2 : sProc :: t :: sOpen :: (parsW ps 0 ++ sClose :: labW (decide (m % 2 = 1)) :: (givW m ++ (blP b).2)) = sProc :: t :: ((sOpen :: (parsW ps 0 ++ [sClose])) ++ (labW (decide (m % 2 = 1)) :: (givW m ++ (blP b).2))) := by simp
   have hgn : givW m ++ (blP b).2 ≠ [] := fun h => hne (List.append_eq_nil_iff.1 h).2
   rw [e2, jB_cons n1, jB_cons (by simp), jB_app n1 n1, jB_cons hgn, ← rnd_pars hp fun y hy => ne y (by simp [hy])]; unfold headS; rw [lb2 h0]; exact ba_ext (by simp [bl1, sProc])
  rw [e]; exact sh_proc (by have := name_24 ht; omega) h0 h1 (by rw [List.length_append] at hll; omega) (fun y hy => sh y (by simp [hy])) (fun y hy => bd y (by simp [hy])) (sh b (by simp)) (bd b (by simp)) v w hx
 | param ht h0 h1 =>
  have e : jB (showW (.mk 5 t m [])) = (labW (decide (m.tmod 2 = 1)) ++ bl1) ++ t := by
   rw [sw_par rfl]; show jB [labW (decide (m = 1)), t] = _
   rw [jB_cons n1, jB_one, lb01 h0 h1]; exact ba_ext (by simp [bl1])
  rw [e]; exact sh_par (by have := name_24 ht; omega) v w hx
 | block hl =>
  have e : jB (showW (.mk 6 noText 0 l)) = if l.length = 0 then ⟨#[123, 32, 125]⟩ else (⟨#[123, 32]⟩ ++ lstS ⟨#[32]⟩ 0 l ⟨#[]⟩) ++ ⟨#[32, 125]⟩ := by
   rw [sw_bl rfl, w_block fun y hy => st_ok (hkid y hy) (hl y hy), sts_flat l hl]; cases l with
   | nil => rfl
   | cons y r =>
    rw [if_neg (by simp), lst_sp0 n2 ne, jB_cons (by simp), jB_app (flat_ne n2 ne) n1, jB_one]; exact ba_ext (by simp [bl1, sCurl, sLruc])
  rw [e]; exact sh_block l sh hll bd v w hx
 | @loc _ _ x ht h0 h1 hx2 =>
  have hne : (exP 0 x).2 ≠ [] := by rw [← sw_ex hx2]; exact ne x (by simp)
  have e : jB (showW (.mk 7 t m [x])) = (((((labW (decide (m.tmod 2 = 1)) ++ bl1) ++ t) ++ ⟨#[32, 61, 32]⟩) ++ jB (showW x)) ++ ⟨#[32, 59]⟩) := by
   rw [sw_st (ks (by decide)), w_loc ht h0 h1 (ex_ok (hkid x (by simp)) hx2 0), jB_cons n1, jB_cons n1, jB_cons (by simp), jB_app hne n1, jB_one, lb01 h0 h1, sw_ex hx2]; exact ba_ext (by simp [bl1, sEq, sSemi])
  rw [e]; exact sh_loc (sh x (by simp)) (bd x (by simp)) (by have := name_24 ht; omega) v w hx
 | @set p x hp hx2 =>
  have hp2 := ndis.kp_ke hp; have hne : (exP 0 x).2 ≠ [] := by rw [← sw_ex hx2]; exact ne x (by simp)
  have hne2 : (exP 0 p).2 ≠ [] := by rw [← sw_ex hp2]; exact ne p (by simp)
  have e : jB (showW (.mk 8 noText 0 [p, x])) = (((jB (showW p) ++ ⟨#[32, 61, 32]⟩) ++ jB (showW x)) ++ ⟨#[32, 59]⟩) := by
   rw [sw_st (ks (by decide)), w_set hp (ex_ok (hkid p (by simp)) hp2 0) (ex_ok (hkid x (by simp)) hx2 0), jB_app hne2 n1, jB_cons (by simp), jB_app hne n1, jB_one, sw_ex hx2, sw_ex hp2]; exact ba_ext (by simp [bl1, sEq, sSemi])
  rw [e]; exact sh_set (sh p (by simp)) (bd p (by simp)) (sh x (by simp)) (bd x (by simp)) v w hx
 | @do_ c hc =>
  have hc2 : KdE c.kd := by rw [hc]; exact ⟨by decide, by decide⟩
  have hne : (exP 0 c).2 ≠ [] := by rw [← sw_ex hc2]; exact ne c (by simp)
  have e : jB (showW (.mk 9 noText 0 [c])) = (⟨#[100, 111, 32]⟩ ++ jB (showW c)) ++ ⟨#[32, 59]⟩ := by
   rw [sw_st (ks (by decide)), w_do hc (ex_ok (hkid c (by simp)) hc2 0), jB_cons (by simp), jB_app hne n1, jB_one, sw_ex hc2]; exact ba_ext (by simp [bl1, sDo, sSemi])
  rw [e]; exact sh_do (sh c (by simp)) (bd c (by simp)) v w hx
 | @if2 x b hx2 hb =>
  have hne : (exP 0 x).2 ≠ [] := by rw [← sw_ex hx2]; exact ne x (by simp)
  have hne2 : (blP b).2 ≠ [] := by rw [← sw_bl hb]; exact ne b (by simp)
  have e : jB (showW (.mk 10 noText 0 [x, b])) = (((⟨#[105, 102, 32, 40, 32]⟩ ++ jB (showW x)) ++ ⟨#[32, 41, 32]⟩) ++ jB (showW b)) := by
   rw [sw_st (ks (by decide)), w_if2 (ex_ok (hkid x (by simp)) hx2 0) (bl_ok (hkid b (by simp)) hb), jB_cons n1, jB_cons (by simp), jB_app hne n1, jB_cons hne2, sw_ex hx2, sw_bl hb]; exact ba_ext (by simp [bl1, sIf, sOpen, sClose])
  rw [e]; exact sh_if2 (sh x (by simp)) (bd x (by simp)) (sh b (by simp)) (bd b (by simp)) v w hx
 | @if3 x b c hx2 hb hc =>
  have hne : (exP 0 x).2 ≠ [] := by rw [← sw_ex hx2]; exact ne x (by simp)
  have hne2 : (blP b).2 ≠ [] := by rw [← sw_bl hb]; exact ne b (by simp)
  have hne3 : (blP c).2 ≠ [] := by rw [← sw_bl hc]; exact ne c (by simp)
  have e : jB (showW (.mk 10 noText 0 [x, b, c])) = ((((⟨#[105, 102, 32, 40, 32]⟩ ++ jB (showW x)) ++ ⟨#[32, 41, 32]⟩) ++ jB (showW b)) ++ ⟨#[32, 101, 108, 115, 101, 32]⟩) ++ jB (showW c) := by
   rw [sw_st (ks (by decide)), w_if3 (ex_ok (hkid x (by simp)) hx2 0) (bl_ok (hkid b (by simp)) hb) (bl_ok (hkid c (by simp)) hc), jB_cons n1, jB_cons (by simp), jB_app hne n1, jB_cons (by simp), jB_app hne2 n1, jB_cons hne3, sw_ex hx2, sw_bl hb, sw_bl hc]; exact ba_ext (by simp [bl1, sIf, sOpen, sClose, sElse])
  rw [e]; exact sh_if3 (sh x (by simp)) (bd x (by simp)) (sh b (by simp)) (bd b (by simp)) (sh c (by simp)) (bd c (by simp)) v w hx
 | @while_ x b hx2 hb =>
  have hne : (exP 0 x).2 ≠ [] := by rw [← sw_ex hx2]; exact ne x (by simp)
  have hne2 : (blP b).2 ≠ [] := by rw [← sw_bl hb]; exact ne b (by simp)
  have e : jB (showW (.mk 11 noText 0 [x, b])) = (((⟨#[119, 104, 105, 108, 101, 32, 40, 32]⟩ ++ jB (showW x)) ++ ⟨#[32, 41, 32]⟩) ++ jB (showW b)) := by
   rw [sw_st (ks (by decide)), w_while (ex_ok (hkid x (by simp)) hx2 0) (bl_ok (hkid b (by simp)) hb), jB_cons n1, jB_cons (by simp), jB_app hne n1, jB_cons hne2, sw_ex hx2, sw_bl hb]; exact ba_ext (by simp [bl1, sWhile, sOpen, sClose])
  rw [e]; exact sh_while (sh x (by simp)) (bd x (by simp)) (sh b (by simp)) (bd b (by simp)) v w hx
 | @out _ x h0 h1 hx2 =>
  have hne : (exP 0 x).2 ≠ [] := by rw [← sw_ex hx2]; exact ne x (by simp)
  have e : jB (showW (.mk 12 noText m [x])) = (((⟨#[111, 117, 116, 32]⟩ ++ (labW (decide (m.tmod 2 = 1)) ++ bl1)) ++ jB (showW x)) ++ ⟨#[32, 59]⟩) := by
   rw [sw_st (ks (by decide)), w_out h0 h1 (ex_ok (hkid x (by simp)) hx2 0), jB_cons n1, jB_cons (by simp), jB_app hne n1, jB_one, lb01 h0 h1, sw_ex hx2]; exact ba_ext (by simp [bl1, sOut, sSemi])
  rw [e]; exact sh_out (sh x (by simp)) (bd x (by simp)) v w hx
 | @inp _ x h0 h1 hp =>
  have hx2 := ndis.kp_ke hp; have hne : (exP 0 x).2 ≠ [] := by rw [← sw_ex hx2]; exact ne x (by simp)
  have e : jB (showW (.mk 13 noText m [x])) = (((⟨#[105, 110, 32]⟩ ++ (labW (decide (m.tmod 2 = 1)) ++ bl1)) ++ jB (showW x)) ++ ⟨#[32, 59]⟩) := by
   rw [sw_st (ks (by decide)), w_inp h0 h1 hp (ex_ok (hkid x (by simp)) hx2 0), jB_cons n1, jB_cons (by simp), jB_app hne n1, jB_one, lb01 h0 h1, sw_ex hx2]; exact ba_ext (by simp [bl1, sIn, sSemi])
  rw [e]; exact sh_in (sh x (by simp)) (bd x (by simp)) v w hx
 | @ret x hx2 =>
  have hne : (exP 0 x).2 ≠ [] := by rw [← sw_ex hx2]; exact ne x (by simp)
  have e : jB (showW (.mk 14 noText 0 [x])) = (⟨#[114, 101, 116, 117, 114, 110, 32]⟩ ++ jB (showW x)) ++ ⟨#[32, 59]⟩ := by
   rw [sw_st (ks (by decide)), w_ret (ex_ok (hkid x (by simp)) hx2 0), jB_cons (by simp), jB_app hne n1, jB_one, sw_ex hx2]; exact ba_ext (by simp [bl1, sReturn, sSemi])
  rw [e]; exact sh_ret (sh x (by simp)) (bd x (by simp)) v w hx
 | num h0 h1 =>
  have e : jB (showW (.mk 15 noText m [])) = digW m := by rw [sw_ex (ke (by decide)), w_num _ h0, jB_one]
  rw [e]; exact sh_num h0 h1 v w hx
 | name ht =>
  have e : jB (showW (.mk 16 t 0 [])) = jB (wholeW t) := by rw [sw_ex (ke (by decide)), w_name _ ht]
  rw [e]; exact sh_name ht (whole_24 ht).1 v w hx
 | @item _ x ht hx2 =>
  have hne : (exP 0 x).2 ≠ [] := by rw [← sw_ex hx2]; exact ne x (by simp)
  obtain ⟨w1, ws, ew, -⟩ := whole_head ht
  have e : jB (showW (.mk 17 t 0 [x])) = (((jB (wholeW t) ++ ⟨#[32, 91, 32]⟩) ++ jB (showW x)) ++ ⟨#[32, 93]⟩) := by
   rw [sw_ex (ke (by decide)), w_item _ ht (ex_ok (hkid x (by simp)) hx2 0), jB_app (by rw [ew]; exact n1) n1, jB_cons (by simp), jB_app hne n1, jB_one, sw_ex hx2]; exact ba_ext (by simp [bl1, sBra, sKet])
  rw [e]; exact sh_item (sh x (by simp)) (bd x (by simp)) ht (whole_24 ht).1 (whole_24 ht).2 v w hx
 | call ht hl =>
  obtain ⟨w1, ws, ew, -⟩ := whole_head ht
  have e : jB (showW (.mk 18 t 0 l)) = (jB (wholeW t) ++ ⟨#[32]⟩) ++ rndS l := by
   rw [sw_ex (ke (by decide)), w_call _ ht fun y hy => ex_ok (hkid y hy) (hl y hy) 0, jB_app (by rw [ew]; exact n1) n1, ← rnd_com (fun y hy => ⟨hl y hy, ex_ok (hkid y hy) (hl y hy) 0⟩) ne]; exact ba_ext (by simp [bl1])
  rw [e]; exact sh_call l ht (whole_24 ht).1 (whole_24 ht).2 sh hll bd v w hx
 | @op _ x y h0 h1 hx2 hy2 =>
  obtain ⟨o1, -, -, -, -, o2⟩ := sign_opOf h0 h1
  have hneX : ∀ k, (exP k x).2 ≠ [] := fun k => by
   obtain ⟨w1, ws, ew, -⟩ := ex_head x k (rng_of_is x (hkid x (by simp))) (hkid x (by simp)) hx2; rw [ew]; exact n1
  have hneY : ∀ k, (exP k y).2 ≠ [] := fun k => by
   obtain ⟨w1, ws, ew, -⟩ := ex_head y k (rng_of_is y (hkid y (by simp))) (hkid y (by simp)) hy2; rw [ew]; exact n1
  have hsz : (signF m).1.size ≤ 2 := by
   have h : m = 1 ∨ m = 2 ∨ m = 3 ∨ m = 4 ∨ m = 5 ∨ m = 6 ∨ m = 7 ∨ m = 8 ∨ m = 9 := by omega
   rcases h with rfl | rfl | rfl | rfl | rfl | rfl | rfl | rfl | rfl <;> decide
  have e : jB (showW (.mk 19 noText m [x, y])) = (((jB (exP (leftL m) x).2 ++ ⟨#[32]⟩) ++ (signF m).1) ++ ⟨#[32]⟩) ++ jB (exP ((signF m).2 + 1) y).2 := by
   rw [sw_ex (ke (by decide)), w_op _ h0 h1 (ex_ok (hkid x (by simp)) hx2 _), if_neg (show ¬ (signF m).2 < 0 by omega)]; unfold opW; rw [jB_app (hneX _) n1, jB_cons (hneY _)]; exact ba_ext (by simp [bl1])
  rw [e]; exact sh_op (m := m) (lv := (signF m).2) (lf := leftL m) (sg := (signF m).1) rfl rfl (by omega) (by omega) hsz (hkid x (by simp)) hx2 (hkid y (by simp)) hy2 (sh x (by simp)) (sh y (by simp)) (be x (by simp) 0) (be y (by simp) 0) (be x (by simp) _) (be y (by simp) _) v w hx
 | @neg x hx2 =>
  obtain ⟨w1, ws, ew, -⟩ := ex_head x 3 (rng_of_is x (hkid x (by simp))) (hkid x (by simp)) hx2
  have e : jB (showW (.mk 20 noText 0 [x])) = ⟨#[45, 32]⟩ ++ jB (exP 3 x).2 := by
   rw [sw_ex (ke (by decide)), w_neg, jB_cons (by rw [ew]; exact n1)]; exact ba_ext (by simp [bl1, sMinus])
  rw [e]; exact sh_neg (hkid x (by simp)) hx2 (sh x (by simp)) (be x (by simp) 0) (be x (by simp) 3) v w hx
 | @not_ x hx2 =>
  obtain ⟨w1, ws, ew, -⟩ := ex_head x 3 (rng_of_is x (hkid x (by simp))) (hkid x (by simp)) hx2
  have e : jB (showW (.mk 21 noText 0 [x])) = ⟨#[33, 32]⟩ ++ jB (exP 3 x).2 := by
   rw [sw_ex (ke (by decide)), w_not, jB_cons (by rw [ew]; exact n1)]; exact ba_ext (by simp [bl1, sNot])
  rw [e]; exact sh_not (hkid x (by simp)) hx2 (sh x (by simp)) (be x (by simp) 0) (be x (by simp) 3) v w hx
end rpr
end Go.Proofs.YtpcihajmcejliabGreatDoor
namespace Go.Proofs.YtpcihajmcejliabGreatDoor
open Go.RowKit
def kfF (k last i prev kind : Int) : Bool :=
 if k = 1 then (if kind = 2 then decide (i = 0) || decide (prev = 2) else decide (kind = 3) || decide (kind = 4))
 else if k = 3 then decide (kind = 15)
 else if k = 4 then (if i = last then decide (kind = 6) else decide (kind = 5))
 else if k = 6 then decide (7 ≤ kind) && decide (kind ≤ 14)
 else if (k = 10 ∨ k = 11) ∧ 0 < i then decide (kind = 6)
 else if k = 8 ∧ i = 0 then decide (kind = 16) || decide (kind = 17)
 else if k = 13 then decide (kind = 16) || decide (kind = 17)
 else if k = 9 then decide (kind = 18)
 else decide (15 ≤ kind) && decide (kind ≤ 21)
namespace rpr
open synw synr prt
theorem beqd (a b : Int) : (a == b) = decide (a = b) := by by_cases h : a = b <;> simp [h]
set_option maxRecDepth 100000 in
theorem isExpr_any (k : Int) (w : World) : Calls Tryz.prog 238 #[.int .i64 k] w fun e w' => e = .returned (.bool (decide (15 ≤ k) && decide (k ≤ 21))) ∧ Ext w w' := by
 by_cases h : 15 ≤ k
 ·have hd : decide (15 ≤ k) = true := by simpa using h
  rw [hd]; go_enter Tryz.func238, Tryz.ntmps238
  go_wp2_with fail
  go_ret
  exact ⟨by simp, Chg.refl _ _⟩
 ·have hd : decide (15 ≤ k) = false := by simpa using h
  rw [hd]; go_enter Tryz.func238, Tryz.ntmps238
  go_wp2_with fail
  go_ret
  exact ⟨by simp, Chg.refl _ _⟩
set_option maxRecDepth 100000 in
theorem isStat_any (k : Int) (w : World) : Calls Tryz.prog 237 #[.int .i64 k] w fun e w' => e = .returned (.bool (decide (7 ≤ k) && decide (k ≤ 14))) ∧ Ext w w' := by
 by_cases h : 7 ≤ k
 ·have hd : decide (7 ≤ k) = true := by simpa using h
  rw [hd]; go_enter Tryz.func237, Tryz.ntmps237
  go_wp2_with fail
  go_ret
  exact ⟨by simp, Chg.refl _ _⟩
 ·have hd : decide (7 ≤ k) = false := by simpa using h
  rw [hd]; go_enter Tryz.func237, Tryz.ntmps237
  go_wp2_with fail
  go_ret
  exact ⟨by simp, Chg.refl _ _⟩
set_option maxRecDepth 100000 in
set_option maxHeartbeats 8000000 in
theorem kinds_any (k m : Int) (t : ByteArray) (a : Option Addr) (N cc : Nat) (q : Nat) (kind prev : Int) (w : World) (hN : N ≤ 9223372036854775807) (hq : q < N) (hp : 0 < q → ∃ b o, a = some ⟨b, o, none⟩ ∧ w.cell? ⟨b, o + (q - 1) * 4, none⟩ = some (.int .i64 prev)) :
  Calls Tryz.prog 176 #[.agg #[.int .i64 k, .string t, .int .i64 m, .slice a N cc], .int .i64 (q : Nat), .int .i64 kind] w fun e w' => e = .returned (.bool (kfF k ((N : Int) - 1) q prev kind)) ∧ Ext w w' := by
 have hX := (Chg.refl (fun _ => False) w).alloc (.cells #[.int .i64 k, .string t, .int .i64 m, .slice a N cc] 66); have hA := Blk.made w #[.int .i64 k, .string t, .int .i64 m, .slice a N cc] 66
 have HP : Hid (∀ (u : World), Ext w u → 0 < q → ∃ b o, a = some ⟨b, o, none⟩ ∧ u.cell? ⟨b, o + (q - 1) * 4, none⟩ = some (.int .i64 prev)) := by
  intro u hE h; obtain ⟨b, o, e, hc⟩ := hp h; exact ⟨b, o, e, (hE.cell (p := ⟨b, o + (q - 1) * 4, none⟩) (World.block_lt_of_cell? w _ hc) id).trans hc⟩
 have hw : IntKind.i64.wrap ((N : Int) - 1) = (N : Int) - 1 := wrap_small _ (by omega) (by omega); have hw2 : wrap64 ((N : Int) - 1) = (N : Int) - 1 := by unfold wrap64; omega
 obtain ⟨P, hP⟩ : ∃ P, w.heap.size = P := ⟨_, rfl⟩; rw [hP] at hA; have HX := Z_ hX; have HA := Z_ hA; obtain ⟨T, hT⟩ : ∃ T, kfF k ((N : Int) - 1) q prev kind = T := ⟨_, rfl⟩; rw [hT]; have HT := Z_ hT; clear hX hA hp hT; go_enter Tryz.func176, Tryz.ntmps176
 go_upto_region 1 with (fail)
 try rw [hP]
 generalize w.alloc (.cells #[.int .i64 k, .string t, .int .i64 m, .slice a N cc] 66) = w1 at *; clear hP; have q1 := HA.out.cell; by_cases h1 : k = 1
 ·subst h1
  by_cases hk2 : kind = 2
  ·subst hk2
   by_cases hq0 : q = 0
   ·subst hq0
    go_wp2_with fail
    go_ret
    exact ⟨by rw [← HT.out]; rfl, HX.out⟩
   ·obtain ⟨b, o, rfl, hc⟩ := HP.out w1 HX.out (by omega)
    have hqi : ((q : Int) == 0) = false := by simp; omega
    have hwq : IntKind.i64.wrap ((q : Int) - 1) = ((q - 1 : Nat) : Int) := by rw [wrap_small _ (by omega) (by omega)]; omega
    have hwq2 : wrap64 ((q : Int) - 1) = ((q - 1 : Nat) : Int) := by unfold wrap64; omega
    have hlt : q - 1 < N := by omega
    have hlti : ((q - 1 : Nat) : Int) < (N : Int) := by omega
    go_wp2_with fail
    go_ret
    exact ⟨by rw [← HT.out]; unfold kfF; simp [beqd, hq0], HX.out⟩
  ·have hkf : (kind == 2) = false := by simpa using hk2
   by_cases hk3 : kind = 3
   ·subst hk3
    go_wp2_with fail
    go_ret
    exact ⟨by rw [← HT.out]; rfl, HX.out⟩
   ·have hk3f : (kind == 3) = false := by simpa using hk3
    go_wp2_with fail
    go_ret
    exact ⟨by rw [← HT.out]; unfold kfF; simp [beqd, hk2, hk3], HX.out⟩
 have f1 : (k == 1) = false := by simpa using h1
 by_cases h3 : k = 3
 ·subst h3
  go_wp2_with fail
  go_ret
  exact ⟨by rw [← HT.out]; unfold kfF; simp [beqd], HX.out⟩
 have f3 : (k == 3) = false := by simpa using h3
 by_cases h4 : k = 4
 ·subst h4
  by_cases hl : (q : Int) = (N : Int) - 1
  ·have hlf : ((q : Int) == (N : Int) - 1) = true := by simpa using hl
   go_wp2_with fail
   go_ret
   exact ⟨by rw [← HT.out]; unfold kfF; simp [beqd, hl], HX.out⟩
  ·have hlf : ((q : Int) == (N : Int) - 1) = false := by simpa using hl
   go_wp2_with fail
   go_ret
   exact ⟨by rw [← HT.out]; unfold kfF; simp [beqd, hl], HX.out⟩
 have f4 : (k == 4) = false := by simpa using h4
 by_cases h6 : k = 6
 ·subst h6
  go_wp2_with fail
  refine (isStat_any kind w1).mono ?_
  rintro e w2 ⟨rfl, hE⟩; go_wp2_with fail
  go_ret
  exact ⟨by rw [← HT.out]; rfl, HX.out.ext hE⟩
 have f6 : (k == 6) = false := by simpa using h6
 have rest : ∀ (u : World), Ext w u → kfF k ((N : Int) - 1) q prev kind = (decide (15 ≤ kind) && decide (kind ≤ 21)) → Calls Tryz.prog 238 #[.int .i64 kind] u fun e w' => e = .returned (.bool T) ∧ Ext w w' := fun u hE h => (isExpr_any kind u).mono fun e w' ⟨h1, h2⟩ => ⟨by rw [h1, ← h, HT.out], hE.ext h2⟩
 have REST := Z_ rest; clear rest; by_cases h10 : k = 10
 ·subst h10
  by_cases hq0 : q = 0
  ·subst hq0
   go_wp2_with fail
   refine (REST.out w1 HX.out rfl).mono ?_
   rintro e w2 ⟨rfl, hE⟩; go_wp2_with fail
   go_ret
   exact ⟨rfl, hE⟩
  ·have hqi : (0 : Int) < (q : Int) := by omega
   have hqd : decide ((0 : Int) < (q : Int)) = true := by simpa using hqi
   go_wp2_with fail
   go_ret
   exact ⟨by rw [← HT.out]; unfold kfF; simp [beqd]; intro h; omega, HX.out⟩
 have f10 : (k == 10) = false := by simpa using h10
 by_cases h11 : k = 11
 ·subst h11
  by_cases hq0 : q = 0
  ·subst hq0
   go_wp2_with fail
   refine (REST.out w1 HX.out rfl).mono ?_
   rintro e w2 ⟨rfl, hE⟩; go_wp2_with fail
   go_ret
   exact ⟨rfl, hE⟩
  ·have hqi : (0 : Int) < (q : Int) := by omega
   have hqd : decide ((0 : Int) < (q : Int)) = true := by simpa using hqi
   go_wp2_with fail
   go_ret
   exact ⟨by rw [← HT.out]; unfold kfF; simp [beqd]; intro h; omega, HX.out⟩
 have f11 : (k == 11) = false := by simpa using h11
 by_cases h8 : k = 8
 ·subst h8
  by_cases hq0 : q = 0
  ·subst hq0
   by_cases hk : kind = 16
   ·subst hk
    go_wp2_with fail
    go_ret
    exact ⟨by rw [← HT.out]; rfl, HX.out⟩
   ·have hkf : (kind == 16) = false := by simpa using hk
    go_wp2_with fail
    go_ret
    exact ⟨by rw [← HT.out]; unfold kfF; simp [beqd, hk], HX.out⟩
  ·have hqi : ((q : Int) == 0) = false := by simp; omega
   go_wp2_with fail
   refine (REST.out w1 HX.out (by unfold kfF; simp [hq0])).mono ?_
   rintro e w2 ⟨rfl, hE⟩; go_wp2_with fail
   go_ret
   exact ⟨rfl, hE⟩
 have f8 : (k == 8) = false := by simpa using h8
 by_cases h13 : k = 13
 ·subst h13
  by_cases hk : kind = 16
  ·subst hk
   go_wp2_with fail
   go_ret
   exact ⟨by rw [← HT.out]; rfl, HX.out⟩
  ·have hkf : (kind == 16) = false := by simpa using hk
   go_wp2_with fail
   go_ret
   exact ⟨by rw [← HT.out]; unfold kfF; simp [beqd, hk], HX.out⟩
 have f13 : (k == 13) = false := by simpa using h13
 by_cases h9 : k = 9
 ·subst h9
  go_wp2_with fail
  go_ret
  exact ⟨by rw [← HT.out]; unfold kfF; simp [beqd], HX.out⟩
 have f9 : (k == 9) = false := by simpa using h9
 have hrest := REST.out w1 HX.out (by unfold kfF; simp [h1, h3, h4, h6, h10, h11, h8, h13, h9]); have HR := Z_ hrest; clear hrest h1 h3 h4 h6 h10 h11 h8 h13 h9; go_wp2_with fail
 refine HR.out.mono ?_
 rintro e w2 ⟨rfl, hE⟩; go_wp2_with fail
 go_ret
 exact ⟨rfl, hE⟩
end rpr
end Go.Proofs.YtpcihajmcejliabGreatDoor
