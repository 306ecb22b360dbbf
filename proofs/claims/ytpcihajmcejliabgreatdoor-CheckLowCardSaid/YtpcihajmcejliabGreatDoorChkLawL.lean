/- A fault of the checker has a code that is not 0: plain Lean. The walk of Check. Where no label is high nothing high comes to something low: plain Lean. The walk of the law's 'high'. The walk of the law CheckLow. -/
import Derived.Test.YtpcihajmcejliabGreatDoorOfS
import Derived.Test.YtpcihajmcejliabGreatDoorSynK
import Derived.Test.YtpcihajmcejliabGreatDoorChkW
import Derived.Test.YtpcihajmcejliabGreatDoorOfD
import Derived.Test.YtpcihajmcejliabGreatDoorFaceEq
namespace Go.Proofs.YtpcihajmcejliabGreatDoor
open Go.RowKit
namespace chkz
structure NZ {α : Type} (r : Rz α) : Prop where
 out : ∀ p, r ≠ .bad 0 p
theorem z_ok {α : Type} (x : α) : NZ (.ok x) := ⟨fun _ h => by cases h⟩
theorem z_bad {α : Type} {c : Int} (p : Nat) (h : c ≠ 0) : NZ (.bad c p : Rz α) := ⟨fun _ e => by cases e; exact h rfl⟩
theorem z_bind {α β : Type} {r : Rz α} {f : α → Rz β} (h : NZ r) (hf : ∀ x, NZ (f x)) : NZ (r.bind f) := by
 cases r with
 | bad c p => exact ⟨fun q e => h.out q (by cases e; rfl)⟩
 | ok x => exact hf x
theorem z_ite {α : Type} {P : Prop} [Decidable P] {a b : Rz α} (ha : NZ a) (hb : NZ b) : NZ (if P then a else b) := by
 split
 ·exact ha
 ·exact hb
theorem var_z (E : CEnv) (L : List Loc) (t : ByteArray) (p : Nat) : NZ (varF E L t p) := by
 unfold varF; split
 ·exact z_ok _
 ·split
  ·split
   ·exact z_ok _
   ·exact z_bad _ (by decide)
  ·exact z_bad _ (by decide)
theorem call_z (E : CEnv) (ctx : Int) (alone : Bool) (t : ByteArray) (ks : List Tr) (p : Nat) : NZ (callF E ctx alone t ks p) := by
 unfold callF callG; split
 ·exact z_bad _ (by decide)
 ·exact z_ite (z_bad _ (by decide)) (z_ite (z_bad _ (by decide)) (z_ite (z_bad _ (by decide)) (z_ite (z_bad _ (by decide)) (z_ok _))))
theorem fin_z (E : CEnv) (L : List Loc) (ctx : Int) (alone : Bool) (k : Int) (t : ByteArray) (m : Int) (ks : List Tr) (p : Nat) : NZ (finF E L ctx alone k t m ks p) := by
 unfold finF; exact z_ite (z_bind (var_z ..) fun r => z_ite (z_ok _) (z_bad _ (by decide))) (z_ite (z_bind (call_z ..) fun r => z_ok _) (z_ok _))
theorem exs_z (E : CEnv) (L : List Loc) (ctx : Int) : ∀ (l : List Nd), (∀ x ∈ l, ∀ alone p, NZ (exF E L ctx alone x p)) → ∀ p, NZ (exsF E L ctx l p) := by
 intro l; induction l with
 | nil => intro _ p; rw [exsF]; exact z_ok _
 | cons x r ih =>
  intro h p; rw [exsF]; exact z_bind (h x (List.mem_cons_self ..) false p) fun y => z_bind (ih (fun z hz => h z (List.mem_cons_of_mem _ hz)) _) fun ys => z_ok _
theorem ex_z (E : CEnv) (L : List Loc) (ctx : Int) : ∀ (x : Nd) (alone : Bool) (p : Nat), NZ (exF E L ctx alone x p) := by
 refine nd_ind fun k t m l ih alone p => ?_
 rw [exF]; exact z_bind (exs_z E L ctx l ih _) fun ks => fin_z ..
theorem end_z (pr : FProc) (L : List Loc) (deep ctx : Int) (last : Bool) (k : Int) (t : ByteArray) (m : Int) (ks : List Tr) (p : Nat) : NZ (endF pr L deep ctx last k t m ks p) := by
 unfold endF
 repeat' refine z_ite ?_ ?_
 all_goals first
  | exact z_bad _ (by decide)
  | exact z_ok _
theorem stks_z (E : CEnv) (pr : FProc) (ctx : Int) (alone : Bool) (L : List Loc) (deep : Int) : ∀ (l : List Nd), (∀ x ∈ l, ∀ c o L d p, NZ (blF E pr c o L d x p)) → ∀ b p, NZ (stksF E pr ctx alone L deep l b p) := by
 intro l; induction l with
 | nil => intro _ b p; rw [stksF]; exact z_ok _
 | cons x r ih =>
  intro h b p; rw [stksF]; exact z_bind (z_ite (h x (List.mem_cons_self ..) ..) (ex_z ..)) fun y => z_bind (ih (fun z hz => h z (List.mem_cons_of_mem _ hz)) _ _) fun ys => z_ok _
theorem sts_z (E : CEnv) (pr : FProc) (ctx : Int) (outer : Bool) (deep : Int) : ∀ (l : List Nd), (∀ x ∈ l, ∀ c o L d p, NZ (stF E pr c o L d x p)) → ∀ L p, NZ (stsF E pr ctx outer L deep l p) := by
 intro l; induction l with
 | nil => intro _ L p; rw [stsF]; exact z_ok _
 | cons x r ih =>
  intro h L p; rw [stsF]; exact z_bind (h x (List.mem_cons_self ..) ..) fun y => z_bind (ih (fun z hz => h z (List.mem_cons_of_mem _ hz)) _ _) fun ys => z_ok _
theorem both_z (E : CEnv) (pr : FProc) : ∀ (x : Nd), (∀ c o L d p, NZ (stF E pr c o L d x p)) ∧ ∀ c o L d p, NZ (blF E pr c o L d x p) := by
 refine nd_ind fun k t m l ih => ⟨fun c o L d p => ?_, fun c o L d p => ?_⟩
 ·rw [stF]
  exact z_bind (stks_z E pr c _ L d l (fun x hx => (ih x hx).2) _ _) fun ks => end_z ..
 ·rw [blF]
  exact z_bind (sts_z E pr c o d l (fun x hx => (ih x hx).1) _ _) fun ks => z_ok _
theorem body_z (E : CEnv) (pr : FProc) (x : Nd) (p : Nat) : NZ (bodyF E pr x p) := by
 unfold bodyF; exact z_bind ((both_z E pr _).2 ..) fun b => z_ite (z_bad _ (by decide)) (z_ok _)
theorem mod_z (own : FFace) (G : List (ByteArray × FFace)) : ∀ (l : List Nd), (∀ x ∈ l, x.kd = 2 ∨ x.kd = 3 ∨ x.kd = 4) → ∀ K B p, NZ (modF_ own G l K (procsF l) B p) := by
 intro l; induction l with
 | nil => intro _ K B p; rw [modF_]; exact z_ok _
 | cons x r ih =>
  intro h K B p; have ih2 := ih (fun z hz => h z (List.mem_cons_of_mem _ hz)); have hk := h x (List.mem_cons_self ..); by_cases h4 : x.kd = 4
  ·have e : procsF (x :: r) = procOf x :: procsF r := by unfold procsF; rw [List.filter_cons, if_pos (show isProc x = true from by unfold isProc; simpa using h4)]; rfl
   rw [e, modF_, if_neg (by omega), if_neg (by omega)]; exact z_bind (body_z ..) fun b => ih2 _ _ _
  ·have e : procsF (x :: r) = procsF r := by unfold procsF; rw [List.filter_cons, if_neg (show ¬ isProc x = true from by unfold isProc; simpa using h4)]
   rw [e]; unfold modF_; by_cases h2 : x.kd = 2
   ·rw [if_pos h2]
    split
    ·exact z_bad _ (by decide)
    ·exact ih2 _ _ _
   ·rw [if_neg h2, if_pos (by omega)]
    exact ih2 _ _ _
theorem check_z {s : ByteArray} {l : List FFace} (h : (ofR s).2.2.1 = 0 → ∀ x ∈ (parseR s).1.kids, x.kd = 2 ∨ x.kd = 3 ∨ x.kd = 4) : NZ (checkF s l) := by
 unfold checkF; split
 ·exact z_bad _ (by decide)
 ·by_cases h0 : (ofR s).2.2.1 = 0
  ·rw [if_pos h0]
   exact z_bind (mod_z _ _ _ (h h0) _ _ _) fun r => z_ok _
  ·rw [if_neg h0]
   exact z_bad _ h0
end chkz
end Go.Proofs.YtpcihajmcejliabGreatDoor
namespace Go.Proofs.YtpcihajmcejliabGreatDoor
open Go.RowKit
namespace chk
open synw ofp
def codeT {α : Type} (T : Rz α) : Int := match T with
 | .bad c _ => c
 | .ok _ => 0
def nodeT {α : Type} (T : Rz (Nd × α)) : Nd := match T with
 | .bad _ _ => zeroN
 | .ok r => r.1
def posT {α : Type} (P : Int) (T : Rz α) : Int := match T with
 | .bad _ _ => P
 | .ok _ => 0
def CheckPost (w : World) (P : Int) (T : Rz (Nd × List (ByteArray × FFace) × List (FProc × Tr))) (e : Ending) (w' : World) : Prop := Ext w w' ∧ ∃ v, e = .returned (.tuple #[v, .agg #[.int .i64 (codeT T), .int .i64 (posT P T)]]) ∧ NdAt w' (nodeT T) v
def CesF (R F : Nat) (nc fc : Array Value) (u0 : World) : List Value → World → Prop
 | [], u => Blk u R #[.int .i64 0, .string ⟨#[]⟩, .int .i64 0, .slice none 0 0] 66 ∧ Blk u F #[.int .i64 0, .int .i64 0] 68 ∧ Chg (fun i => i = R ∨ i = F) u0 u
 | [_], u => Blk u R nc 66 ∧ Blk u F #[.int .i64 0, .int .i64 0] 68 ∧ Chg (fun i => i = R ∨ i = F) u0 u
 | _, u => Blk u R nc 66 ∧ Blk u F fc 68 ∧ Chg (fun i => i = R ∨ i = F) u0 u
theorem CesF.c {R F : Nat} {nc fc : Array Value} {u0 : World} {vs : List Value} {u : World} (h : CesF R F nc fc u0 vs u) : Chg (fun i => i = R ∨ i = F) u0 u := by
 match vs, h with
 | [], h => exact h.2.2
 | [_], h => exact h.2.2
 | _ :: _ :: _, h => exact h.2.2
theorem zero_at (w : World) : NdAt w zeroN (.agg #[.int .i64 0, .string ⟨#[]⟩, .int .i64 0, .slice none 0 0]) := by
 unfold zeroN; rw [ndAt_mk]; exact ⟨none, 0, rfl, Nat.le_refl _, by decide, by decide, fun j hj => by cases hj⟩
set_option maxRecDepth 100000 in
set_option maxHeartbeats 8000000 in
theorem check_any (s : ByteArray) (w : World) (l : List FFace) (a : Option Addr) (c : Nat) (hs : s.size ≤ 9223372036854775807) (hv : ErrVar w) (hm : MaxVar w) (hl : AllIn 3 FaceIn w a l) (hlc : l.length ≤ c) (hcm : c ≤ maxLen) (hsum : ∀ f ∈ l, f.vars.length + f.procs.length < maxLen) :
  Calls Tryz.prog 34 #[.string s, .slice a l.length c] w (CheckPost w (posC s (givenF l [])) (checkF s l)) := by
 have hnz : chkz.NZ (checkF s l) := chkz.check_z fun h => fun x hx => ((text_ok h).1 x hx).2.1
 obtain ⟨R, hR⟩ : ∃ R, w.heap.size = R := ⟨_, rfl⟩; obtain ⟨F, hF⟩ : ∃ F, R + 1 = F := ⟨_, rfl⟩; have hR0 := (Blk.made w #[.int .i64 0, .string ⟨#[]⟩, .int .i64 0, .slice none 0 0] 66).alloc (.cells #[.int .i64 0, .int .i64 0] 68); have hF0 := Blk.made2 w (.cells #[.int .i64 0, .string ⟨#[]⟩, .int .i64 0, .slice none 0 0] 66) #[.int .i64 0, .int .i64 0] 68; rw [hR] at hR0 hF0; rw [hF] at hF0; have hX0 := ((Chg.refl (fun _ => False) w).alloc (.cells #[.int .i64 0, .string ⟨#[]⟩, .int .i64 0, .slice none 0 0] 66)).alloc (.cells #[.int .i64 0, .int .i64 0] 68); have HL := Z_ (clook_any s _ l a c hs (hv.ext hX0) (hm.ext hX0) (hl.mono hX0.size fun b o x hb h => FaceIn.ext hX0 hb h) hlc hcm hsum); obtain ⟨P, hP⟩ : ∃ P, posC s (givenF l []) = P := ⟨_, rfl⟩; obtain ⟨T, hT⟩ : ∃ T, checkF s l = T := ⟨_, rfl⟩; rw [hP, hT] at HL ⊢
 rw [hT] at hnz; obtain ⟨n, hn⟩ : ∃ n, l.length = n := ⟨_, rfl⟩; rw [hn] at HL ⊢; have HNZ := Z_ hnz; have hz0 : ((w.alloc (.cells #[.int .i64 0, .string ⟨#[]⟩, .int .i64 0, .slice none 0 0] 66)).alloc (.cells #[.int .i64 0, .int .i64 0] 68)).heap.size = F + 1 := by simp; omega
 have HR0 := Z_ hR0; have HF0 := Z_ hF0; have HX0 := Z_ hX0; have hRF : R < F := by omega
 clear hR0 hF0 hX0 hs hv hm hl hlc hcm hsum hP hT hn hnz; go_enter Tryz.func34, Tryz.ntmps34
 go_upto_region 1 with (fail)
 try rw [hF]
 generalize (w.alloc (.cells #[.int .i64 0, .string ⟨#[]⟩, .int .i64 0, .slice none 0 0] 66)).alloc (.cells #[.int .i64 0, .int .i64 0] 68) = u0 at *; go_wp2_with fail
 refine HL.out.mono ?_
 rintro e w1 ⟨hE1, hres⟩; have HR1 := Z_ (HR0.out.ext hE1); have HF1 := Z_ (HF0.out.ext hE1); have HX1 := Z_ (HX0.out.ext hE1); obtain ⟨V, hV⟩ : ∃ V, w1.heap.size = V := ⟨_, rfl⟩; have hFV : F < V := by rw [← hV]; exact HF1.out.lt
 cases T with
 | bad c9 p9 =>
  obtain ⟨vp, rfl⟩ := hres; have hc9 : c9 ≠ 0 := fun e => by subst e; exact HNZ.out.out p9 rfl
  have hcn : (c9 != 0) = true := by simpa using hc9
  have HV := Z_ (show Blk (w1.alloc (.cells #[.int .i64 c9, .int .i64 P] 68)) V #[.int .i64 c9, .int .i64 P] 68 by rw [← hV]; exact Blk.made w1 _ _); have HR2 := Z_ (HR1.out.alloc (.cells #[.int .i64 c9, .int .i64 P] 68)); have HF2 := Z_ (HF1.out.alloc (.cells #[.int .i64 c9, .int .i64 P] 68)); have HX2 := Z_ (HX1.out.alloc (.cells #[.int .i64 c9, .int .i64 P] 68)); clear HL HR0 HF0 HX0 hE1 HR1 HF1 HX1 hc9; go_upto_region 2 with (fail)
  try rw [hV]
  generalize w1.alloc (.cells #[.int .i64 c9, .int .i64 P] 68) = u2 at *; have hvc := HV.out.cell; go_upto_region 3 with (fail)
  clear hvc; refine wp_region_weave [2, 3] (fun i v _ => v = ([.agg #[.int .i64 0, .string ⟨#[]⟩, .int .i64 0, .slice none 0 0], .agg #[.int .i64 c9, .int .i64 P], undef, undef] : List Value).getD i undef) (CesF R F #[.int .i64 0, .string ⟨#[]⟩, .int .i64 0, .slice none 0 0] #[.int .i64 c9, .int .i64 P] u2) (fun _ _ => True) (frame := ?fraa) (fun x => ?hfaa) synw.mixed (by kernel_rfl) (by kernel_rfl) (fun _ _ _ _ h _ => h) ?h0a ?sta ?fina
  case hfaa =>
   simp only [chain.frameOf, chain.fill, chain.setOpt, chain.dstOf, List.size_toArray, List.length_cons, List.length_nil, List.getElem?_toArray, List.getElem?_cons_succ, List.getElem?_cons_zero, List.setIfInBounds_toArray, List.set_cons_succ, List.set_cons_zero]; exact rfl
  case h0a => exact ⟨HR2.out.drew, HF2.out.drew, (Chg.refl _ _).drew⟩
  case sta =>
   refine AllFrom.cons (fun x vs u hF hm hb hd K' hK' => ?sa0) (AllFrom.cons (fun x vs u hF hm hb hd K' hK' => ?sa1) (AllFrom.cons (fun x vs u hF hm hb hd K' hK' => ?sa2) (AllFrom.cons (fun x vs u hF hm hb hd K' hK' => ?sa3) (AllFrom.nil))))
   case sa0 =>
    have HF := Z_ hF; clear hd hm hb hF; go_simp; exact hK'.out _ _ _ (rfl) trivial ⟨rfl, HF.out⟩
   case sa1 =>
    have hq := (HV.out.chg hF.c (by omega)).cell; have HF := Z_ hF; clear hd hm hb hF; go_simp; exact hK'.out _ _ _ (rfl) trivial ⟨rfl, HF.out⟩
   case sa2 =>
    obtain rfl := List.eq_nil_of_length_eq_zero (hm 0 (by kernel_rfl)); have y0 := hd 0 (by decide) (by kernel_rfl); replace y0 : x 17 = .agg #[.int .i64 0, .string ⟨#[]⟩, .int .i64 0, .slice none 0 0] := y0; obtain ⟨g1, g2, g3⟩ := (show _ ∧ _ from hF); have hq := g1.cell; have hqf := g1.frozen; have hql := g1.lt; have HG := Z_ (And.intro g1 (And.intro g2 g3)); clear hd hm hb hF g1 g2 g3; go_simp; obtain ⟨g1, g2, g3⟩ := HG.out; exact hK'.out _ _ undef (by simp only [y0]; rfl) trivial ⟨((((g1.set 0 _).set 1 _).set 2 _).set 3 _), ((((g2.setOther (p := ⟨R, 0, none⟩) (by show F ≠ R; omega) _).setOther (p := ⟨R, 1, none⟩) (by show F ≠ R; omega) _).setOther (p := ⟨R, 2, none⟩) (by show F ≠ R; omega) _).setOther (p := ⟨R, 3, none⟩) (by show F ≠ R; omega) _), ((((g3.setCell (p := ⟨R, 0, none⟩) (fun _ => .inl rfl) _).setCell (p := ⟨R, 1, none⟩) (fun _ => .inl rfl) _).setCell (p := ⟨R, 2, none⟩) (fun _ => .inl rfl) _).setCell (p := ⟨R, 3, none⟩) (fun _ => .inl rfl) _)⟩
   case sa3 =>
    obtain ⟨v0, rfl⟩ : ∃ v0, vs = [v0] := by match vs, hm 1 (by kernel_rfl) with | [v0], _ => exact ⟨_, rfl⟩
    have y0 := hd 1 (by decide) (by kernel_rfl); replace y0 : x 18 = .agg #[.int .i64 c9, .int .i64 P] := y0; obtain ⟨g1, g2, g3⟩ := (show _ ∧ _ from hF); have hq := g2.cell; have hqf := g2.frozen; have hql := g2.lt; have HG := Z_ (And.intro g1 (And.intro g2 g3)); clear hd hm hb hF g1 g2 g3; go_simp; obtain ⟨g1, g2, g3⟩ := HG.out; exact hK'.out _ _ undef (by simp only [y0]; rfl) trivial ⟨(g1.setOther (p := ⟨F, 0, none⟩) (by show R ≠ F; omega) _).setOther (p := ⟨F, 1, none⟩) (by show R ≠ F; omega) _, (g2.set 0 _).set 1 _, (g3.setCell (p := ⟨F, 0, none⟩) (fun _ => .inr rfl) _).setCell (p := ⟨F, 1, none⟩) (fun _ => .inr rfl) _⟩
  case fina =>
   intro x9 vs9 w9 hl hF hk9; obtain ⟨v0, v1, rfl⟩ : ∃ v0 v1, vs9 = [v0, v1] := by match vs9, hl with | [v0, v1], _ => exact ⟨_, _, rfl⟩
   have HP9 := Z_ (show _ ∧ _ from hF); clear hk9 hl hF; go_wp2_with fail
   exact bodyPost_ret (results_cc2 rfl _ _ rfl HP9.out.1 Tryz.underlying66 rfl (by kernel_rfl) rfl HP9.out.2.1 Tryz.underlying68 rfl (by kernel_rfl)) rfl ⟨HX2.out.trans HP9.out.2.2 (fun i hi e => by omega), _, rfl, zero_at _⟩
 | ok r =>
  obtain ⟨Mo, D, bod, fac, d0, d1, d2, d3, d4, d5, d6, d7, d8, rfl, hmo, hd, hnd⟩ := hres; have HV := Z_ (show Blk (w1.alloc (.cells #[.int .i64 0, .int .i64 0] 68)) V #[.int .i64 0, .int .i64 0] 68 by rw [← hV]; exact Blk.made w1 _ _); have HR2 := Z_ (HR1.out.alloc (.cells #[.int .i64 0, .int .i64 0] 68)); have HF2 := Z_ (HF1.out.alloc (.cells #[.int .i64 0, .int .i64 0] 68)); have HX2 := Z_ (HX1.out.alloc (.cells #[.int .i64 0, .int .i64 0] 68)); have hMR := blk_ne hmo HR1.out (by simp); have hMF := blk_ne hmo HF1.out (by simp); have hDR := blk_ne hd HR1.out (by simp); have hDF := blk_ne hd HF1.out (by simp); obtain ⟨k0, t0, n0, a0, l0, c0, e0⟩ := nd_form hnd; cases e0
  have HMO := Z_ (hmo.alloc (.cells #[.int .i64 0, .int .i64 0] 68)); have HD := Z_ (hd.alloc (.cells #[.int .i64 0, .int .i64 0] 68)); have hex := (Chg.refl (fun _ => False) w1).alloc (.cells #[.int .i64 0, .int .i64 0] 68); have HND := Z_ (ndAt_keeps (keeps_chg (M := below (F + 1)) hex fun i _ e => e.elim) _ _ (by rw [← hz0]; exact hnd)); clear HL HR0 HF0 HX0 hE1 HR1 HF1 HX1 hmo hd hnd hex HNZ hz0; go_upto_region 2 with (fail)
  try rw [hV]
  generalize w1.alloc (.cells #[.int .i64 0, .int .i64 0] 68) = u2 at *; have hvc := HV.out.cell; go_upto_region 4 with (fail)
  clear hvc; refine wp_region_weave [8, 9] (fun i v _ => v = ([.pointer (some ⟨Mo, 0, none⟩), .pointer (some ⟨Mo, 0, none⟩), .pointer (some ⟨Mo, 0, none⟩), .pointer (some ⟨D, 0, none⟩), .pointer (some ⟨D, 0, none⟩), .pointer (some ⟨D, 3, none⟩), .agg #[.int .i64 k0, .string t0, .int .i64 n0, .slice a0 l0 c0], .agg #[.int .i64 0, .int .i64 0], undef, undef] : List Value).getD i undef) (CesF R F #[.int .i64 k0, .string t0, .int .i64 n0, .slice a0 l0 c0] #[.int .i64 0, .int .i64 0] u2) (fun _ _ => True) (frame := ?frab) (fun x => ?hfab) synw.mixed (by kernel_rfl) (by kernel_rfl) (fun _ _ _ _ h _ => h) ?h0b ?stb ?finb
  case hfab =>
   simp only [chain.frameOf, chain.fill, chain.setOpt, chain.dstOf, List.size_toArray, List.length_cons, List.length_nil, List.getElem?_toArray, List.getElem?_cons_succ, List.getElem?_cons_zero, List.setIfInBounds_toArray, List.set_cons_succ, List.set_cons_zero]; exact rfl
  case h0b => exact ⟨HR2.out.drew, HF2.out.drew, (Chg.refl _ _).drew⟩
  case stb =>
   refine AllFrom.cons (fun x vs u hF hm hb hd K' hK' => ?sb0) (AllFrom.cons (fun x vs u hF hm hb hd K' hK' => ?sb1) (AllFrom.cons (fun x vs u hF hm hb hd K' hK' => ?sb2) (AllFrom.cons (fun x vs u hF hm hb hd K' hK' => ?sb3) (AllFrom.cons (fun x vs u hF hm hb hd K' hK' => ?sb4) (AllFrom.cons (fun x vs u hF hm hb hd K' hK' => ?sb5) (AllFrom.cons (fun x vs u hF hm hb hd K' hK' => ?sb6) (AllFrom.cons (fun x vs u hF hm hb hd K' hK' => ?sb7) (AllFrom.cons (fun x vs u hF hm hb hd K' hK' => ?sb8) (AllFrom.cons (fun x vs u hF hm hb hd K' hK' => ?sb9) (AllFrom.nil))))))))))
   case sb0 =>
    have HF := Z_ hF; clear hd hm hb hF; go_simp; exact hK'.out _ _ _ (rfl) trivial ⟨rfl, HF.out⟩
   case sb1 =>
    have y0 := hd 0 (by decide) (by kernel_rfl); replace y0 : x 19 = .pointer (some ⟨Mo, 0, none⟩) := y0; have HF := Z_ hF; clear hd hm hb hF; go_simp; exact hK'.out _ _ _ (by simp only [y0]; rfl) trivial ⟨rfl, HF.out⟩
   case sb2 =>
    have y0 := hd 1 (by decide) (by kernel_rfl); replace y0 : x 20 = .pointer (some ⟨Mo, 0, none⟩) := y0; have HF := Z_ hF; clear hd hm hb hF; go_simp; exact hK'.out _ _ _ (by simp only [y0]; rfl) trivial ⟨rfl, HF.out⟩
   case sb3 =>
    have hq := (HMO.out.chg hF.c (by omega)).cell; have y0 := hd 2 (by decide) (by kernel_rfl); replace y0 : x 21 = .pointer (some ⟨Mo, 0, none⟩) := y0; have HF := Z_ hF; clear hd hm hb hF; go_simp; exact hK'.out _ _ _ (by simp only [y0]; rfl) trivial ⟨rfl, HF.out⟩
   case sb4 =>
    have y0 := hd 3 (by decide) (by kernel_rfl); replace y0 : x 22 = .pointer (some ⟨D, 0, none⟩) := y0; have HF := Z_ hF; clear hd hm hb hF; go_simp; exact hK'.out _ _ _ (by simp only [y0]; rfl) trivial ⟨rfl, HF.out⟩
   case sb5 =>
    have y0 := hd 4 (by decide) (by kernel_rfl); replace y0 : x 23 = .pointer (some ⟨D, 0, none⟩) := y0; have HF := Z_ hF; clear hd hm hb hF; go_simp; exact hK'.out _ _ _ (by simp only [y0]; rfl) trivial ⟨rfl, HF.out⟩
   case sb6 =>
    have hq := (HD.out.chg hF.c (by omega)).cell; have y0 := hd 5 (by decide) (by kernel_rfl); replace y0 : x 24 = .pointer (some ⟨D, 3, none⟩) := y0; have HF := Z_ hF; clear hd hm hb hF; go_simp; exact hK'.out _ _ _ (by simp only [y0]; rfl) trivial ⟨rfl, HF.out⟩
   case sb7 =>
    have hq := (HV.out.chg hF.c (by omega)).cell; have HF := Z_ hF; clear hd hm hb hF; go_simp; exact hK'.out _ _ _ (rfl) trivial ⟨rfl, HF.out⟩
   case sb8 =>
    obtain rfl := List.eq_nil_of_length_eq_zero (hm 0 (by kernel_rfl)); have y0 := hd 6 (by decide) (by kernel_rfl); replace y0 : x 25 = .agg #[.int .i64 k0, .string t0, .int .i64 n0, .slice a0 l0 c0] := y0; obtain ⟨g1, g2, g3⟩ := (show _ ∧ _ from hF); have hq := g1.cell; have hqf := g1.frozen; have hql := g1.lt; have HG := Z_ (And.intro g1 (And.intro g2 g3)); clear hd hm hb hF g1 g2 g3; go_simp; obtain ⟨g1, g2, g3⟩ := HG.out; exact hK'.out _ _ undef (by simp only [y0]; rfl) trivial ⟨((((g1.set 0 _).set 1 _).set 2 _).set 3 _), ((((g2.setOther (p := ⟨R, 0, none⟩) (by show F ≠ R; omega) _).setOther (p := ⟨R, 1, none⟩) (by show F ≠ R; omega) _).setOther (p := ⟨R, 2, none⟩) (by show F ≠ R; omega) _).setOther (p := ⟨R, 3, none⟩) (by show F ≠ R; omega) _), ((((g3.setCell (p := ⟨R, 0, none⟩) (fun _ => .inl rfl) _).setCell (p := ⟨R, 1, none⟩) (fun _ => .inl rfl) _).setCell (p := ⟨R, 2, none⟩) (fun _ => .inl rfl) _).setCell (p := ⟨R, 3, none⟩) (fun _ => .inl rfl) _)⟩
   case sb9 =>
    obtain ⟨v0, rfl⟩ : ∃ v0, vs = [v0] := by match vs, hm 1 (by kernel_rfl) with | [v0], _ => exact ⟨_, rfl⟩
    have y0 := hd 7 (by decide) (by kernel_rfl); replace y0 : x 26 = .agg #[.int .i64 0, .int .i64 0] := y0; obtain ⟨g1, g2, g3⟩ := (show _ ∧ _ from hF); have hq := g2.cell; have hqf := g2.frozen; have hql := g2.lt; have HG := Z_ (And.intro g1 (And.intro g2 g3)); clear hd hm hb hF g1 g2 g3; go_simp; obtain ⟨g1, g2, g3⟩ := HG.out; exact hK'.out _ _ undef (by simp only [y0]; rfl) trivial ⟨(g1.setOther (p := ⟨F, 0, none⟩) (by show R ≠ F; omega) _).setOther (p := ⟨F, 1, none⟩) (by show R ≠ F; omega) _, (g2.set 0 _).set 1 _, (g3.setCell (p := ⟨F, 0, none⟩) (fun _ => .inr rfl) _).setCell (p := ⟨F, 1, none⟩) (fun _ => .inr rfl) _⟩
  case finb =>
   intro x9 vs9 w9 hl hF hk9; obtain ⟨v0, v1, rfl⟩ : ∃ v0 v1, vs9 = [v0, v1] := by match vs9, hl with | [v0, v1], _ => exact ⟨_, _, rfl⟩
   have HP9 := Z_ (show _ ∧ _ from hF); clear hk9 hl hF; go_wp2_with fail
   exact bodyPost_ret (results_cc2 rfl _ _ rfl HP9.out.1 Tryz.underlying66 rfl (by kernel_rfl) rfl HP9.out.2.1 Tryz.underlying68 rfl (by kernel_rfl)) rfl ⟨HX2.out.trans HP9.out.2.2 (fun i hi e => by omega), _, rfl, ndAt_keeps (keeps_bare _ _) _ _ (ndAt_keeps (keeps_chg (M := below (F + 1)) HP9.out.2.2 fun i _ e => by rcases e with e | e <;> (subst e; simp [below]; try omega)) _ _ HND.out)⟩
end chk
end Go.Proofs.YtpcihajmcejliabGreatDoor
namespace Go.Proofs.YtpcihajmcejliabGreatDoor
open Go.RowKit
namespace chklow
def N7 {α : Type} (r : Rz α) : Prop := ∀ p, r ≠ .bad 7 p
theorem n7_ok {α : Type} (x : α) : N7 (.ok x) := fun _ h => by cases h
theorem n7_bad {α : Type} {c : Int} (p : Nat) (h : c ≠ 7) : N7 (.bad c p : Rz α) := fun _ e => by cases e; exact h rfl
theorem n7_bind {α β : Type} {r : Rz α} {f : α → Rz β} (h : N7 r) (hf : ∀ x, r = .ok x → N7 (f x)) : N7 (r.bind f) := by
 cases r with
 | bad c p => intro q e; exact h q (by cases e; rfl)
 | ok x => exact hf x rfl
theorem n7_ite {α : Type} {P : Prop} [Decidable P] {a b : Rz α} (ha : N7 a) (hb : N7 b) : N7 (if P then a else b) := by
 split
 ·exact ha
 ·exact hb
theorem bind_ok {α β : Type} {r : Rz α} {f : α → Rz β} {y : β} (h : r.bind f = .ok y) : ∃ x, r = .ok x ∧ f x = .ok y := by
 cases r with
 | bad c p => cases h
 | ok x => exact ⟨x, rfl, h⟩
theorem flow_low (z : Int) {ls : List Int} (h : ∀ l ∈ ls, l = 0) : flowB z ls = true := by
 unfold flowB; rw [List.all_eq_true]; intro l hl; simp [h l hl]
def LowE (E : CEnv) : Prop := (∀ v ∈ E.own.vars, v.label = 0) ∧ (∀ p ∈ E.own.procs, p.given = 0) ∧ E.known = []
def LowL (L : List Loc) : Prop := ∀ l ∈ L, l.label = 0
def LowT (y : Tr) : Prop := y.lab = 0 ∧ y.ref.label = 0 ∧ ∀ k ∈ y.kids, k.lab = 0
theorem loc_low {L : List Loc} (h : LowL L) {t : ByteArray} : ∀ n i l, locF L t n = some (i, l) → l.label = 0 := by
 intro n; induction n with
 | zero => intro i l h; cases h
 | succ n ih =>
  intro i l hl; rw [locF] at hl; split at hl
  ·rename_i x hx
   split at hl
   ·cases hl; exact h _ (List.mem_of_getElem? hx)
   ·exact ih _ _ hl
  ·exact ih _ _ hl
theorem face_low {E : CEnv} (h : LowE E) (t : ByteArray) : (faceN E t).2.2 = true → (faceN E t).1 = E.own := by
 unfold faceN; split
 ·intro _; rfl
 ·rw [h.2.2]; intro e; cases e
theorem var_low {E : CEnv} {L : List Loc} (hE : LowE E) (hL : LowL L) (t : ByteArray) (p : Nat) : N7 (varF E L t p) ∧ ∀ r, varF E L t p = .ok r → r.label = 0 := by
 unfold varF; split
 ·rename_i i l hl
  exact ⟨n7_ok _, fun r e => by cases e; exact loc_low hL _ _ _ hl⟩
 ·split
  ·rename_i hf
   rw [face_low hE t hf]; split
   ·rename_i v hv
    exact ⟨n7_ok _, fun r e => by cases e; exact hE.1 _ (List.mem_of_find?_eq_some hv)⟩
   ·exact ⟨n7_bad _ (by decide), fun r e => by cases e⟩
  ·exact ⟨n7_bad _ (by decide), fun r e => by cases e⟩
theorem proc_in (l : List FProc) (s : ByteArray) : ∀ o p, l.foldl (fun o p => if p.name = s then some p else o) o = some p → p ∈ l ∨ o = some p := by
 induction l with
 | nil => intro o p h; exact .inr h
 | cons x r ih =>
  intro o p h; rcases ih _ _ h with h | h
  ·exact .inl (List.mem_cons_of_mem _ h)
  ·dsimp only at h
   split at h
   ·cases h; exact .inl (List.mem_cons_self ..)
   ·exact .inr h
theorem args_low : ∀ (ps : List Int) (ks : List Tr), (∀ k ∈ ks, k.lab = 0) → argsB ps ks = true := by
 intro ps; induction ps with
 | nil => intro ks _; cases ks <;> rfl
 | cons p r ih =>
  intro ks h; cases ks with
  | nil => rfl
  | cons k q =>
   rw [argsB, flow_low p (by intro l hl; rw [List.mem_singleton] at hl; rw [hl]; exact h k (List.mem_cons_self ..)), ih q fun x hx => h x (List.mem_cons_of_mem _ hx)]; rfl
theorem call_low {E : CEnv} (hE : LowE E) (alone : Bool) (t : ByteArray) (ks : List Tr) (hk : ∀ k ∈ ks, k.lab = 0) (p : Nat) : N7 (callF E 0 alone t ks p) ∧ ∀ r, callF E 0 alone t ks p = .ok r → r.1.label = 0 ∧ r.2 = 0 := by
 unfold callF
 have hin : ∀ q, (if (faceN E t).2.2 = true then procN_ (faceN E t).1.procs (faceN E t).2.1 else none) = some q → q.given = 0 := by
  intro q h; split at h
  ·rename_i hf
   rw [face_low hE t hf] at h; rcases proc_in _ _ _ _ h with h | h
   ·exact hE.2.1 _ h
   ·cases h
  ·cases h
 generalize (if (faceN E t).2.2 = true then procN_ (faceN E t).1.procs (faceN E t).2.1 else none) = o at hin; cases o with
 | none => exact ⟨n7_bad _ (by decide), fun r e => by cases e⟩
 | some q =>
  unfold callG; dsimp only
  rw [args_low q.params ks hk, flow_low q.writes (ls := [0]) (by simp)]; simp only [Bool.true_eq_false, if_false]; split
  ·exact ⟨n7_bad _ (by decide), fun r e => by cases e⟩
  ·split
   ·exact ⟨n7_bad _ (by decide), fun r e => by cases e⟩
   ·exact ⟨n7_ok _, fun r e => by cases e; exact ⟨rfl, hin q rfl⟩⟩
theorem join_low {ks : List Tr} (h : ∀ k ∈ ks, k.lab = 0) : joinL ks = 0 := by
 unfold joinL
 have : ∀ (l : List Tr), (∀ k ∈ l, k.lab = 0) → l.foldl (fun a y => joinF a y.lab) 0 = 0 := by
  intro l; induction l with
  | nil => intro _; rfl
  | cons x r ih =>
   intro h; rw [List.foldl_cons, h x (List.mem_cons_self ..)]; exact ih fun k hk => h k (List.mem_cons_of_mem _ hk)
 exact this ks h
theorem fin_low {E : CEnv} {L : List Loc} (hE : LowE E) (hL : LowL L) (alone : Bool) (k : Int) (t : ByteArray) (m : Int) (ks : List Tr) (hk : ∀ y ∈ ks, LowT y) (p : Nat) : N7 (finF E L 0 alone k t m ks p) ∧ ∀ y, finF E L 0 alone k t m ks p = .ok y → LowT y := by
 have hk0 : ∀ y ∈ ks, y.lab = 0 := fun y hy => (hk y hy).1
 have hv := var_low hE hL t p; have hc := call_low hE alone t ks hk0 p; unfold finF; split
 ·refine ⟨n7_bind hv.1 fun r hr => ?_, fun y e => ?_⟩
  ·split
   ·exact n7_ok _
   ·exact n7_bad _ (by decide)
  ·obtain ⟨r, hr, e⟩ := bind_ok e
   split at e
   ·cases e
    have h0 := hv.2 r hr; exact ⟨by show joinF (joinL ks) r.label = 0; rw [join_low hk0, h0]; rfl, h0, hk0⟩
   ·cases e
 ·split
  ·refine ⟨n7_bind hc.1 fun r hr => n7_ok _, fun y e => ?_⟩
   obtain ⟨r, hr, e⟩ := bind_ok e; cases e
   have h0 := hc.2 r hr; exact ⟨h0.2, h0.1, hk0⟩
  ·exact ⟨n7_ok _, fun y e => by cases e; exact ⟨join_low hk0, rfl, hk0⟩⟩
theorem exs_low {E : CEnv} {L : List Loc} : ∀ (l : List Nd), (∀ x ∈ l, ∀ alone p, N7 (exF E L 0 alone x p) ∧ ∀ y, exF E L 0 alone x p = .ok y → LowT y) → ∀ p, N7 (exsF E L 0 l p) ∧ ∀ ks, exsF E L 0 l p = .ok ks → ∀ y ∈ ks, LowT y := by
 intro l; induction l with
 | nil => intro _ p; rw [exsF]; exact ⟨n7_ok _, fun ks e => by cases e; intro y hy; cases hy⟩
 | cons x r ih =>
  intro h p; have h1 := h x (List.mem_cons_self ..) false p; have h2 := ih (fun z hz => h z (List.mem_cons_of_mem _ hz)) (p + szF x); rw [exsF]; refine ⟨n7_bind h1.1 fun y hy => n7_bind h2.1 fun ys hys => n7_ok _, fun ks e => ?_⟩
  obtain ⟨y, hy, e⟩ := bind_ok e; obtain ⟨ys, hys, e⟩ := bind_ok e; cases e
  intro z hz; rcases List.mem_cons.1 hz with rfl | hz
  ·exact h1.2 _ hy
  ·exact h2.2 _ hys _ hz
theorem ex_low {E : CEnv} {L : List Loc} (hE : LowE E) (hL : LowL L) : ∀ (x : Nd) (alone : Bool) (p : Nat), N7 (exF E L 0 alone x p) ∧ ∀ y, exF E L 0 alone x p = .ok y → LowT y := by
 refine nd_ind fun k t m l ih alone p => ?_
 rw [exF]; have h := exs_low l ih (p + 1); refine ⟨n7_bind h.1 fun ks hks => (fin_low hE hL alone k t m ks (h.2 ks hks) p).1, fun y e => ?_⟩
 obtain ⟨ks, hks, e⟩ := bind_ok e; exact (fin_low hE hL alone k t m ks (h.2 ks hks) p).2 y e
def ownHigh (x : Nd) : Bool := (decide (x.kd = 3) && decide (x.nm % 2 = 1)) || (decide (x.kd = 4) && (decide (x.nm % 2 = 1) || decide (8 ≤ x.nm))) || ((decide (x.kd = 5) || decide (x.kd = 7) || decide (x.kd = 12) || decide (x.kd = 13)) && decide (x.nm = 1))
mutual
def highF : Nd → Bool
 | .mk k t m l => ownHigh (.mk k t m l) || highL l
def highL : List Nd → Bool
 | [] => false
 | x :: r => highF x || highL r
end
theorem high_all : ∀ (l : List Nd), highL l = false → ∀ x ∈ l, highF x = false := by
 intro l; induction l with
 | nil => intro _ x hx; cases hx
 | cons y r ih =>
  intro h x hx; rw [highL, Bool.or_eq_false_iff] at h; rcases List.mem_cons.1 hx with rfl | hx
  ·exact h.1
  ·exact ih h.2 x hx
theorem head_low {ks : List Tr} (h : ∀ y ∈ ks, y.lab = 0) : (ks.headD default).lab = 0 := by
 cases ks with
 | nil => rfl
 | cons y r => exact h y (List.mem_cons_self ..)
theorem index_low {ks : List Tr} (h : ∀ y ∈ ks, LowT y) : indexF (ks.headD default) = 0 := by
 unfold indexF; split
 ·cases ks with
  | nil => rfl
  | cons y r => exact head_low (h y (List.mem_cons_self ..)).2.2
 ·rfl
theorem end_low {pr : FProc} {L : List Loc} {deep : Int} {last : Bool} {k : Int} {t : ByteArray} {m : Int} {ks : List Tr} {p : Nat} (hL : LowL L) (hm : k = 7 ∨ k = 13 → m = 0) (hk : ∀ y ∈ ks, LowT y) : N7 (endF pr L deep 0 last k t m ks p) ∧ ∀ y L', endF pr L deep 0 last k t m ks p = .ok (y, L') → LowT y ∧ LowL L' := by
 have hk0 : ∀ y ∈ ks, y.lab = 0 := fun y hy => (hk y hy).1
 have h0 := head_low hk0; have h1 : (ks.tail.headD default).lab = 0 := head_low fun y hy => hk0 y (List.mem_of_mem_tail hy)
 have hi := index_low hk; have hf : ∀ z, flowB z [(ks.headD default).lab, 0] = true := fun z => flow_low z (by intro l hl; simp only [List.mem_cons, List.not_mem_nil, or_false] at hl; rcases hl with rfl | rfl; exact h0; rfl)
 have hf1 : ∀ z, flowB z [(ks.headD default).lab] = true := fun z => flow_low z (by intro l hl; rw [List.mem_singleton] at hl; rw [hl]; exact h0)
 have hf8 : ∀ z, flowB z [(ks.tail.headD default).lab, indexF (ks.headD default), 0] = true := fun z => flow_low z (by intro l hl; simp only [List.mem_cons, List.not_mem_nil, or_false] at hl; rcases hl with rfl | rfl | rfl; exact h1; exact hi; rfl)
 have hf2 : ∀ z, flowB z [0] = true := fun z => flow_low z (by intro l hl; rw [List.mem_singleton] at hl; exact hl)
 have same : ∀ y L', (.ok (Tr.mk k m ks zRef 0 0, L) : Rz (Tr × List Loc)) = .ok (y, L') → LowT y ∧ LowL L' := fun y L' e => by cases e; exact ⟨⟨rfl, rfl, hk0⟩, hL⟩
 unfold endF; split
 ·rename_i h7
  obtain rfl := hm (.inl h7); rw [hf 0]; split
  ·exact ⟨n7_bad _ (by decide), fun y L' e => by cases e⟩
  ·split
   ·exact ⟨n7_bad _ (by decide), fun y L' e => by cases e⟩
   ·refine ⟨n7_ok _, fun y L' e => ?_⟩
    cases e
    refine ⟨⟨rfl, rfl, hk0⟩, fun l hl => ?_⟩
    rcases List.mem_append.1 hl with hl | hl
    ·exact hL l hl
    ·rw [List.mem_singleton] at hl; rw [hl]
 ·split
  ·rw [hf8]; exact ⟨n7_ok _, same⟩
  ·split
   ·rw [hf]; exact ⟨n7_ok _, same⟩
   ·split
    ·rename_i h13
     obtain rfl := hm (.inr h13); rw [hf2, flow_low (ks.headD default).ref.label (ls := [0, indexF (ks.headD default), 0]) (by intro l hl; simp only [List.mem_cons, List.not_mem_nil, or_false] at hl; rcases hl with rfl | rfl | rfl; rfl; exact hi; rfl)]; exact ⟨n7_ok _, same⟩
    ·split
     ·rw [hf1]
      split
      ·exact ⟨n7_bad _ (by decide), fun y L' e => by cases e⟩
      ·exact ⟨n7_ok _, same⟩
     ·exact ⟨n7_ok _, same⟩
theorem num_low {k : Int} {t : ByteArray} {m : Int} {l : List Nd} (his : IsNd (.mk k t m l)) (hh : highF (.mk k t m l) = false) : k = 7 ∨ k = 13 → m = 0 := by
 intro h; rw [highF, Bool.or_eq_false_iff] at hh; have h1 := hh.1; have hf := his.form; rcases h with rfl | rfl
 ·have : ¬ m = 1 := of_decide_eq_false (by simp [ownHigh, Nd.kd, Nd.nm] at h1; exact h1)
  cases hf
  omega
 ·have : ¬ m = 1 := of_decide_eq_false (by simp [ownHigh, Nd.kd, Nd.nm] at h1; exact h1)
  cases hf
  omega
def StLow (E : CEnv) (x : Nd) : Prop := ∀ (pr : FProc) (last : Bool) (L : List Loc) (deep : Int) (p : Nat), LowL L → N7 (stF E pr 0 last L deep x p) ∧ ∀ y L', stF E pr 0 last L deep x p = .ok (y, L') → LowT y ∧ LowL L'
def BlLow (E : CEnv) (x : Nd) : Prop := ∀ (pr : FProc) (outer : Bool) (L : List Loc) (deep : Int) (p : Nat), LowL L → N7 (blF E pr 0 outer L deep x p) ∧ ∀ y, blF E pr 0 outer L deep x p = .ok y → LowT y
theorem stks_low {E : CEnv} (hE : LowE E) (pr : FProc) (alone : Bool) (L : List Loc) (hL : LowL L) (deep : Int) : ∀ (l : List Nd), (∀ x ∈ l, BlLow E x) → ∀ (b : Option Int) (p : Nat), (b = none ∨ b = some 0) → N7 (stksF E pr 0 alone L deep l b p) ∧ ∀ ks, stksF E pr 0 alone L deep l b p = .ok ks → ∀ y ∈ ks, LowT y := by
 intro l; induction l with
 | nil => intro _ b p _; rw [stksF]; exact ⟨n7_ok _, fun ks e => by cases e; intro y hy; cases hy⟩
 | cons x r ih =>
  intro h b p hb; have hb0 : joinF 0 (b.getD 0) = 0 := by rcases hb with rfl | rfl <;> rfl
  have h1 : N7 (if x.kd = 6 then blF E pr (joinF 0 (b.getD 0)) false L (deep + 1) x p else exF E L 0 alone x p) ∧ ∀ y, (if x.kd = 6 then blF E pr (joinF 0 (b.getD 0)) false L (deep + 1) x p else exF E L 0 alone x p) = .ok y → LowT y := by
   rw [hb0]; split
   ·exact h x (List.mem_cons_self ..) pr false L (deep + 1) p hL
   ·exact ex_low hE hL x alone p
  have hb1 : ∀ y : Tr, LowT y → (some (b.getD y.lab) = none ∨ some (b.getD y.lab) = some 0) := fun y hy => .inr (by rcases hb with rfl | rfl; exact congrArg some hy.1; rfl)
  have h2 := fun (y : Tr) (hy : LowT y) => ih (fun z hz => h z (List.mem_cons_of_mem _ hz)) (some (b.getD y.lab)) (p + szF x) (hb1 y hy)
  rw [stksF]; refine ⟨n7_bind h1.1 fun y hy => n7_bind (h2 y (h1.2 y hy)).1 fun ys hys => n7_ok _, fun ks e => ?_⟩
  obtain ⟨y, hy, e⟩ := bind_ok e; obtain ⟨ys, hys, e⟩ := bind_ok e; cases e
  intro z hz; rcases List.mem_cons.1 hz with rfl | hz
  ·exact h1.2 _ hy
  ·exact (h2 y (h1.2 y hy)).2 _ hys _ hz
theorem sts_low {E : CEnv} (pr : FProc) (outer : Bool) (deep : Int) : ∀ (l : List Nd), (∀ x ∈ l, StLow E x) → ∀ (L : List Loc) (p : Nat), LowL L → N7 (stsF E pr 0 outer L deep l p) ∧ ∀ ks, stsF E pr 0 outer L deep l p = .ok ks → ∀ y ∈ ks, LowT y := by
 intro l; induction l with
 | nil => intro _ L p _; rw [stsF]; exact ⟨n7_ok _, fun ks e => by cases e; intro y hy; cases hy⟩
 | cons x r ih =>
  intro h L p hL; have h1 := h x (List.mem_cons_self ..) pr (outer && r.isEmpty) L deep p hL; have h2 := fun (y : Tr × List Loc) (hy : LowL y.2) => ih (fun z hz => h z (List.mem_cons_of_mem _ hz)) y.2 (p + szF x) hy
  rw [stsF]; refine ⟨n7_bind h1.1 fun y hy => n7_bind (h2 y (h1.2 y.1 y.2 hy).2).1 fun ys hys => n7_ok _, fun ks e => ?_⟩
  obtain ⟨y, hy, e⟩ := bind_ok e; obtain ⟨ys, hys, e⟩ := bind_ok e; cases e
  intro z hz; rcases List.mem_cons.1 hz with rfl | hz
  ·exact (h1.2 y.1 y.2 hy).1
  ·exact (h2 y (h1.2 y.1 y.2 hy).2).2 _ hys _ hz
theorem both_low {E : CEnv} (hE : LowE E) : ∀ x, IsNd x → highF x = false → StLow E x ∧ BlLow E x := by
 refine nd_ind fun k t m l ih his hh => ?_
 have hm := num_low his hh; have hk : ∀ x ∈ l, StLow E x ∧ BlLow E x := fun x hx => ih x hx (his.kids x hx) (high_all l (by rw [highF, Bool.or_eq_false_iff] at hh; exact hh.2) x hx)
 refine ⟨fun pr last L deep p hL => ?_, fun pr outer L deep p hL => ?_⟩
 ·have h1 := stks_low hE pr (decide (k = 9)) L hL deep l (fun x hx => (hk x hx).2) none (p + 1) (.inl rfl)
  rw [stF]; refine ⟨n7_bind h1.1 fun ks hks => (end_low hL hm (h1.2 ks hks)).1, fun y L' e => ?_⟩
  obtain ⟨ks, hks, e⟩ := bind_ok e; exact (end_low hL hm (h1.2 ks hks)).2 y L' e
 ·have h1 := sts_low pr outer deep l (fun x hx => (hk x hx).1) L (p + 1) hL
  rw [blF]; refine ⟨n7_bind h1.1 fun ks hks => n7_ok _, fun y e => ?_⟩
  obtain ⟨ks, hks, e⟩ := bind_ok e; cases e
  exact ⟨rfl, rfl, fun y hy => (h1.2 ks hks y hy).1⟩
theorem own_low {x : Nd} (h : highF x = false) : ownHigh x = false := by
 obtain ⟨k, t, m, l⟩ := x; rw [highF, Bool.or_eq_false_iff] at h; exact h.1
theorem kid_low {x : Nd} (h : highF x = false) : ∀ y ∈ x.kids, highF y = false := by
 obtain ⟨k, t, m, l⟩ := x; rw [highF, Bool.or_eq_false_iff] at h; exact high_all l h.2
theorem var_nm {x : Nd} (h : highF x = false) (hk : x.kd = 3) : x.nm % 2 = 0 := by
 have h1 := own_low h; simp [ownHigh, hk] at h1
 omega
theorem proc_nm {x : Nd} (h : highF x = false) (hk : x.kd = 4) : x.nm % 2 = 0 ∧ x.nm < 8 := by
 have h1 := own_low h; simp [ownHigh, hk] at h1
 omega
theorem par_nm {x : Nd} (his : IsNd x) (h : highF x = false) (hk : x.kd = 5) : x.nm = 0 := by
 have h1 := own_low h; simp [ownHigh, hk] at h1
 obtain ⟨k, t, m, l⟩ := x; obtain rfl : k = 5 := hk; have hf := his.form; have h2 : ¬ m = 1 := h1; show m = 0
 cases hf
 omega
theorem body_low {E : CEnv} (hE : LowE E) (x : Nd) (his : IsNd x) (hh : highF x = false) (hk : x.kd = 4) (p : Nat) : N7 (bodyF E (procOf x) x p) := by
 have hw : (procOf x).writes = 0 := (proc_nm hh hk).1; unfold bodyF; rw [hw]; obtain ⟨k, t, m, l⟩ := x; obtain rfl : k = 4 := hk; have hki := his.kids; have hkh := kid_low hh; have hf := his.form; cases hf with
 | proc ht h0 h1 hp hb =>
  rename_i ps b
  have hL : LowL (parL (Nd.mk 4 t m (ps ++ [b])).kids.dropLast) := by
   intro q hq; unfold parL at hq; obtain ⟨y, hy, rfl⟩ := List.mem_map.1 hq; have hy2 : y ∈ ps := by simpa [Nd.kids] using hy
   exact par_nm (hki y (List.mem_append_left _ hy2)) (hkh y (List.mem_append_left _ hy2)) (hp y hy2)
  have hbl : (Nd.mk 4 t m (ps ++ [b])).kids.getLastD zeroN = b := by simp [Nd.kids]
  rw [hbl]; have h2 := (both_low hE b (hki b (by simp)) (hkh b (by simp [Nd.kids]))).2 (procOf (.mk 4 t m (ps ++ [b]))) true _ 1 (p + 1 + (Nd.mk 4 t m (ps ++ [b])).kids.dropLast.length) hL; exact n7_bind h2.1 fun y hy => n7_ite (n7_bad _ (by decide)) (n7_ok _)
theorem mod_low {own : FFace} (hE : LowE ⟨own, []⟩) : ∀ (l : List Nd), (∀ x ∈ l, IsNd x ∧ highF x = false ∧ (x.kd = 2 ∨ x.kd = 3 ∨ x.kd = 4)) → ∀ B p, N7 (modF_ own [] l [] (procsF l) B p) := by
 intro l; induction l with
 | nil => intro _ B p; unfold modF_; exact n7_ok _
 | cons x r ih =>
  intro h B p; obtain ⟨his, hh, hk⟩ := h x (List.mem_cons_self ..); have hr := ih fun z hz => h z (List.mem_cons_of_mem _ hz)
  unfold modF_; split
  ·exact n7_bad _ (by decide)
  ·split
   ·rename_i h3
    have e : procsF (x :: r) = procsF r := by simp [procsF, isProc, h3]
    rw [e]; exact hr _ _
   ·have h4 : x.kd = 4 := by omega
    have e : procsF (x :: r) = procOf x :: procsF r := by simp [procsF, isProc, h4]
    rw [e]; exact n7_bind (body_low hE x his hh h4 p) fun b hb => hr _ _
theorem par7 (p : Nat) : ∀ (l : List Nd) (j : Nat) (seen : List (List UInt8)), (parF p j seen l).1 ≠ 7 := by
 intro l; induction l with
 | nil => intro j seen; unfold parF; decide
 | cons x r ih =>
  intro j seen; unfold parF; split
  ·exact (by decide : (5 : Int) ≠ 7)
  ·exact ih _ _
theorem decl7 (x : Nd) (p : Nat) : (declF x p).1 ≠ 7 := by
 unfold declF; split
 ·split
  ·exact (by decide : (0 : Int) ≠ 7)
  ·split
   ·exact (by decide : (0 : Int) ≠ 7)
   ·exact (by decide : (6 : Int) ≠ 7)
 ·split
  ·exact (by decide : (1 : Int) ≠ 7)
  ·exact par7 _ _ _ _
theorem look7 (modn : ByteArray) : ∀ (l : List Nd) (imps names : List (List UInt8)) (p : Nat), (lookF modn l imps names p).1 ≠ 7 := by
 intro l; induction l with
 | nil => intro imps names p; unfold lookF; exact (by decide : (0 : Int) ≠ 7)
 | cons x r ih =>
  intro imps names p; unfold lookF; split
  ·split
   ·exact (by decide : (5 : Int) ≠ 7)
   ·split
    ·exact (by decide : (5 : Int) ≠ 7)
    ·split
     ·exact (by decide : (1 : Int) ≠ 7)
     ·exact ih _ _ _
  ·split
   ·exact (by decide : (5 : Int) ≠ 7)
   ·split
    ·exact (by decide : (1 : Int) ≠ 7)
    ·split
     ·exact ih _ _ _
     ·exact decl7 _ _
theorem check_low (s : ByteArray) (h0 : (parseR s).2.1 = 0) (hh : highF (parseR s).1 = false) : N7 (checkF s []) := by
 obtain ⟨his, hk1, -, -⟩ := parse_is s h0
 have hkd : ∀ x ∈ (parseR s).1.kids, IsNd x ∧ highF x = false ∧ (x.kd = 2 ∨ x.kd = 3 ∨ x.kd = 4) := by
  have hkh := kid_low hh; generalize (parseR s).1 = n at his hk1 hkh; obtain ⟨k, t, m, l⟩ := n; obtain rfl : k = 1 := hk1; have hki := his.kids; have hf := his.form; cases hf with
  | module ht ha hb =>
   intro x hx; refine ⟨hki x hx, hkh x hx, ?_⟩
   rcases List.mem_append.1 hx with hx | hx
   ·exact .inl (ha x hx)
   ·exact .inr (hb x hx)
 unfold checkF givenF; dsimp only
 split
 ·refine n7_bind (mod_low ⟨?_, ?_, rfl⟩ _ hkd [] 1) fun r hr => n7_ok _
  ·intro v hv
   obtain ⟨x, hx, rfl⟩ := List.mem_map.1 hv; obtain ⟨hx, h3⟩ := List.mem_filter.1 hx; exact var_nm (hkd x hx).2.1 (of_decide_eq_true h3)
  ·intro v hv
   obtain ⟨x, hx, rfl⟩ := List.mem_map.1 hv; obtain ⟨hx, h3⟩ := List.mem_filter.1 hx; have h4 := of_decide_eq_true h3; have h8 := (proc_nm (hkd x hx).2.1 h4).2
   have h9 : 0 ≤ x.nm := by
    have his := (hkd x hx).1; generalize x = y at his h4; obtain ⟨k, t, m, l⟩ := y; obtain rfl : k = 4 := h4; have hf := his.form; show 0 ≤ m
    cases hf
    assumption
   show x.nm / 8 = 0
   omega
 ·refine n7_bad _ ?_
  unfold ofR; rw [if_pos h0]; split
  ·exact (by decide : (0 : Int) ≠ 7)
  ·exact look7 _ _ _ _ _
end chklow
end Go.Proofs.YtpcihajmcejliabGreatDoor
namespace Go.Proofs.YtpcihajmcejliabGreatDoor
open Go.RowKit
namespace chkhi
open synw ofp chklow
theorem high_take (l : List Nd) (j : Nat) (h : j < l.length) : highL (l.take (j + 1)) = (highL (l.take j) || highF l[j]) := by
 induction l generalizing j with
 | nil => cases h
 | cons x r ih =>
  cases j with
  | zero => simp [highL]
  | succ j =>
   simp only [List.take_succ_cons, highL, List.getElem_cons_succ]; rw [ih j (by simpa using h), Bool.or_assoc]
theorem high_sub (l : List Nd) (j : Nat) (h : highL (l.take j) = true) : highL l = true := by
 induction l generalizing j with
 | nil => simp [highL] at h
 | cons x r ih =>
  cases j with
  | zero => simp [highL] at h
  | succ j =>
   simp only [List.take_succ_cons, highL, Bool.or_eq_true] at h ⊢; rcases h with h | h
   ·exact .inl h
   ·exact .inr (ih j h)
def HighC (x : Nd) : Prop := ∀ (v : Value) (w : World), NdAt w x v → IsNd x → Calls Tryz.prog 36 #[v] w fun e w' => e = .returned (.bool (highF x)) ∧ Ext w w'
set_option maxRecDepth 100000 in
set_option maxHeartbeats 8000000 in
theorem high_any : ∀ x, HighC x := by
 refine nd_ind fun k t m l ih v w hnd his => ?_
 rw [ndAt_mk] at hnd; obtain ⟨a, cc, rfl, hl1, hl2, hl3, hl4⟩ := hnd
 have hm0 : k = 3 ∨ k = 4 → 0 ≤ m ∧ m ≤ 11 := by
  have hf := his.form; intro h; cases hf <;> first | (exact ⟨by omega, by omega⟩) | (rcases h with h | h <;> cases h)
 obtain ⟨N, hN⟩ : ∃ N, l.length = N := ⟨_, rfl⟩; obtain ⟨o, ho⟩ : ∃ o, ownHigh (.mk k t m l) = o := ⟨_, rfl⟩; rw [hN] at hl1 ⊢; rw [highF, ho]; have HN := Z_ hN; have HO := Z_ ho; have HI := Z_ hl4; have HIH := Z_ ih; have HK := Z_ his.kids; have HM := Z_ hm0; have hNm : N ≤ 9223372036854775807 := by unfold maxLen at hl2; omega
 have HB := Z_ (Blk.made w #[.int .i64 k, .string t, .int .i64 m, .slice a N cc] 66); have HE := Z_ ((Chg.refl (fun _ => False) w).alloc (.cells #[.int .i64 k, .string t, .int .i64 m, .slice a N cc] 66)); obtain ⟨Nb, hNb⟩ : ∃ Nb, w.heap.size = Nb := ⟨_, rfl⟩; rw [hNb] at HB; clear hN ho hl4 ih his hm0 hl3; go_enter Tryz.func36, Tryz.ntmps36
 go_upto_region 1 with (fail)
 try rw [hNb]
 generalize w.alloc (.cells #[.int .i64 k, .string t, .int .i64 m, .slice a N cc] 66) = u0 at *; have hbc := HB.out.cell; go_cut [3] (fun s w' => s = .bool o ∧ w' = u0)
 case first =>
  by_cases k3 : k = 3
  ·subst k3
   have ht : m.tmod 2 = m % 2 := Int.tmod_eq_emod_of_nonneg (HM.out (by omega)).1; clear HM; go_wp2_with fail
   all_goals
    go_meet
    refine ⟨congrArg Value.bool ?_, rfl⟩
    rw [← HO.out]; rw [Bool.eq_iff_iff]; clear HO HB hbc
    first | (simp_all [ownHigh, Nd.kd, Nd.nm]; done) | (simp_all [ownHigh, Nd.kd, Nd.nm]; exact decide_eq_true_iff.symm)
  ·by_cases k4 : k = 4
   ·subst k4
    have ht : m.tmod 2 = m % 2 := Int.tmod_eq_emod_of_nonneg (HM.out (by omega)).1; clear HM; go_wp2_with fail
    all_goals
     go_meet
     refine ⟨congrArg Value.bool ?_, rfl⟩
     rw [← HO.out]; rw [Bool.eq_iff_iff]; clear HO HB hbc
     first | (simp_all [ownHigh, Nd.kd, Nd.nm]; done) | (simp_all [ownHigh, Nd.kd, Nd.nm]; exact decide_eq_true_iff.symm)
   ·by_cases k5 : k = 5
    ·subst k5
     clear HM; go_wp2_with fail
     all_goals
      go_meet
      refine ⟨congrArg Value.bool ?_, rfl⟩
      rw [← HO.out]; rw [Bool.eq_iff_iff]; clear HO HB hbc
      first | (simp_all [ownHigh, Nd.kd, Nd.nm]; done) | (simp_all [ownHigh, Nd.kd, Nd.nm]; exact decide_eq_true_iff.symm)
    ·by_cases k7 : k = 7
     ·subst k7
      clear HM; go_wp2_with fail
      all_goals
       go_meet
       refine ⟨congrArg Value.bool ?_, rfl⟩
       rw [← HO.out]; rw [Bool.eq_iff_iff]; clear HO HB hbc
       first | (simp_all [ownHigh, Nd.kd, Nd.nm]; done) | (simp_all [ownHigh, Nd.kd, Nd.nm]; exact decide_eq_true_iff.symm)
     ·by_cases k12 : k = 12
      ·subst k12
       clear HM; go_wp2_with fail
       all_goals
        go_meet
        refine ⟨congrArg Value.bool ?_, rfl⟩
        rw [← HO.out]; rw [Bool.eq_iff_iff]; clear HO HB hbc
        first | (simp_all [ownHigh, Nd.kd, Nd.nm]; done) | (simp_all [ownHigh, Nd.kd, Nd.nm]; exact decide_eq_true_iff.symm)
      ·by_cases k13 : k = 13
       ·subst k13
        clear HM; go_wp2_with fail
        all_goals
         go_meet
         refine ⟨congrArg Value.bool ?_, rfl⟩
         rw [← HO.out]; rw [Bool.eq_iff_iff]; clear HO HB hbc
         first | (simp_all [ownHigh, Nd.kd, Nd.nm]; done) | (simp_all [ownHigh, Nd.kd, Nd.nm]; exact decide_eq_true_iff.symm)
       ·have b3 : (k == 3) = false := beq_eq_false_iff_ne.2 k3
        have b4 : (k == 4) = false := beq_eq_false_iff_ne.2 k4; have b5 : (k == 5) = false := beq_eq_false_iff_ne.2 k5; have b7 : (k == 7) = false := beq_eq_false_iff_ne.2 k7; have b12 : (k == 12) = false := beq_eq_false_iff_ne.2 k12; have b13 : (k == 13) = false := beq_eq_false_iff_ne.2 k13; clear HM; go_wp2_with fail
        go_meet
        refine ⟨congrArg Value.bool ?_, rfl⟩
        rw [← HO.out]; rw [Bool.eq_iff_iff]; clear HO HB hbc
        first | (simp_all [ownHigh, Nd.kd, Nd.nm]; done) | (simp_all [ownHigh, Nd.kd, Nd.nm]; exact decide_eq_true_iff.symm)
 case rest =>
  obtain ⟨rfl, rfl⟩ := hcut; go_wp2_with fail
  go_loopw [3, 4] (fun s i wr => ∃ (j : Nat) (bv : Bool), j ≤ N ∧ s = .bool bv ∧ i = .int .i64 (j : Nat) ∧ Hid (bv = (o || highL (l.take j))) ∧ Hid (Ext w wr) ∧ Hid (Blk wr Nb #[.int .i64 k, .string t, .int .i64 m, .slice a N cc] 66)) (fun _ i _ => N - (intOf i).toNat)
  case atStart => exact ⟨0, o, Nat.zero_le _, rfl, rfl, Z_ (by simp [highL]), HE, HB⟩
  clear HB HE hbc
  case round =>
   obtain ⟨j, bv, hj, rfl, rfl, HBV, HE, HB⟩ := hrel; have hbc := HB.out.cell; by_cases hlt : j < N
   ·have hji : (j : Int) < (N : Int) := by omega
    have hjd : decide ((j : Int) < (N : Int)) = true := by simpa using hji
    cases bv with
    | true =>
     have HR := Z_ (show (o || highL l) = true from by
      have h := HBV.out; rw [Bool.or_eq_true]; rcases Bool.or_eq_true _ _ ▸ h.symm with h | h
      ·exact .inl h
      ·exact .inr (high_sub l j h))
     go_wp2_with fail
     go_ret
     exact ⟨by rw [HR.out]; rfl, HE.out⟩
    | false =>
     have hjl : j < l.length := by rw [HN.out]; exact hlt
     obtain ⟨b, oo, rfl, hb, uv, hu, hus, hcl⟩ := HI.out j hjl; have hih := HIH.out l[j] (List.getElem_mem hjl); have hisj := HK.out l[j] (List.getElem_mem hjl); have htk := high_take l j hjl; generalize l[j] = y at hu hih hisj htk; have hu2 := hu; obtain ⟨k1, t1, m1, a1, N1, c1, rfl⟩ := nd_form hu2; have hE := HE.out; have q0 : wr.cell? ⟨b, oo + j * 4, none⟩ = some (.int .i64 k1) := (hE.cell (p := ⟨b, oo + j * 4, none⟩) hb id).trans ((hcl 0 (by decide)).trans rfl); have q1 : wr.cell? ⟨b, oo + j * 4 + 1, none⟩ = some (.string t1) := (hE.cell (p := ⟨b, oo + j * 4 + 1, none⟩) hb id).trans ((hcl 1 (by decide)).trans rfl); have q2 : wr.cell? ⟨b, oo + j * 4 + 2, none⟩ = some (.int .i64 m1) := (hE.cell (p := ⟨b, oo + j * 4 + 2, none⟩) hb id).trans ((hcl 2 (by decide)).trans rfl); have q3 : wr.cell? ⟨b, oo + j * 4 + 3, none⟩ = some (.slice a1 N1 c1) := (hE.cell (p := ⟨b, oo + j * 4 + 3, none⟩) hb id).trans ((hcl 3 (by decide)).trans rfl)
     have HCL := Z_ (hih _ wr (ndAt_keeps hE.keeps _ _ hu) hisj); have HTK := Z_ htk; clear hih hisj htk hu hu2 hus hcl hE; go_wp2_with fail
     refine HCL.out.mono ?_
     rintro e w2 ⟨rfl, hE2⟩; have HE2 := Z_ (HE.out.ext hE2); have HB2 := Z_ (HB.out.ext hE2); clear q0 q1 q2 q3 HCL hE2 hbc; have HBV2 := Z_ (show highF y = (o || highL (l.take (j + 1))) from by rw [HTK.out, ← Bool.or_assoc, ← HBV.out]; rfl); clear HE HB HBV; go_wp2_with fail
     go_roundw
     case rel => exact ⟨j + 1, _, by omega, rfl, by go_num, HBV2, HE2, HB2⟩
     case measure => simp [intOf]; omega
   ·obtain rfl : j = N := by omega
    have hjd : decide ((j : Int) < (j : Int)) = false := by simp
    have HR := Z_ (show bv = (o || highL l) from by have h := HBV.out; rw [List.take_of_length_le (by rw [HN.out]; exact Nat.le_refl _)] at h; exact h); go_wp2_with fail
    go_ret
    exact ⟨by rw [← HR.out]; rfl, HE.out⟩
end chkhi
end Go.Proofs.YtpcihajmcejliabGreatDoor
namespace Go.Proofs.YtpcihajmcejliabGreatDoor
open Go.RowKit
namespace checkLow
open synw ofp chk chklow
theorem lit_ok : (nodeT (checkF ⟨#[109, 111, 100, 117, 108, 101, 32, 109, 59]⟩ [])).tx = ⟨#[109]⟩ := by kernel_rfl
theorem nd_tx {w : World} {x : Nd} {v : Value} (h : NdAt w x v) : ∃ k m a n c, v = .agg #[.int .i64 k, .string x.tx, .int .i64 m, .slice a n c] := by
 cases x with
 | mk k t m l =>
  rw [ndAt_mk] at h; obtain ⟨a, c, rfl, -⟩ := h; exact ⟨_, _, _, _, _, rfl⟩
set_option maxRecDepth 100000 in
set_option maxHeartbeats 4000000 in
theorem walk (s : ByteArray) (w : World) (hs : s.size ≤ 9223372036854775807) (hv : ErrVar w) (hm : MaxVar w) :
  Calls Tryz.prog 12 #[.string s] w fun e w' => e = .returned (.bool true) ∧ Ext w w' := by
 have CC := Z_ (fun (t : ByteArray) (u : World) (ht : t.size ≤ 9223372036854775807) (hE : Ext w u) => check_any t u [] none 0 ht (hv.ext hE) (hm.ext hE) (fun j hj => by cases hj) (Nat.le_refl _) (by decide) (fun f hf => by cases hf)); have CP := Z_ (fun (u : World) (hE : Ext w u) => parse_any s u hs (hv.ext hE) (hm.ext hE)); have HIS := Z_ (fun h => (parse_is s h).1); have HLW := Z_ (fun h1 h2 => check_low s h1 h2); have HS := Z_ hs; obtain ⟨Q, hQ⟩ : ∃ Q, parseR s = Q := ⟨_, rfl⟩; rw [hQ] at CP HIS HLW; obtain ⟨x, c, p⟩ := Q; replace HIS := Z_ (show c = 0 → IsNd x from HIS.out); replace HLW := Z_ (show c = 0 → highF x = false → N7 (checkF s []) from HLW.out); clear hQ hv hm hs; have h1 := (CC.out ⟨#[109, 111, 100, 117, 108, 101, 32, 109, 59]⟩ w (by decide) (Chg.refl _ _)); have HLIT := Z_ lit_ok; obtain ⟨T0, hT0⟩ : ∃ T0, checkF ⟨#[109, 111, 100, 117, 108, 101, 32, 109, 59]⟩ [] = T0 := ⟨_, rfl⟩
 obtain ⟨P0, hP0⟩ : ∃ P0, posC ⟨#[109, 111, 100, 117, 108, 101, 32, 109, 59]⟩ (givenF [] []) = P0 := ⟨_, rfl⟩; rw [hT0] at h1 HLIT; rw [hP0] at h1; have H1 := Z_ h1; clear h1 hT0 hP0; go_enter Tryz.func12, Tryz.ntmps12
 go_wp2_with fail
 refine H1.out.mono ?_
 rintro e w1 ⟨hE1, v1, rfl, hn1⟩; obtain ⟨k1, m1, a1, n1, c1, rfl⟩ := nd_tx hn1; rw [HLIT.out]; have HE1 := Z_ ((hE1.alloc (.cells #[.int .i64 k1, .string ⟨#[109]⟩, .int .i64 m1, .slice a1 n1 c1] 66)).alloc (.cells #[.int .i64 (codeT T0), .int .i64 (posT P0 T0)] 68)); clear hE1 hn1 H1; go_upto_region 4 with (fail)
 generalize (w1.alloc (.cells #[.int .i64 k1, .string ⟨#[109]⟩, .int .i64 m1, .slice a1 n1 c1] 66)).alloc (.cells #[.int .i64 (codeT T0), .int .i64 (posT P0 T0)] 68) = u1 at *; go_wp2_with fail
 refine (CP.out u1 HE1.out).mono ?_
 rintro e w2 ⟨hE2, v2, rfl, hn2⟩; replace hn2 : NdAt w2 x v2 := hn2; have hn3 := hn2; obtain ⟨k2, t2, m2, a2, n2, c2, rfl⟩ := nd_form hn3; have hex := ((Chg.refl (fun _ => False) w2).alloc (.cells #[.int .i64 k2, .string t2, .int .i64 m2, .slice a2 n2 c2] 66)).alloc (.cells #[.int .i64 c, .int .i64 p] 68); have HX := Z_ ((Blk.made w2 #[.int .i64 k2, .string t2, .int .i64 m2, .slice a2 n2 c2] 66).alloc (.cells #[.int .i64 c, .int .i64 p] 68)); have HF := Z_ (Blk.made2 w2 (.cells #[.int .i64 k2, .string t2, .int .i64 m2, .slice a2 n2 c2] 66) #[.int .i64 c, .int .i64 p] 68); have HN := Z_ (ndAt_keeps (Ext.keeps hex) _ _ hn2); have HE2 := Z_ ((HE1.out.ext hE2).ext hex); obtain ⟨X, hX⟩ : ∃ X, w2.heap.size = X := ⟨_, rfl⟩; rw [hX] at HX HF; clear hn2 hn3 hE2 hex HE1; go_upto_region 5 with (fail)
 try rw [hX]
 generalize (w2.alloc (.cells #[.int .i64 k2, .string t2, .int .i64 m2, .slice a2 n2 c2] 66)).alloc (.cells #[.int .i64 c, .int .i64 p] 68) = u2 at *; clear hX; have hxc := HX.out.cell; have hfc := HF.out.cell; by_cases hc : c = 0
 ·subst hc
  have HH := Z_ (chkhi.high_any x _ _ HN.out (HIS.out rfl)); have HL := Z_ (HLW.out rfl); obtain ⟨hb, hhb⟩ : ∃ hb, highF x = hb := ⟨_, rfl⟩; rw [hhb] at HH HL; go_wp2_with fail
  refine HH.out.mono ?_
  rintro e w3 ⟨rfl, hE3⟩; have HE3 := Z_ (HE2.out.ext hE3); clear hxc hfc hE3 HH hhb; cases hb with
  | true =>
   go_wp2_with fail
   go_ret
   exact ⟨rfl, HE3.out⟩
  | false =>
   have HL2 := Z_ (HL.out rfl); have HC2 := CC.out s w3 HS.out HE3.out; obtain ⟨T1, hT1⟩ : ∃ T1, checkF s [] = T1 := ⟨_, rfl⟩; obtain ⟨P1, hP1⟩ : ∃ P1, posC s (givenF [] []) = P1 := ⟨_, rfl⟩; rw [hT1] at HC2 HL2; rw [hP1] at HC2
   have hne : (codeT T1 != 7) = true := by
    rw [bne_iff_ne]; intro e; cases T1 with
    | bad c9 p9 => obtain rfl : c9 = 7 := e; exact HL2.out p9 rfl
    | ok r => cases e
   have H2 := Z_ HC2; clear HC2 hT1 hP1; go_wp2_with fail
   refine H2.out.mono ?_
   rintro e w4 ⟨hE4, v4, rfl, hn4⟩; obtain ⟨k4, m4, a4, n4, c4, rfl⟩ := nd_tx hn4; have HE4 := Z_ (((HE3.out.ext hE4).alloc (.cells #[.int .i64 k4, .string (nodeT T1).tx, .int .i64 m4, .slice a4 n4 c4] 66)).alloc (.cells #[.int .i64 (codeT T1), .int .i64 (posT P1 T1)] 68)); have hF4 := Blk.made2 w4 (.cells #[.int .i64 k4, .string (nodeT T1).tx, .int .i64 m4, .slice a4 n4 c4] 66) #[.int .i64 (codeT T1), .int .i64 (posT P1 T1)] 68; have hfc := hF4.cell; obtain ⟨cT, hcT⟩ : ∃ cT, codeT T1 = cT := ⟨_, rfl⟩; rw [hcT] at hne hfc HE4 ⊢; clear hE4 hn4 hF4 hcT H2; go_wp2_with fail
   go_ret
   exact ⟨by rw [← hne]; rfl, HE4.out⟩
 ·have hcn : (c != 0) = true := by simpa using hc
  go_wp2_with fail
  go_ret
  exact ⟨rfl, HE2.out⟩
end checkLow
end Go.Proofs.YtpcihajmcejliabGreatDoor
