/- A fault of the checker has a code that is not 0: plain Lean. The walk of Check. CheckMore, the plain law: a face that no import names changes nothing. The walk of has: does a row of words hold one? Two appends in a region that draws its order: a row of faces copied, one face more. -/
import Derived.Deep.AppendLies
import Derived.Deep.Upon
import Derived.Test.YtpcihajmcejliacGreatDoorOfS
import Derived.Test.YtpcihajmcejliacGreatDoorSynK
import Derived.Test.YtpcihajmcejliacGreatDoorChkW
import Derived.Test.YtpcihajmcejliacGreatDoorOfD
import Derived.Test.YtpcihajmcejliacGreatDoorLexNum
import Derived.Test.YtpcihajmcejliacGreatDoorSynC
namespace Go.Proofs.YtpcihajmcejliacGreatDoor
open Go.RowKit
namespace chkz
structure NZ {α : Type} (r : Rz α) : Prop where
 out : ∀ p, r ≠ .bad 0 p
theorem z_ok {α : Type} (x : α) : NZ (.ok x) := ⟨fun _ h => by cases h⟩
theorem z_bad {α : Type} {c : Int} (p : Nat) (h : c ≠ 0) : NZ (.bad c p : Rz α) := ⟨fun _ e => by cases e; exact h rfl⟩
theorem z_bind {α β : Type} {r : Rz α} {f : α → Rz β} (h : NZ r) (hf : ∀ x, NZ (f x)) : NZ (r.bind f) := by
 cases r with
 | bad c p => exact ⟨fun q e => h.out q (by cases e; rfl)⟩
 | ok x => exact hf x
theorem z_ite {α : Type} {P : Prop} [Decidable P] {a b : Rz α} (ha : NZ a) (hb : NZ b) : NZ (if P then a else b) := by
 split
 ·exact ha
 ·exact hb
theorem var_z (E : CEnv) (L : List Loc) (t : ByteArray) (p : Nat) : NZ (varF E L t p) := by
 unfold varF; split
 ·exact z_ok _
 ·split
  ·split
   ·exact z_ok _
   ·exact z_bad _ (by decide)
  ·exact z_bad _ (by decide)
theorem call_z (E : CEnv) (ctx : Int) (alone : Bool) (t : ByteArray) (ks : List Tr) (p : Nat) : NZ (callF E ctx alone t ks p) := by
 unfold callF callG; split
 ·exact z_bad _ (by decide)
 ·exact z_ite (z_bad _ (by decide)) (z_ite (z_bad _ (by decide)) (z_ite (z_bad _ (by decide)) (z_ite (z_bad _ (by decide)) (z_ok _))))
theorem fin_z (E : CEnv) (L : List Loc) (ctx : Int) (alone : Bool) (k : Int) (t : ByteArray) (m : Int) (ks : List Tr) (p : Nat) : NZ (finF E L ctx alone k t m ks p) := by
 unfold finF; exact z_ite (z_bind (var_z ..) fun r => z_ite (z_ok _) (z_bad _ (by decide))) (z_ite (z_bind (call_z ..) fun r => z_ok _) (z_ok _))
theorem exs_z (E : CEnv) (L : List Loc) (ctx : Int) : ∀ (l : List Nd), (∀ x ∈ l, ∀ alone p, NZ (exF E L ctx alone x p)) → ∀ p, NZ (exsF E L ctx l p) := by
 intro l; induction l with
 | nil => intro _ p; rw [exsF]; exact z_ok _
 | cons x r ih =>
  intro h p; rw [exsF]; exact z_bind (h x (List.mem_cons_self ..) false p) fun y => z_bind (ih (fun z hz => h z (List.mem_cons_of_mem _ hz)) _) fun ys => z_ok _
theorem ex_z (E : CEnv) (L : List Loc) (ctx : Int) : ∀ (x : Nd) (alone : Bool) (p : Nat), NZ (exF E L ctx alone x p) := by
 refine nd_ind fun k t m l ih alone p => ?_
 rw [exF]; exact z_bind (exs_z E L ctx l ih _) fun ks => fin_z ..
theorem end_z (pr : FProc) (L : List Loc) (deep ctx : Int) (last : Bool) (k : Int) (t : ByteArray) (m : Int) (ks : List Tr) (p : Nat) : NZ (endF pr L deep ctx last k t m ks p) := by
 unfold endF
 repeat' refine z_ite ?_ ?_
 all_goals first
  | exact z_bad _ (by decide)
  | exact z_ok _
theorem stks_z (E : CEnv) (pr : FProc) (ctx : Int) (alone : Bool) (L : List Loc) (deep : Int) : ∀ (l : List Nd), (∀ x ∈ l, ∀ c o L d p, NZ (blF E pr c o L d x p)) → ∀ b p, NZ (stksF E pr ctx alone L deep l b p) := by
 intro l; induction l with
 | nil => intro _ b p; rw [stksF]; exact z_ok _
 | cons x r ih =>
  intro h b p; rw [stksF]; exact z_bind (z_ite (h x (List.mem_cons_self ..) ..) (ex_z ..)) fun y => z_bind (ih (fun z hz => h z (List.mem_cons_of_mem _ hz)) _ _) fun ys => z_ok _
theorem sts_z (E : CEnv) (pr : FProc) (ctx : Int) (outer : Bool) (deep : Int) : ∀ (l : List Nd), (∀ x ∈ l, ∀ c o L d p, NZ (stF E pr c o L d x p)) → ∀ L p, NZ (stsF E pr ctx outer L deep l p) := by
 intro l; induction l with
 | nil => intro _ L p; rw [stsF]; exact z_ok _
 | cons x r ih =>
  intro h L p; rw [stsF]; exact z_bind (h x (List.mem_cons_self ..) ..) fun y => z_bind (ih (fun z hz => h z (List.mem_cons_of_mem _ hz)) _ _) fun ys => z_ok _
theorem both_z (E : CEnv) (pr : FProc) : ∀ (x : Nd), (∀ c o L d p, NZ (stF E pr c o L d x p)) ∧ ∀ c o L d p, NZ (blF E pr c o L d x p) := by
 refine nd_ind fun k t m l ih => ⟨fun c o L d p => ?_, fun c o L d p => ?_⟩
 ·rw [stF]
  exact z_bind (stks_z E pr c _ L d l (fun x hx => (ih x hx).2) _ _) fun ks => end_z ..
 ·rw [blF]
  exact z_bind (sts_z E pr c o d l (fun x hx => (ih x hx).1) _ _) fun ks => z_ok _
theorem body_z (E : CEnv) (pr : FProc) (x : Nd) (p : Nat) : NZ (bodyF E pr x p) := by
 unfold bodyF; exact z_bind ((both_z E pr _).2 ..) fun b => z_ite (z_bad _ (by decide)) (z_ok _)
theorem mod_z (own : FFace) (G : List (ByteArray × FFace)) : ∀ (l : List Nd), (∀ x ∈ l, x.kd = 2 ∨ x.kd = 3 ∨ x.kd = 4) → ∀ K B p, NZ (modF_ own G l K (procsF l) B p) := by
 intro l; induction l with
 | nil => intro _ K B p; rw [modF_]; exact z_ok _
 | cons x r ih =>
  intro h K B p; have ih2 := ih (fun z hz => h z (List.mem_cons_of_mem _ hz)); have hk := h x (List.mem_cons_self ..); by_cases h4 : x.kd = 4
  ·have e : procsF (x :: r) = procOf x :: procsF r := by unfold procsF; rw [List.filter_cons, if_pos (show isProc x = true from by unfold isProc; simpa using h4)]; rfl
   rw [e, modF_, if_neg (by omega), if_neg (by omega)]; exact z_bind (body_z ..) fun b => ih2 _ _ _
  ·have e : procsF (x :: r) = procsF r := by unfold procsF; rw [List.filter_cons, if_neg (show ¬ isProc x = true from by unfold isProc; simpa using h4)]
   rw [e]; unfold modF_; by_cases h2 : x.kd = 2
   ·rw [if_pos h2]
    split
    ·exact z_bad _ (by decide)
    ·exact ih2 _ _ _
   ·rw [if_neg h2, if_pos (by omega)]
    exact ih2 _ _ _
theorem check_z {s : ByteArray} {l : List FFace} (h : (ofR s).2.2.1 = 0 → ∀ x ∈ (parseR s).1.kids, x.kd = 2 ∨ x.kd = 3 ∨ x.kd = 4) : NZ (checkF s l) := by
 unfold checkF; split
 ·exact z_bad _ (by decide)
 ·by_cases h0 : (ofR s).2.2.1 = 0
  ·rw [if_pos h0]
   exact z_bind (mod_z _ _ _ (h h0) _ _ _) fun r => z_ok _
  ·rw [if_neg h0]
   exact z_bad _ h0
end chkz
end Go.Proofs.YtpcihajmcejliacGreatDoor
namespace Go.Proofs.YtpcihajmcejliacGreatDoor
open Go.RowKit
namespace chk
open synw ofp
def codeT {α : Type} (T : Rz α) : Int := match T with
 | .bad c _ => c
 | .ok _ => 0
def nodeT {α : Type} (T : Rz (Nd × α)) : Nd := match T with
 | .bad _ _ => zeroN
 | .ok r => r.1
def posT {α : Type} (P : Int) (T : Rz α) : Int := match T with
 | .bad _ _ => P
 | .ok _ => 0
def CheckPost (w : World) (P : Int) (T : Rz (Nd × List (ByteArray × FFace) × List (FProc × Tr))) (e : Ending) (w' : World) : Prop := Ext w w' ∧ ∃ v, e = .returned (.tuple #[v, .agg #[.int .i64 (codeT T), .int .i64 (posT P T)]]) ∧ NdAt w' (nodeT T) v
def CesF (R F : Nat) (nc fc : Array Value) (u0 : World) : List Value → World → Prop
 | [], u => Blk u R #[.int .i64 0, .string ⟨#[]⟩, .int .i64 0, .slice none 0 0] 24 ∧ Blk u F #[.int .i64 0, .int .i64 0] 27 ∧ Chg (fun i => i = R ∨ i = F) u0 u
 | [_], u => Blk u R nc 24 ∧ Blk u F #[.int .i64 0, .int .i64 0] 27 ∧ Chg (fun i => i = R ∨ i = F) u0 u
 | _, u => Blk u R nc 24 ∧ Blk u F fc 27 ∧ Chg (fun i => i = R ∨ i = F) u0 u
theorem CesF.c {R F : Nat} {nc fc : Array Value} {u0 : World} {vs : List Value} {u : World} (h : CesF R F nc fc u0 vs u) : Chg (fun i => i = R ∨ i = F) u0 u := by
 match vs, h with
 | [], h => exact h.2.2
 | [_], h => exact h.2.2
 | _ :: _ :: _, h => exact h.2.2
theorem zero_at (w : World) : NdAt w zeroN (.agg #[.int .i64 0, .string ⟨#[]⟩, .int .i64 0, .slice none 0 0]) := by
 unfold zeroN; rw [ndAt_mk]; exact ⟨none, 0, rfl, Nat.le_refl _, by decide, by decide, fun j hj => by cases hj⟩
set_option maxRecDepth 100000 in
set_option maxHeartbeats 8000000 in
theorem check_any (s : ByteArray) (w : World) (l : List FFace) (a : Option Addr) (c : Nat) (hs : s.size ≤ 9223372036854775807) (hv : ErrVar w) (hm : MaxVar w) (hl : AllIn 3 FaceIn w a l) (hlc : l.length ≤ c) (hcm : c ≤ maxLen) (hsum : ∀ f ∈ l, f.vars.length + f.procs.length < maxLen) :
  Calls Tryz.prog 17 #[.string s, .slice a l.length c] w (CheckPost w (posC s (givenF l [])) (checkF s l)) := by
 have hnz : chkz.NZ (checkF s l) := chkz.check_z fun h => fun x hx => ((text_ok h).1 x hx).2.1
 obtain ⟨R, hR⟩ : ∃ R, w.heap.size = R := ⟨_, rfl⟩; obtain ⟨F, hF⟩ : ∃ F, R + 1 = F := ⟨_, rfl⟩; have hR0 := (Blk.made w #[.int .i64 0, .string ⟨#[]⟩, .int .i64 0, .slice none 0 0] 24).alloc (.cells #[.int .i64 0, .int .i64 0] 27); have hF0 := Blk.made2 w (.cells #[.int .i64 0, .string ⟨#[]⟩, .int .i64 0, .slice none 0 0] 24) #[.int .i64 0, .int .i64 0] 27; rw [hR] at hR0 hF0; rw [hF] at hF0; have hX0 := ((Chg.refl (fun _ => False) w).alloc (.cells #[.int .i64 0, .string ⟨#[]⟩, .int .i64 0, .slice none 0 0] 24)).alloc (.cells #[.int .i64 0, .int .i64 0] 27); have HL := Z_ (clook_any s _ l a c hs (hv.ext hX0) (hm.ext hX0) (hl.mono hX0.size fun b o x hb h => FaceIn.ext hX0 hb h) hlc hcm hsum); obtain ⟨P, hP⟩ : ∃ P, posC s (givenF l []) = P := ⟨_, rfl⟩; obtain ⟨T, hT⟩ : ∃ T, checkF s l = T := ⟨_, rfl⟩; rw [hP, hT] at HL ⊢
 rw [hT] at hnz; obtain ⟨n, hn⟩ : ∃ n, l.length = n := ⟨_, rfl⟩; rw [hn] at HL ⊢; have HNZ := Z_ hnz; have hz0 : ((w.alloc (.cells #[.int .i64 0, .string ⟨#[]⟩, .int .i64 0, .slice none 0 0] 24)).alloc (.cells #[.int .i64 0, .int .i64 0] 27)).heap.size = F + 1 := by simp; omega
 have HR0 := Z_ hR0; have HF0 := Z_ hF0; have HX0 := Z_ hX0; have hRF : R < F := by omega
 clear hR0 hF0 hX0 hs hv hm hl hlc hcm hsum hP hT hn hnz; go_enter Tryz.func17, Tryz.ntmps17
 go_upto_region 1 with (fail)
 try rw [hF]
 generalize (w.alloc (.cells #[.int .i64 0, .string ⟨#[]⟩, .int .i64 0, .slice none 0 0] 24)).alloc (.cells #[.int .i64 0, .int .i64 0] 27) = u0 at *; go_wp2_with fail
 refine HL.out.mono ?_
 rintro e w1 ⟨hE1, hres⟩; have HR1 := Z_ (HR0.out.ext hE1); have HF1 := Z_ (HF0.out.ext hE1); have HX1 := Z_ (HX0.out.ext hE1); obtain ⟨V, hV⟩ : ∃ V, w1.heap.size = V := ⟨_, rfl⟩; have hFV : F < V := by rw [← hV]; exact HF1.out.lt
 cases T with
 | bad c9 p9 =>
  obtain ⟨vp, rfl⟩ := hres; have hc9 : c9 ≠ 0 := fun e => by subst e; exact HNZ.out.out p9 rfl
  have hcn : (c9 != 0) = true := by simpa using hc9
  have HV := Z_ (show Blk (w1.alloc (.cells #[.int .i64 c9, .int .i64 P] 27)) V #[.int .i64 c9, .int .i64 P] 27 by rw [← hV]; exact Blk.made w1 _ _); have HR2 := Z_ (HR1.out.alloc (.cells #[.int .i64 c9, .int .i64 P] 27)); have HF2 := Z_ (HF1.out.alloc (.cells #[.int .i64 c9, .int .i64 P] 27)); have HX2 := Z_ (HX1.out.alloc (.cells #[.int .i64 c9, .int .i64 P] 27)); clear HL HR0 HF0 HX0 hE1 HR1 HF1 HX1 hc9; go_upto_region 2 with (fail)
  try rw [hV]
  generalize w1.alloc (.cells #[.int .i64 c9, .int .i64 P] 27) = u2 at *; have hvc := HV.out.cell; go_upto_region 3 with (fail)
  clear hvc; refine wp_region_weave [2, 3] (fun i v _ => v = ([.agg #[.int .i64 0, .string ⟨#[]⟩, .int .i64 0, .slice none 0 0], .agg #[.int .i64 c9, .int .i64 P], undef, undef] : List Value).getD i undef) (CesF R F #[.int .i64 0, .string ⟨#[]⟩, .int .i64 0, .slice none 0 0] #[.int .i64 c9, .int .i64 P] u2) (fun _ _ => True) (frame := ?fraa) (fun x => ?hfaa) synw.mixed (by kernel_rfl) (by kernel_rfl) (fun _ _ _ _ h _ => h) ?h0a ?sta ?fina
  case hfaa =>
   simp only [chain.frameOf, chain.fill, chain.setOpt, chain.dstOf, List.size_toArray, List.length_cons, List.length_nil, List.getElem?_toArray, List.getElem?_cons_succ, List.getElem?_cons_zero, List.setIfInBounds_toArray, List.set_cons_succ, List.set_cons_zero]; exact rfl
  case h0a => exact ⟨HR2.out.drew, HF2.out.drew, (Chg.refl _ _).drew⟩
  case sta =>
   refine AllFrom.cons (fun x vs u hF hm hb hd K' hK' => ?sa0) (AllFrom.cons (fun x vs u hF hm hb hd K' hK' => ?sa1) (AllFrom.cons (fun x vs u hF hm hb hd K' hK' => ?sa2) (AllFrom.cons (fun x vs u hF hm hb hd K' hK' => ?sa3) (AllFrom.nil))))
   case sa0 =>
    have HF := Z_ hF; clear hd hm hb hF; go_simp; exact hK'.out _ _ _ (rfl) trivial ⟨rfl, HF.out⟩
   case sa1 =>
    have hq := (HV.out.chg hF.c (by omega)).cell; have HF := Z_ hF; clear hd hm hb hF; go_simp; exact hK'.out _ _ _ (rfl) trivial ⟨rfl, HF.out⟩
   case sa2 =>
    obtain rfl := List.eq_nil_of_length_eq_zero (hm 0 (by kernel_rfl)); have y0 := hd 0 (by decide) (by kernel_rfl); replace y0 : x 17 = .agg #[.int .i64 0, .string ⟨#[]⟩, .int .i64 0, .slice none 0 0] := y0; obtain ⟨g1, g2, g3⟩ := (show _ ∧ _ from hF); have hq := g1.cell; have hqf := g1.frozen; have hql := g1.lt; have HG := Z_ (And.intro g1 (And.intro g2 g3)); clear hd hm hb hF g1 g2 g3; go_simp; obtain ⟨g1, g2, g3⟩ := HG.out; exact hK'.out _ _ undef (by simp only [y0]; rfl) trivial ⟨((((g1.set 0 _).set 1 _).set 2 _).set 3 _), ((((g2.setOther (p := ⟨R, 0, none⟩) (by show F ≠ R; omega) _).setOther (p := ⟨R, 1, none⟩) (by show F ≠ R; omega) _).setOther (p := ⟨R, 2, none⟩) (by show F ≠ R; omega) _).setOther (p := ⟨R, 3, none⟩) (by show F ≠ R; omega) _), ((((g3.setCell (p := ⟨R, 0, none⟩) (fun _ => .inl rfl) _).setCell (p := ⟨R, 1, none⟩) (fun _ => .inl rfl) _).setCell (p := ⟨R, 2, none⟩) (fun _ => .inl rfl) _).setCell (p := ⟨R, 3, none⟩) (fun _ => .inl rfl) _)⟩
   case sa3 =>
    obtain ⟨v0, rfl⟩ : ∃ v0, vs = [v0] := by match vs, hm 1 (by kernel_rfl) with | [v0], _ => exact ⟨_, rfl⟩
    have y0 := hd 1 (by decide) (by kernel_rfl); replace y0 : x 18 = .agg #[.int .i64 c9, .int .i64 P] := y0; obtain ⟨g1, g2, g3⟩ := (show _ ∧ _ from hF); have hq := g2.cell; have hqf := g2.frozen; have hql := g2.lt; have HG := Z_ (And.intro g1 (And.intro g2 g3)); clear hd hm hb hF g1 g2 g3; go_simp; obtain ⟨g1, g2, g3⟩ := HG.out; exact hK'.out _ _ undef (by simp only [y0]; rfl) trivial ⟨(g1.setOther (p := ⟨F, 0, none⟩) (by show R ≠ F; omega) _).setOther (p := ⟨F, 1, none⟩) (by show R ≠ F; omega) _, (g2.set 0 _).set 1 _, (g3.setCell (p := ⟨F, 0, none⟩) (fun _ => .inr rfl) _).setCell (p := ⟨F, 1, none⟩) (fun _ => .inr rfl) _⟩
  case fina =>
   intro x9 vs9 w9 hl hF hk9; obtain ⟨v0, v1, rfl⟩ : ∃ v0 v1, vs9 = [v0, v1] := by match vs9, hl with | [v0, v1], _ => exact ⟨_, _, rfl⟩
   have HP9 := Z_ (show _ ∧ _ from hF); clear hk9 hl hF; go_wp2_with fail
   exact bodyPost_ret (results_cc2 rfl _ _ rfl HP9.out.1 Tryz.underlying24 rfl (by kernel_rfl) rfl HP9.out.2.1 Tryz.underlying27 rfl (by kernel_rfl)) rfl ⟨HX2.out.trans HP9.out.2.2 (fun i hi e => by omega), _, rfl, zero_at _⟩
 | ok r =>
  obtain ⟨Mo, D, bod, fac, d0, d1, d2, d3, d4, d5, d6, d7, d8, rfl, hmo, hd, hnd⟩ := hres; have HV := Z_ (show Blk (w1.alloc (.cells #[.int .i64 0, .int .i64 0] 27)) V #[.int .i64 0, .int .i64 0] 27 by rw [← hV]; exact Blk.made w1 _ _); have HR2 := Z_ (HR1.out.alloc (.cells #[.int .i64 0, .int .i64 0] 27)); have HF2 := Z_ (HF1.out.alloc (.cells #[.int .i64 0, .int .i64 0] 27)); have HX2 := Z_ (HX1.out.alloc (.cells #[.int .i64 0, .int .i64 0] 27)); have hMR := blk_ne hmo HR1.out (by simp); have hMF := blk_ne hmo HF1.out (by simp); have hDR := blk_ne hd HR1.out (by simp); have hDF := blk_ne hd HF1.out (by simp); obtain ⟨k0, t0, n0, a0, l0, c0, e0⟩ := nd_form hnd; cases e0
  have HMO := Z_ (hmo.alloc (.cells #[.int .i64 0, .int .i64 0] 27)); have HD := Z_ (hd.alloc (.cells #[.int .i64 0, .int .i64 0] 27)); have hex := (Chg.refl (fun _ => False) w1).alloc (.cells #[.int .i64 0, .int .i64 0] 27); have HND := Z_ (ndAt_keeps (keeps_chg (M := below (F + 1)) hex fun i _ e => e.elim) _ _ (by rw [← hz0]; exact hnd)); clear HL HR0 HF0 HX0 hE1 HR1 HF1 HX1 hmo hd hnd hex HNZ hz0; go_upto_region 2 with (fail)
  try rw [hV]
  generalize w1.alloc (.cells #[.int .i64 0, .int .i64 0] 27) = u2 at *; have hvc := HV.out.cell; go_upto_region 4 with (fail)
  clear hvc; refine wp_region_weave [8, 9] (fun i v _ => v = ([.pointer (some ⟨Mo, 0, none⟩), .pointer (some ⟨Mo, 0, none⟩), .pointer (some ⟨Mo, 0, none⟩), .pointer (some ⟨D, 0, none⟩), .pointer (some ⟨D, 0, none⟩), .pointer (some ⟨D, 3, none⟩), .agg #[.int .i64 k0, .string t0, .int .i64 n0, .slice a0 l0 c0], .agg #[.int .i64 0, .int .i64 0], undef, undef] : List Value).getD i undef) (CesF R F #[.int .i64 k0, .string t0, .int .i64 n0, .slice a0 l0 c0] #[.int .i64 0, .int .i64 0] u2) (fun _ _ => True) (frame := ?frab) (fun x => ?hfab) synw.mixed (by kernel_rfl) (by kernel_rfl) (fun _ _ _ _ h _ => h) ?h0b ?stb ?finb
  case hfab =>
   simp only [chain.frameOf, chain.fill, chain.setOpt, chain.dstOf, List.size_toArray, List.length_cons, List.length_nil, List.getElem?_toArray, List.getElem?_cons_succ, List.getElem?_cons_zero, List.setIfInBounds_toArray, List.set_cons_succ, List.set_cons_zero]; exact rfl
  case h0b => exact ⟨HR2.out.drew, HF2.out.drew, (Chg.refl _ _).drew⟩
  case stb =>
   refine AllFrom.cons (fun x vs u hF hm hb hd K' hK' => ?sb0) (AllFrom.cons (fun x vs u hF hm hb hd K' hK' => ?sb1) (AllFrom.cons (fun x vs u hF hm hb hd K' hK' => ?sb2) (AllFrom.cons (fun x vs u hF hm hb hd K' hK' => ?sb3) (AllFrom.cons (fun x vs u hF hm hb hd K' hK' => ?sb4) (AllFrom.cons (fun x vs u hF hm hb hd K' hK' => ?sb5) (AllFrom.cons (fun x vs u hF hm hb hd K' hK' => ?sb6) (AllFrom.cons (fun x vs u hF hm hb hd K' hK' => ?sb7) (AllFrom.cons (fun x vs u hF hm hb hd K' hK' => ?sb8) (AllFrom.cons (fun x vs u hF hm hb hd K' hK' => ?sb9) (AllFrom.nil))))))))))
   case sb0 =>
    have HF := Z_ hF; clear hd hm hb hF; go_simp; exact hK'.out _ _ _ (rfl) trivial ⟨rfl, HF.out⟩
   case sb1 =>
    have y0 := hd 0 (by decide) (by kernel_rfl); replace y0 : x 19 = .pointer (some ⟨Mo, 0, none⟩) := y0; have HF := Z_ hF; clear hd hm hb hF; go_simp; exact hK'.out _ _ _ (by simp only [y0]; rfl) trivial ⟨rfl, HF.out⟩
   case sb2 =>
    have y0 := hd 1 (by decide) (by kernel_rfl); replace y0 : x 20 = .pointer (some ⟨Mo, 0, none⟩) := y0; have HF := Z_ hF; clear hd hm hb hF; go_simp; exact hK'.out _ _ _ (by simp only [y0]; rfl) trivial ⟨rfl, HF.out⟩
   case sb3 =>
    have hq := (HMO.out.chg hF.c (by omega)).cell; have y0 := hd 2 (by decide) (by kernel_rfl); replace y0 : x 21 = .pointer (some ⟨Mo, 0, none⟩) := y0; have HF := Z_ hF; clear hd hm hb hF; go_simp; exact hK'.out _ _ _ (by simp only [y0]; rfl) trivial ⟨rfl, HF.out⟩
   case sb4 =>
    have y0 := hd 3 (by decide) (by kernel_rfl); replace y0 : x 22 = .pointer (some ⟨D, 0, none⟩) := y0; have HF := Z_ hF; clear hd hm hb hF; go_simp; exact hK'.out _ _ _ (by simp only [y0]; rfl) trivial ⟨rfl, HF.out⟩
   case sb5 =>
    have y0 := hd 4 (by decide) (by kernel_rfl); replace y0 : x 23 = .pointer (some ⟨D, 0, none⟩) := y0; have HF := Z_ hF; clear hd hm hb hF; go_simp; exact hK'.out _ _ _ (by simp only [y0]; rfl) trivial ⟨rfl, HF.out⟩
   case sb6 =>
    have hq := (HD.out.chg hF.c (by omega)).cell; have y0 := hd 5 (by decide) (by kernel_rfl); replace y0 : x 24 = .pointer (some ⟨D, 3, none⟩) := y0; have HF := Z_ hF; clear hd hm hb hF; go_simp; exact hK'.out _ _ _ (by simp only [y0]; rfl) trivial ⟨rfl, HF.out⟩
   case sb7 =>
    have hq := (HV.out.chg hF.c (by omega)).cell; have HF := Z_ hF; clear hd hm hb hF; go_simp; exact hK'.out _ _ _ (rfl) trivial ⟨rfl, HF.out⟩
   case sb8 =>
    obtain rfl := List.eq_nil_of_length_eq_zero (hm 0 (by kernel_rfl)); have y0 := hd 6 (by decide) (by kernel_rfl); replace y0 : x 25 = .agg #[.int .i64 k0, .string t0, .int .i64 n0, .slice a0 l0 c0] := y0; obtain ⟨g1, g2, g3⟩ := (show _ ∧ _ from hF); have hq := g1.cell; have hqf := g1.frozen; have hql := g1.lt; have HG := Z_ (And.intro g1 (And.intro g2 g3)); clear hd hm hb hF g1 g2 g3; go_simp; obtain ⟨g1, g2, g3⟩ := HG.out; exact hK'.out _ _ undef (by simp only [y0]; rfl) trivial ⟨((((g1.set 0 _).set 1 _).set 2 _).set 3 _), ((((g2.setOther (p := ⟨R, 0, none⟩) (by show F ≠ R; omega) _).setOther (p := ⟨R, 1, none⟩) (by show F ≠ R; omega) _).setOther (p := ⟨R, 2, none⟩) (by show F ≠ R; omega) _).setOther (p := ⟨R, 3, none⟩) (by show F ≠ R; omega) _), ((((g3.setCell (p := ⟨R, 0, none⟩) (fun _ => .inl rfl) _).setCell (p := ⟨R, 1, none⟩) (fun _ => .inl rfl) _).setCell (p := ⟨R, 2, none⟩) (fun _ => .inl rfl) _).setCell (p := ⟨R, 3, none⟩) (fun _ => .inl rfl) _)⟩
   case sb9 =>
    obtain ⟨v0, rfl⟩ : ∃ v0, vs = [v0] := by match vs, hm 1 (by kernel_rfl) with | [v0], _ => exact ⟨_, rfl⟩
    have y0 := hd 7 (by decide) (by kernel_rfl); replace y0 : x 26 = .agg #[.int .i64 0, .int .i64 0] := y0; obtain ⟨g1, g2, g3⟩ := (show _ ∧ _ from hF); have hq := g2.cell; have hqf := g2.frozen; have hql := g2.lt; have HG := Z_ (And.intro g1 (And.intro g2 g3)); clear hd hm hb hF g1 g2 g3; go_simp; obtain ⟨g1, g2, g3⟩ := HG.out; exact hK'.out _ _ undef (by simp only [y0]; rfl) trivial ⟨(g1.setOther (p := ⟨F, 0, none⟩) (by show R ≠ F; omega) _).setOther (p := ⟨F, 1, none⟩) (by show R ≠ F; omega) _, (g2.set 0 _).set 1 _, (g3.setCell (p := ⟨F, 0, none⟩) (fun _ => .inr rfl) _).setCell (p := ⟨F, 1, none⟩) (fun _ => .inr rfl) _⟩
  case finb =>
   intro x9 vs9 w9 hl hF hk9; obtain ⟨v0, v1, rfl⟩ : ∃ v0 v1, vs9 = [v0, v1] := by match vs9, hl with | [v0, v1], _ => exact ⟨_, _, rfl⟩
   have HP9 := Z_ (show _ ∧ _ from hF); clear hk9 hl hF; go_wp2_with fail
   exact bodyPost_ret (results_cc2 rfl _ _ rfl HP9.out.1 Tryz.underlying24 rfl (by kernel_rfl) rfl HP9.out.2.1 Tryz.underlying27 rfl (by kernel_rfl)) rfl ⟨HX2.out.trans HP9.out.2.2 (fun i hi e => by omega), _, rfl, ndAt_keeps (keeps_bare _ _) _ _ (ndAt_keeps (keeps_chg (M := below (F + 1)) HP9.out.2.2 fun i _ e => by rcases e with e | e <;> (subst e; simp [below]; try omega)) _ _ HND.out)⟩
end chk
end Go.Proofs.YtpcihajmcejliacGreatDoor
namespace Go.Proofs.YtpcihajmcejliacGreatDoor
open Go.RowKit
namespace chkmore
open chk
theorem known_app (G : List (ByteArray × FFace)) (m : ByteArray) (f : FFace) (s : ByteArray) (h : s ≠ m) : knownF (G ++ [(m, f)]) s = knownF G s := by
 induction G with
 | nil =>
  simp only [List.nil_append, knownF]; rw [if_neg (fun e => h e.symm)]
 | cons g r ih =>
  obtain ⟨x, y⟩ := g; rw [List.cons_append]; simp only [knownF]; rw [ih]
theorem given_app (m : FFace) (hm : mayFaceB m = true) : ∀ (l : List FFace) (G : List (ByteArray × FFace)), (∀ f ∈ l, f.modn ≠ m.modn) → knownF G m.modn = none →
  givenF (l ++ [m]) G = (givenF l G).map (fun G => G ++ [(m.modn, m)]) := by
 intro l; induction l with
 | nil =>
  intro G _ hk; simp only [List.nil_append, givenF, hk, hm]; rfl
 | cons f r ih =>
  intro G hd hk; rw [List.cons_append]; simp only [givenF]; by_cases h : (knownF G f.modn).isSome = true ∨ mayFaceB f = false
  ·rw [if_pos h, if_pos h]; rfl
  ·rw [if_neg h, if_neg h]
   exact ih _ (fun x hx => hd x (List.mem_cons_of_mem _ hx)) (by rw [known_app _ _ _ _ (fun e => hd f (List.mem_cons_self ..) e.symm)]; exact hk)
theorem mod_app (own : FFace) (G : List (ByteArray × FFace)) (m : ByteArray) (f : FFace) : ∀ (l : List Nd) (K : List (ByteArray × FFace)) (ps : List FProc) (B : List (FProc × Tr)) (a : Nat), (∀ x ∈ l, x.kd = 2 → x.tx ≠ m) →
  modF_ own (G ++ [(m, f)]) l K ps B a = modF_ own G l K ps B a := by
 intro l; induction l with
 | nil => intros; rfl
 | cons x r ih =>
  intro K ps B a h; have h2 : ∀ y ∈ r, y.kd = 2 → y.tx ≠ m := fun y hy => h y (List.mem_cons_of_mem _ hy)
  unfold modF_; by_cases hk : x.kd = 2
  ·rw [if_pos hk, if_pos hk, known_app _ _ _ _ (h x (List.mem_cons_self ..) hk)]
   cases knownF G x.tx with
   | none => rfl
   | some g => exact ih _ _ _ _ h2
  ·rw [if_neg hk, if_neg hk]
   by_cases h3 : x.kd = 3
   ·rw [if_pos h3, if_pos h3]; exact ih _ _ _ _ h2
   ·rw [if_neg h3, if_neg h3]
    cases ps with
    | nil => rfl
    | cons p q =>
     show Rz.bind _ _ = Rz.bind _ _
     congr 1
     funext b
     exact ih _ _ _ _ h2
theorem imps_of {s : ByteArray} (h : (ofR s).2.2.1 = 0) : (ofR s).2.1 = impsF (parseR s).1.kids := by
 have h2 := of_ok h; unfold ofR; rw [if_pos h2.1, if_pos h2.2.1]
theorem more_same (s : ByteArray) (l : List FFace) (m : FFace) (h0 : (ofR s).2.2.1 = 0) (hi : m.modn ∉ (ofR s).2.1) (hm : mayFaceB m = true) (hd : ∀ f ∈ l, f.modn ≠ m.modn) :
  checkF s (l ++ [m]) = checkF s l ∧ posC s (givenF (l ++ [m]) []) = posC s (givenF l []) := by
 have hg := given_app m hm l [] hd rfl
 have hk : ∀ x ∈ (parseR s).1.kids, x.kd = 2 → x.tx ≠ m.modn := by
  intro x hx hk e; apply hi
  rw [imps_of h0]; unfold impsF; exact List.mem_map.2 ⟨x, List.mem_filter.2 ⟨hx, by unfold isImp; simpa using hk⟩, e⟩
 unfold checkF posC; rw [hg]; cases givenF l [] with
 | none => exact ⟨rfl, rfl⟩
 | some G =>
  simp only [Option.map_some]; rw [if_pos h0, if_pos h0, if_pos h0, if_pos h0, mod_app _ _ _ _ _ _ _ _ _ hk]; exact ⟨rfl, rfl⟩
theorem bad_code (s : ByteArray) (l : List FFace) (h : (ofR s).2.2.1 ≠ 0) : codeT (checkF s l) ≠ 0 := by
 unfold checkF; cases givenF l [] with
 | none => exact (by decide : (2 : Int) ≠ 0)
 | some G =>
  simp only []; rw [if_neg h]; exact h
theorem ok_kind (s : ByteArray) (l : List FFace) (h : codeT (checkF s l) = 0) : (nodeT (checkF s l)).kd = 1 := by
 have hnz : chkz.NZ (checkF s l) := chkz.check_z fun h => fun x hx => ((text_ok h).1 x hx).2.1
 have key : ∀ r, checkF s l = .ok r → r.1.kd = 1 := by
  intro r hr; unfold checkF at hr; revert hr
  cases givenF l [] with
  | none => intro hr; cases hr
  | some G =>
   intro hr; simp only [] at hr; by_cases h0 : (ofR s).2.2.1 = 0
   ·rw [if_pos h0] at hr
    have hp := (parse_is s (of_ok h0).1).2.1; revert hr
    cases modF_ ⟨(parseR s).1.tx, varsF (parseR s).1.kids, procsF (parseR s).1.kids⟩ G (parseR s).1.kids [] (procsF (parseR s).1.kids) [] 1 with
    | bad c p => intro hr; cases hr
    | ok y =>
     intro hr; cases hr
     exact hp
   ·rw [if_neg h0] at hr; cases hr
 revert h hnz key
 cases checkF s l with
 | bad c p =>
  intro h hnz _; obtain rfl : c = 0 := h; exact absurd rfl (hnz.1 p)
 | ok r => intro _ _ key; exact key r rfl
end chkmore
end Go.Proofs.YtpcihajmcejliacGreatDoor
namespace Go.Proofs.YtpcihajmcejliacGreatDoor
open Go.RowKit
namespace chkmore
open ofp
theorem str_ext {w w' : World} (hE : Ext w w') {b o : Nat} {x : ByteArray} (hb : b < w.heap.size) (h : StrIn w b o x) : StrIn w' b o x := ⟨by rw [hE.cell (by exact hb) id]; exact h.1, h.2⟩
def hasB (l : List ByteArray) (s : ByteArray) : Bool := l.any fun x => decide (x = s)
theorem has_drop {l : List ByteArray} {k : Nat} {s : ByteArray} (h : k < l.length) : hasB (l.drop k) s = (decide (l[k] = s) || hasB (l.drop (k + 1)) s) := by
 rw [List.drop_eq_getElem_cons h]; rfl
set_option maxRecDepth 100000 in
set_option maxHeartbeats 2000000 in
theorem has_any (a : Option Addr) (l : List ByteArray) (n cap : Nat) (s : ByteArray) (w : World) (hn : l.length = n) (hl : AllIn 1 StrIn w a l) (hm : n ≤ 9223372036854775807) :
  Calls Tryz.prog 19 #[.slice a n cap, .string s] w fun e w' => e = .returned (.bool (hasB l s)) ∧ Ext w w' := by
 obtain ⟨R, hR⟩ : ∃ R, hasB l s = R := ⟨_, rfl⟩; rw [hR]; have HR := Z_ hR; have HN := Z_ hn; have HL := Z_ hl; clear hR hn hl; go_enter Tryz.func19, Tryz.ntmps19
 go_wp2_with fail
 go_loopw [5] (fun i wr => ∃ k : Nat, k ≤ n ∧ i = .int .i64 k ∧ Ext w wr ∧ Hid (hasB (l.drop k) s = R)) (fun i _ => n - (intOf i).toNat)
 case atStart => exact ⟨0, Nat.zero_le _, rfl, Chg.refl _ _, by unfold Hid; exact HR.out⟩
 case round =>
  obtain ⟨k, hk, rfl, hE, hr⟩ := hrel; by_cases hlt : k < n
  ·have hkl : k < l.length := by rw [HN.out]; exact hlt
   obtain ⟨b, o, rfl, hb, hc⟩ := HL.out k hkl; obtain ⟨c0, -⟩ := str_ext hE hb hc; have HF := Z_ ((has_drop (s := s) hkl).symm.trans hr.out); clear hc hr; generalize l[k] = nm at *; rw [show o + k * 1 = o + k from by rw [Nat.mul_one]] at c0; by_cases hs : nm = s
   ·subst hs
    have HF2 := Z_ (show R = true by rw [← HF.out]; simp); go_wp2_with fail
    go_ret
    rw [HF2.out]; exact ⟨rfl, hE⟩
   ·have HF2 := Z_ (show hasB (l.drop (k + 1)) s = R by rw [← HF.out]; simp [hs])
    have h0 : (nm.toList == s.toList) = false := by rw [ByteArray.toList_eq, ByteArray.toList_eq]; simpa [ByteArray.ext_iff] using hs
    have h1 : (nm.data.toList == s.data.toList) = false := by simpa [ByteArray.ext_iff] using hs
    clear hs HF; go_wp2_with fail
    go_roundw
    case rel => exact ⟨k + 1, by omega, by go_num, hE, HF2.out⟩
    case measure => simp [intOf]; omega
  ·obtain rfl : k = n := by omega
   have HF2 := Z_ (show R = false by rw [← hr.out, List.drop_of_length_le (by rw [HN.out]; exact Nat.le_refl _)]; rfl); clear hr; go_wp2_with fail
   go_ret
   rw [HF2.out]; exact ⟨rfl, hE⟩
end chkmore
end Go.Proofs.YtpcihajmcejliacGreatDoor
namespace Go.Proofs.YtpcihajmcejliacGreatDoor
open Go.RowKit
namespace chkmore
open ofp
def WF (W : World) (n : Nat) (xs mc : List Value) : List Value → World → Prop
 | [], u => Ext W u
 | [v], u => Ext W u ∧ ∃ g, v = .slice (some ⟨g, 0, none⟩) 0 0 ∧ Blk u g #[] 37 ∧ W.heap.size ≤ g
 | [_, v], u => Ext W u ∧ u.ownsRow W.heap.size 37 3 v n xs ∧ (n = 0 → ∃ g, v = .slice (some ⟨g, 0, none⟩) 0 0 ∧ Blk u g #[] 37)
 | [_, _, v], u => Ext W u ∧ (∃ g c, v = .slice (some ⟨g, 0, none⟩) (n + 1) c) ∧ u.ownsRow W.heap.size 37 3 v (n + 1) (xs ++ mc)
 | [_, _, v, r], u => r = v ∧ Ext W u ∧ (∃ g c, v = .slice (some ⟨g, 0, none⟩) (n + 1) c) ∧ u.ownsRow W.heap.size 37 3 v (n + 1) (xs ++ mc)
 | _, _ => False
theorem WF.base {W : World} {n : Nat} {xs mc vs : List Value} {u : World} (h : WF W n xs mc vs u) : Ext W u := by
 match vs, h with
 | [], h => exact h
 | [_], h => exact h.1
 | [_, _], h => exact h.1
 | [_, _, _], h => exact h.1
 | [_, _, _, _], h => exact h.2.1
theorem WF.alloc {W : World} {n : Nat} {xs mc vs : List Value} {u : World} (h : WF W n xs mc vs u) (o : Obj) : WF W n xs mc vs (u.alloc o) := by
 have hX := (Chg.refl (fun _ => False) u).alloc o; match vs, h with
 | [], h => exact Chg.alloc h o
 | [_], ⟨h, g, e, hb, hg⟩ => exact ⟨h.alloc o, g, e, hb.alloc o, hg⟩
 | [_, _], ⟨h, ho, hn⟩ => exact ⟨h.alloc o, ownsRow_ext ho hX, fun e => by obtain ⟨g, e1, hb⟩ := hn e; exact ⟨g, e1, hb.alloc o⟩⟩
 | [_, _, _], ⟨h, hg, ho⟩ => exact ⟨h.alloc o, hg, ownsRow_ext ho hX⟩
 | [_, _, _, _], ⟨e, h, hg, ho⟩ => exact ⟨e, h.alloc o, hg, ownsRow_ext ho hX⟩
def SpW (fa : Option Addr) (n cap : Nat) (mc : Array Value) : Nat → Value → World → Prop
 | 1, v, _ => v = .slice fa n cap
 | 3, v, _ => v = .agg mc
 | 4, v, u => ∃ g, v = .slice (some ⟨g, 0, none⟩) 1 1 ∧ Blk u g mc 37
 | _, _, _ => True
def GW (mc : Array Value) (u u' : World) : Prop := ∀ g, Blk u g mc 37 → Blk u' g mc 37
theorem spw_stab {fa : Option Addr} {n cap : Nat} {mc : Array Value} (i : Nat) (v : Value) (u u' : World) (h : SpW fa n cap mc i v u) (hG : GW mc u u') : SpW fa n cap mc i v u' := by
 unfold SpW at *; split at h
 ·exact h
 ·exact h
 ·obtain ⟨g, e, hb⟩ := h; exact ⟨g, e, hG g hb⟩
 ·trivial
theorem gw_ext {mc : Array Value} {u u' : World} (h : Ext u u') : GW mc u u' := fun _ hb => hb.ext h
theorem row_apart {u : World} {N n : Nat} {v : Value} {xs : List Value} {s : ByteArray} {p q : Value} (h : u.ownsRow N 37 3 v n xs) (hn : 0 < n) (hx : xs[0]? ≠ some (.string s)) {g : Nat} (hg : v.ownBlock = some g) : ¬ Blk u g #[.string s, p, q] 37 := by
 obtain ⟨hl, h2⟩ := h; intro hb; rcases h2 with ⟨rfl, h0⟩ | ⟨g', cap, cur, rfl, -, hh, h3, h4, h5, h6⟩
 ·omega
 ·obtain rfl : g' = g := by simpa [Value.ownBlock] using hg
  unfold Blk at hb; rw [hh] at hb; obtain rfl : cur = #[.string s, p, q] := by simpa using hb
  apply hx
  rw [← h6, List.getElem?_take, if_pos (by omega)]; rfl
theorem nil_apart {u : World} {g : Nat} {s : ByteArray} {p q : Value} (h : Blk u g #[] 37) : ¬ Blk u g #[.string s, p, q] 37 := fun hb => by
 unfold Blk at h hb; rw [h] at hb; simp at hb
theorem gw_grown {s : ByteArray} {p q : Value} {u u' : World} {own : Option Nat} (hg : u.grownBy u' own) (hn : ∀ g, own = some g → ¬ Blk u g #[.string s, p, q] 37) : GW #[.string s, p, q] u u' := fun g hb => hb.chg (grown_own hg) fun e => hn g e hb
theorem face_cells {w : World} {b o : Nat} {l : List FFace} (h : AllIn 3 FaceIn w (some ⟨b, o, none⟩) l) : ∃ xs : List Value, xs.length = l.length * 3 ∧ (∀ j u, xs[j]? = some u → w.cell? ⟨b, o + j, none⟩ = some u) ∧ (∀ u ∈ xs, u.oneCell' = true) := by
 have key : ∀ j, j < l.length * 3 → ∃ u, w.cell? ⟨b, o + j, none⟩ = some u ∧ u.oneCell' = true := by
  intro j hj; obtain ⟨b', o', e, -, a, m, c, d, h0, h1, h2, -⟩ := h (j / 3) (by omega); obtain ⟨rfl, rfl⟩ : b = b' ∧ o = o' := by simpa using e
  have hr : j % 3 = 0 ∨ j % 3 = 1 ∨ j % 3 = 2 := by omega
  rcases hr with hr | hr | hr
  ·rw [show o + j = o + j / 3 * 3 by omega]; exact ⟨_, h0, rfl⟩
  ·rw [show o + j = o + j / 3 * 3 + 1 by omega]; exact ⟨_, h1, rfl⟩
  ·rw [show o + j = o + j / 3 * 3 + 2 by omega]; exact ⟨_, h2, rfl⟩
 refine ⟨(List.range (l.length * 3)).map fun j => (w.cell? ⟨b, o + j, none⟩).getD undef, by simp, fun j u hu => ?_, fun u hu => ?_⟩
 ·rw [List.getElem?_map] at hu
  rcases Nat.lt_or_ge j (l.length * 3) with hj | hj
  ·rw [List.getElem?_range hj] at hu
   obtain ⟨v, hv, -⟩ := key j hj; simp only [Option.map_some, hv, Option.getD_some, Option.some.injEq] at hu; rw [hv, hu]
  ·rw [List.getElem?_eq_none (by simpa using hj)] at hu; cases hu
 ·obtain ⟨j, hj, rfl⟩ := List.mem_map.1 hu
  obtain ⟨v, hv, h1⟩ := key j (List.mem_range.1 hj); rw [hv]; exact h1
theorem info_fc : (Tryz.prog.info? 37).map (fun i => (i.zero, i.size, i.bytes)) = some (some (.agg #[.string ⟨#[]⟩, .slice none 0 0, .slice none 0 0]), 3, 64) := by kernel_rfl
theorem wp_append_none {P : Program} {w : World} {o : Oper} {a : Act} {K : Act → World → Prop} {Q : Exit → Act → World → Prop} (s x : Operand) (t : TypeId) (ho : o.op = .call { callee := .builtin .append, args := #[s, x], argTypes := #[t, t] })
  (e : TypeId) (i : TypeInfo) (ht : P.underlying t = some (.slice e)) (hi : P.info? e = some i) (b : Option Addr) (n c : Nat) (hle : n ≤ c) (hs : a.eval s = .slice b n c) (v : Value) (hx : a.eval x = v) (hsrc : Src P i.size t v 0 [] w) (h : K (a.put o.dst (.slice b n c)) w) : o.wp P a w K Q := by
 have hr := run_append_nothing (P := P) w t t o.type e i ht hi b n c hle v hsrc; unfold Oper.wp execOp; simp only [ho, resolve, invoke, builtin, Sem.run_bind, Sem.run_pure, Result.andThen_ok, List.map_toArray, List.map_cons, List.map_nil, hs, hx, hr]; exact h
theorem own_base {u : World} {N n : Nat} {v : Value} {xs : List Value} (h : u.ownsRow N 37 3 v n xs) {g : Nat} (hg : v.ownBlock = some g) : N ≤ g := by
 rcases h.2 with ⟨rfl, h0⟩ | ⟨g', cap, cur, rfl, h1, -⟩
 ·cases hg
 ·obtain rfl : g' = g := by simpa [Value.ownBlock] using hg
  exact h1
theorem src_none {fa : Option Addr} {cap : Nat} (w : World) : Src Tryz.prog 3 33 (.slice fa 0 cap) 0 [] w := by
 cases fa with
 | none => exact Src.ofNil w Tryz.underlying33 cap
 | some a => exact Src.ofSlice w Tryz.underlying33 a 0 cap [] rfl (fun j u hu => by simp at hu) (fun _ h => by simp at h)
theorem wide_in {W u : World} {fa : Option Addr} {l : List FFace} {m : FFace} {xs : List Value} {N g c : Nat} {ma mp : Option Addr} {mc mq : Nat} (hE : Ext W u) (hl : AllIn 3 FaceIn W fa l) (hxl : xs.length = l.length * 3) (hx : ∀ b o, fa = some ⟨b, o, none⟩ → ∀ j v, xs[j]? = some v → W.cell? ⟨b, o + j, none⟩ = some v)
  (hm : FaceAt W m (.agg #[.string m.modn, .slice ma m.vars.length mc, .slice mp m.procs.length mq])) (h : u.ownsRow N 37 3 (.slice (some ⟨g, 0, none⟩) (l.length + 1) c) (l.length + 1) (xs ++ [.string m.modn, .slice ma m.vars.length mc, .slice mp m.procs.length mq])) :
  AllIn 3 FaceIn u (some ⟨g, 0, none⟩) (l ++ [m]) ∧ l.length + 1 ≤ c ∧ c ≤ maxLen := by
 obtain ⟨hlen, h2⟩ := h; rcases h2 with ⟨e, -⟩ | ⟨g', cap, cur, e, -, hh, h3, h4, h5, h6⟩
 ·cases e
 ·obtain ⟨rfl, rfl⟩ : g = g' ∧ c = cap := by simpa using e
  have hcell : ∀ j v, (xs ++ [.string m.modn, .slice ma m.vars.length mc, .slice mp m.procs.length mq])[j]? = some v → u.cell? ⟨g, j, none⟩ = some v := by
   intro j v hv; rw [← h6, List.getElem?_take] at hv; split at hv
   ·simp [World.cell?, hh]
    simpa using hv
   ·cases hv
  have hlt : g < u.heap.size := by
   rcases Nat.lt_or_ge g u.heap.size with h' | h'
   ·exact h'
   ·rw [Array.getElem?_eq_none h'] at hh; cases hh
  refine ⟨fun j hj => ⟨g, 0, rfl, hlt, ?_⟩, h3, h4⟩
  rw [List.length_append, List.length_singleton] at hj; by_cases hjl : j < l.length
  ·obtain ⟨b, o, e1, hb, a, m1, c1, d, q0, q1, q2, q3⟩ := hl j hjl
   rw [List.getElem_append_left hjl]
   have key : ∀ r v, r < 3 → W.cell? ⟨b, o + j * 3 + r, none⟩ = some v → u.cell? ⟨g, 0 + j * 3 + r, none⟩ = some v := by
    intro r v hr hv; refine hcell _ _ ?_
    rw [List.getElem?_append_left (by omega)]; have hq : 0 + j * 3 + r < xs.length := by omega
    rw [List.getElem?_eq_getElem hq]; have := hx b o e1 (0 + j * 3 + r) _ (List.getElem?_eq_getElem hq); rw [show o + (0 + j * 3 + r) = o + j * 3 + r by omega, hv] at this; exact this.symm
   exact ⟨a, m1, c1, d, key 0 _ (by decide) q0, key 1 _ (by decide) q1, key 2 _ (by decide) q2, q3.ext hE⟩
  ·obtain rfl : j = l.length := by omega
   rw [List.getElem_append_right (Nat.le_refl _)]; simp only [Nat.sub_self, List.getElem_cons_zero]
   have key : ∀ r v, ([.string m.modn, .slice ma m.vars.length mc, .slice mp m.procs.length mq] : List Value)[r]? = some v → u.cell? ⟨g, 0 + l.length * 3 + r, none⟩ = some v := by
    intro r v hv; refine hcell _ _ ?_
    rw [List.getElem?_append_right (by omega), show 0 + l.length * 3 + r - xs.length = r by omega]; exact hv
   exact ⟨ma, mc, mp, mq, key 0 _ rfl, key 1 _ rfl, key 2 _ rfl, hm.ext hE⟩
end chkmore
end Go.Proofs.YtpcihajmcejliacGreatDoor
