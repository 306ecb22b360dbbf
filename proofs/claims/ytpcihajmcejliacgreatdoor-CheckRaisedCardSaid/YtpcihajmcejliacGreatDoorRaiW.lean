/- The walk of CheckRaised. -/
import Derived.Defers
import Derived.Test.YtpcihajmcejliacGreatDoorRaiR
import Derived.Test.YtpcihajmcejliacGreatDoorSynK
import Derived.Test.YtpcihajmcejliacGreatDoorChkW
import Derived.Test.YtpcihajmcejliacGreatDoorChkMap
import Derived.Test.YtpcihajmcejliacGreatDoorPrtF
namespace Go.Proofs.YtpcihajmcejliacGreatDoor
open Go.RowKit
namespace KR
structure NZ {α : Type} (r:Rz α):Prop where
 out:∀ p,r≠.bad 0 p
theorem vC {α : Type} (x:α):NZ (.ok x):=⟨fun _ h=>by cases h⟩
theorem tG {α : Type} {c:Int} (p:Nat) (h:c≠0):NZ (.bad c p:Rz α):=⟨fun _ e=>by cases e;exact h rfl⟩
theorem nR {α β : Type} {r:Rz α} {f:α→Rz β} (h:NZ r) (hf:∀ x,NZ (f x)):NZ (r.bind f):=by
 cases r with
 | bad c p=>exact⟨fun q e=>h.out q (by cases e;rfl)⟩
 | ok x=>exact hf x
theorem wP {α : Type} {P:Prop} [Decidable P] {a b:Rz α} (ha:NZ a) (hb:NZ b):NZ (if P then a else b):=by
 split
 ·exact ha
 ·exact hb
theorem ai_ (E:eG) (L:List Loc) (t:ByteArray) (p:Nat):NZ (AU E L t p):=by
 unfold AU;split
 ·exact vC _
 ·split
  ·split
   ·exact vC _
   ·exact tG _ (by decide)
  ·exact tG _ (by decide)
theorem Y6 (E:eG) (ctx:Int) (alone:Bool) (t:ByteArray) (ks:List Tr) (p:Nat):NZ (uC E ctx alone t ks p):=by
 unfold uC Gx;split
 ·exact tG _ (by decide)
 ·exact wP (tG _ (by decide)) (wP (tG _ (by decide)) (wP (tG _ (by decide)) (wP (tG _ (by decide)) (vC _))))
theorem aj0 (E:eG) (L:List Loc) (ctx:Int) (alone:Bool) (k:Int) (t:ByteArray) (m:Int) (ks:List Tr) (p:Nat):NZ (wS E L ctx alone k t m ks p):=by
 unfold wS;exact wP (nR (ai_ ..) fun r=>wP (vC _) (tG _ (by decide))) (wP (nR (Y6 ..) fun r=>vC _) (vC _))
theorem aj1 (E:eG) (L:List Loc) (ctx:Int):∀ (l:List Nd),(∀ x∈l,∀ alone p,NZ (zy E L ctx alone x p))→∀ p,NZ (tX E L ctx l p):=by
 intro l;induction l with
 | nil=>intro _ p;rw [tX];exact vC _
 | cons x r ih=>
  intro h p;rw [tX];exact nR (h x (List.mem_cons_self ..) false p) fun y=>nR (ih (fun z hz=>h z (List.mem_cons_of_mem _ hz)) _) fun ys=>vC _
theorem ay1 (E:eG) (L:List Loc) (ctx:Int):∀ (x:Nd) (alone:Bool) (p:Nat),NZ (zy E L ctx alone x p):=by
 refine gz fun k t m l ih alone p=>?_
 rw [zy];exact nR (aj1 E L ctx l ih _) fun ks=>aj0 ..
theorem aj2 (pr:aO) (L:List Loc) (deep ctx:Int) (last:Bool) (k:Int) (t:ByteArray) (m:Int) (ks:List Tr) (p:Nat):NZ (wQ pr L deep ctx last k t m ks p):=by
 unfold wQ
 repeat' refine wP ?_ ?_
 all_goals first
  | exact tG _ (by decide)
  | exact vC _
theorem Y7 (E:eG) (pr:aO) (ctx:Int) (alone:Bool) (L:List Loc) (deep:Int):∀ (l:List Nd),(∀ x∈l,∀ c o L d p,NZ (C0 E pr c o L d x p))→∀ b p,NZ (lU E pr ctx alone L deep l b p):=by
 intro l;induction l with
 | nil=>intro _ b p;rw [lU];exact vC _
 | cons x r ih=>
  intro h b p;rw [lU];exact nR (wP (h x (List.mem_cons_self ..) ..) (ay1 ..)) fun y=>nR (ih (fun z hz=>h z (List.mem_cons_of_mem _ hz)) _ _) fun ys=>vC _
theorem aj3 (E:eG) (pr:aO) (ctx:Int) (outer:Bool) (deep:Int):∀ (l:List Nd),(∀ x∈l,∀ c o L d p,NZ (Gz E pr c o L d x p))→∀ L p,NZ (wR E pr ctx outer L deep l p):=by
 intro l;induction l with
 | nil=>intro _ L p;rw [wR];exact vC _
 | cons x r ih=>
  intro h L p;rw [wR];exact nR (h x (List.mem_cons_self ..) ..) fun y=>nR (ih (fun z hz=>h z (List.mem_cons_of_mem _ hz)) _ _) fun ys=>vC _
theorem Y8 (E:eG) (pr:aO):∀ (x:Nd),(∀ c o L d p,NZ (Gz E pr c o L d x p))∧∀ c o L d p,NZ (C0 E pr c o L d x p):=by
 refine gz fun k t m l ih=>⟨fun c o L d p=>?_,fun c o L d p=>?_⟩
 ·rw [Gz]
  exact nR (Y7 E pr c _ L d l (fun x hx=>(ih x hx).2) _ _) fun ks=>aj2 ..
 ·rw [C0]
  exact nR (aj3 E pr c o d l (fun x hx=>(ih x hx).1) _ _) fun ks=>vC _
theorem Y9 (E:eG) (pr:aO) (x:Nd) (p:Nat):NZ (u_ E pr x p):=by
 unfold u_;exact nR ((Y8 E pr _).2 ..) fun b=>wP (tG _ (by decide)) (vC _)
theorem aj6 (own:bf) (G:List (ByteArray×bf)):∀ (l:List Nd),(∀ x∈l,x.kd=2∨x.kd=3∨x.kd=4)→∀ K B p,NZ (iR own G l K (bh l) B p):=by
 intro l;induction l with
 | nil=>intro _ K B p;rw [iR];exact vC _
 | cons x r ih=>
  intro h K B p;have ih2:=ih (fun z hz=>h z (List.mem_cons_of_mem _ hz));have hk:=h x (List.mem_cons_self ..);by_cases h4:x.kd=4
  ·have e:bh (x::r)=rO x::bh r:=by unfold bh;rw [List.filter_cons,if_pos (show mN x=true from by unfold mN;simpa using h4)];rfl
   rw [e,iR,if_neg (by omega),if_neg (by omega)];exact nR (Y9 ..) fun b=>ih2 _ _ _
  ·have e:bh (x::r)=bh r:=by unfold bh;rw [List.filter_cons,if_neg (show ¬ mN x=true from by unfold mN;simpa using h4)]
   rw [e];unfold iR;by_cases h2:x.kd=2
   ·rw [if_pos h2]
    split
    ·exact tG _ (by decide)
    ·exact ih2 _ _ _
   ·rw [if_neg h2,if_pos (by omega)]
    exact ih2 _ _ _
theorem FV {s:ByteArray} {l:List bf} (h:(zF s).2.2.1=0→∀ x∈(aZ s).1.kids,x.kd=2∨x.kd=3∨x.kd=4):NZ (eu s l):=by
 unfold eu;split
 ·exact tG _ (by decide)
 ·by_cases h0:(zF s).2.2.1=0
  ·rw [if_pos h0]
   exact nR (aj6 _ _ _ (h h0) _ _ _) fun r=>vC _
  ·rw [if_neg h0]
   exact tG _ h0
end KR
end Go.Proofs.YtpcihajmcejliacGreatDoor
namespace Go.Proofs.YtpcihajmcejliacGreatDoor
open Go.RowKit
namespace chk
open bH fF
def yC {α : Type} (T:Rz α):Int:=match T with
 | .bad c _=>c
 | .ok _=>0
def uI {α : Type} (T:Rz (Nd×α)):Nd:=match T with
 | .bad _ _=>kE
 | .ok r=>r.1
def Y_ {α : Type} (P:Int) (T:Rz α):Int:=match T with
 | .bad _ _=>P
 | .ok _=>0
def Px (w:World) (P:Int) (T:Rz (Nd×List (ByteArray×bf)×List (aO×Tr))) (e:Ending) (w':World):Prop:=Ext w w'∧∃ v,e=.returned (.tuple #[v,.agg #[.int .i64 (yC T),.int .i64 (Y_ P T)]])∧ij w' (uI T) v
def VO (R F:Nat) (nc fc:Array Value) (u0:World):List Value→World→Prop
 | [],u=>aJ u R #[.int .i64 0,.string ⟨#[]⟩,.int .i64 0,.slice none 0 0] 24∧aJ u F #[.int .i64 0,.int .i64 0] 27∧aB (fun i=>i=R∨i=F) u0 u
 | [_],u=>aJ u R nc 24∧aJ u F #[.int .i64 0,.int .i64 0] 27∧aB (fun i=>i=R∨i=F) u0 u
 | _,u=>aJ u R nc 24∧aJ u F fc 27∧aB (fun i=>i=R∨i=F) u0 u
theorem VO.c {R F:Nat} {nc fc:Array Value} {u0:World} {vs:List Value} {u:World} (h:VO R F nc fc u0 vs u):aB (fun i=>i=R∨i=F) u0 u:=by
 match vs,h with
 | [],h=>exact h.2.2
 | [_],h=>exact h.2.2
 | _::_::_,h=>exact h.2.2
theorem VP (w:World):ij w kE (.agg #[.int .i64 0,.string ⟨#[]⟩,.int .i64 0,.slice none 0 0]):=by
 unfold kE;rw [dY];exact⟨none,0,rfl,Nat.le_refl _,by decide,by decide,fun j hj=>by cases hj⟩
set_option maxRecDepth 100000 in
set_option maxHeartbeats 8000000 in
theorem check_any (s:ByteArray) (w:World) (l:List bf) (a:Option Addr) (c:Nat) (hs:s.size≤9223372036854775807) (hv:ErrVar w) (hm:dG w) (hl:fN 3 pM w a l) (hlc:l.length≤c) (hcm:c≤maxLen) (hsum:∀ f∈l,f.vars.length+f.procs.length<maxLen) :
  Calls Tryz.prog 17 #[.string s,.slice a l.length c] w (Px w (N8 s (mO l [])) (eu s l)):=by
 have hnz:KR.NZ (eu s l):=KR.FV fun h=>fun x hx=>((Ap h).1 x hx).2.1
 obtain⟨R,hR⟩:=E_ w.heap.size;obtain⟨F,hF⟩:=E_ (R+1);have hR0:=(aJ.made w #[.int .i64 0,.string ⟨#[]⟩,.int .i64 0,.slice none 0 0] 24).alloc (.cells #[.int .i64 0,.int .i64 0] 27);have oO:=aJ.made2 w (.cells #[.int .i64 0,.string ⟨#[]⟩,.int .i64 0,.slice none 0 0] 24) #[.int .i64 0,.int .i64 0] 27;rw [hR] at hR0 oO;rw [hF] at oO;have uQ:=((aB.refl (fun _=>False) w).alloc (.cells #[.int .i64 0,.string ⟨#[]⟩,.int .i64 0,.slice none 0 0] 24)).alloc (.cells #[.int .i64 0,.int .i64 0] 27);have HL:=Z_ (Oc s _ l a c hs (hv.ext uQ) (hm.ext uQ) (hl.mono uQ.size fun b o x hb h=>pM.ext uQ hb h) hlc hcm hsum);obtain⟨P,hP⟩:=E_ (N8 s (mO l []));obtain⟨T,hT⟩:=E_ (eu s l);rw [hP,hT] at HL ⊢
 rw [hT] at hnz;obtain⟨n,hn⟩:=E_ l.length;rw [hn] at HL ⊢;have HNZ:=Z_ hnz;have hz0:((w.alloc (.cells #[.int .i64 0,.string ⟨#[]⟩,.int .i64 0,.slice none 0 0] 24)).alloc (.cells #[.int .i64 0,.int .i64 0] 27)).heap.size=F+1:=by simp;omega
 have HR0:=Z_ hR0;have vP:=Z_ oO;have HX0:=Z_ uQ;have xC:R<F:=by omega
 clear hR0 oO uQ hs hv hm hl hlc hcm hsum hP hT hn hnz;go_enter Tryz.func17,Tryz.ntmps17
 go_upto_region 1 with (fail)
 try rw [hF]
 generalize (w.alloc (.cells #[.int .i64 0,.string ⟨#[]⟩,.int .i64 0,.slice none 0 0] 24)).alloc (.cells #[.int .i64 0,.int .i64 0] 27)=u0 at *;go_wp2_with fail
 refine HL.out.mono ?_
 rintro e w1 ⟨hE1,hres⟩;have HR1:=Z_ (HR0.out.ext hE1);have Gm:=Z_ (vP.out.ext hE1);have Yp:=Z_ (HX0.out.ext hE1);obtain⟨V,hV⟩:=E_ w1.heap.size;have hFV:F<V:=by rw [←hV];exact Gm.out.lt
 cases T with
 | bad c9 p9=>
  obtain⟨vp,rfl⟩:=hres;have Ag:c9≠0:=fun e=>by subst e;exact HNZ.out.out p9 rfl
  have hcn:(c9 != 0)=true:=by simpa using Ag
  have HV:=Z_ (show aJ (w1.alloc (.cells #[.int .i64 c9,.int .i64 P] 27)) V #[.int .i64 c9,.int .i64 P] 27 by rw [←hV];exact aJ.made w1 _ _);have HR2:=Z_ (HR1.out.alloc (.cells #[.int .i64 c9,.int .i64 P] 27));have HF2:=Z_ (Gm.out.alloc (.cells #[.int .i64 c9,.int .i64 P] 27));have zE:=Z_ (Yp.out.alloc (.cells #[.int .i64 c9,.int .i64 P] 27));clear HL HR0 vP HX0 hE1 HR1 Gm Yp Ag;go_upto_region 2 with (fail)
  try rw [hV]
  generalize w1.alloc (.cells #[.int .i64 c9,.int .i64 P] 27)=u2 at *;have Yh:=HV.out.cell;go_upto_region 3 with (fail)
  clear Yh;refine aj [2,3] (fun i v _=>v=([.agg #[.int .i64 0,.string ⟨#[]⟩,.int .i64 0,.slice none 0 0],.agg #[.int .i64 c9,.int .i64 P],undef,undef]:List Value).getD i undef) (VO R F #[.int .i64 0,.string ⟨#[]⟩,.int .i64 0,.slice none 0 0] #[.int .i64 c9,.int .i64 P] u2) (fun _ _=>True) (frame:=?Kv) (fun x=>?xj) bH.mixed (by kernel_rfl) (by kernel_rfl) (fun _ _ _ _ h _=>h) ?Kw ?Ky ?xk
  case xj=>
   simp only [chain.aS,chain.fill,chain.bT,chain.bC,oV,oW,oZ,o5,o6,o7,o8,o_,pq];exact rfl
  case Kw=>exact⟨HR2.out.drew,HF2.out.drew,(aB.refl _ _).drew⟩
  case Ky=>
   iterate 4 (refine ak.cons (fun x vs u hF hm hb hd K' hK'=>?_) ?_;rotate_left)
   exact ak.nil
   ·have HF:=Z_ hF;clear hd hm hb hF;go_simp;exact hK'.out _ _ _ (rfl) trivial ⟨rfl,HF.out⟩
   ·have hq:=(HV.out.aU hF.c (by omega)).cell;have HF:=Z_ hF;clear hd hm hb hF;go_simp;exact hK'.out _ _ _ (rfl) trivial ⟨rfl,HF.out⟩
   ·obtain rfl:=pR hm;have y0:x 17=.agg #[.int .i64 0,.string ⟨#[]⟩,.int .i64 0,.slice none 0 0]:=(D_ hd 0 :);obtain⟨g1,g2,g3⟩:=(show _∧_ from hF);have hq:=g1.cell;have Df:=g1.frozen;have kN:=g1.lt;have HG:=Z_ (And.intro g1 (And.intro g2 g3));clear hd hm hb hF g1 g2 g3;go_simp;obtain⟨g1,g2,g3⟩:=HG.out;exact hK'.out _ _ undef (by simp only [y0];rfl) trivial ⟨((((g1.set 0 _).set 1 _).set 2 _).set 3 _),((((g2.setOther (p:=⟨R,0,none⟩) (by show F≠R;omega) _).setOther (p:=⟨R,1,none⟩) (by show F≠R;omega) _).setOther (p:=⟨R,2,none⟩) (by show F≠R;omega) _).setOther (p:=⟨R,3,none⟩) (by show F≠R;omega) _),((((g3.setCell (p:=⟨R,0,none⟩) (fun _=>.inl rfl) _).setCell (p:=⟨R,1,none⟩) (fun _=>.inl rfl) _).setCell (p:=⟨R,2,none⟩) (fun _=>.inl rfl) _).setCell (p:=⟨R,3,none⟩) (fun _=>.inl rfl) _)⟩
   ·obtain⟨v0,rfl⟩:=rE hm
    have y0:x 18=.agg #[.int .i64 c9,.int .i64 P]:=(D_ hd 1 :);obtain⟨g1,g2,g3⟩:=(show _∧_ from hF);have hq:=g2.cell;have Df:=g2.frozen;have kN:=g2.lt;have HG:=Z_ (And.intro g1 (And.intro g2 g3));clear hd hm hb hF g1 g2 g3;go_simp;obtain⟨g1,g2,g3⟩:=HG.out;exact hK'.out _ _ undef (by simp only [y0];rfl) trivial ⟨(g1.setOther (p:=⟨F,0,none⟩) (by show R≠F;omega) _).setOther (p:=⟨F,1,none⟩) (by show R≠F;omega) _,(g2.set 0 _).set 1 _,(g3.setCell (p:=⟨F,0,none⟩) (fun _=>.inr rfl) _).setCell (p:=⟨F,1,none⟩) (fun _=>.inr rfl) _⟩
  case xk=>
   intro x9 wJ w9 hl hF hk9;obtain⟨v0,v1,rfl⟩:=Ll hl
   have vh:=Z_ (show _∧_ from hF);clear hk9 hl hF;go_wp2_with fail
   exact bodyPost_ret (m_ rfl _ _ rfl vh.out.1 Tryz.underlying24 rfl (by kernel_rfl) rfl vh.out.2.1 Tryz.underlying27 rfl (by kernel_rfl)) rfl ⟨zE.out.trans vh.out.2.2 (fun i hi e=>by omega),_,rfl,VP _⟩
 | ok r=>
  obtain⟨Mo,D,eF,fB,d0,d1,d2,d3,d4,d5,d6,d7,d8,rfl,hmo,hd,hnd⟩:=hres;have HV:=Z_ (show aJ (w1.alloc (.cells #[.int .i64 0,.int .i64 0] 27)) V #[.int .i64 0,.int .i64 0] 27 by rw [←hV];exact aJ.made w1 _ _);have HR2:=Z_ (HR1.out.alloc (.cells #[.int .i64 0,.int .i64 0] 27));have HF2:=Z_ (Gm.out.alloc (.cells #[.int .i64 0,.int .i64 0] 27));have zE:=Z_ (Yp.out.alloc (.cells #[.int .i64 0,.int .i64 0] 27));have hMR:=yU hmo HR1.out (by simp);have hMF:=yU hmo Gm.out (by simp);have hDR:=yU hd HR1.out (by simp);have hDF:=yU hd Gm.out (by simp);obtain⟨k0,t0,n0,a0,l0,c0,e0⟩:=dF hnd;cases e0
  have Ol:=Z_ (hmo.alloc (.cells #[.int .i64 0,.int .i64 0] 27));have HD:=Z_ (hd.alloc (.cells #[.int .i64 0,.int .i64 0] 27));have hex:=(aB.refl (fun _=>False) w1).alloc (.cells #[.int .i64 0,.int .i64 0] 27);have Jh:=Z_ (aQ (aN (M:=below (F+1)) hex fun i _ e=>e.elim) _ _ (by rw [←hz0];exact hnd));clear HL HR0 vP HX0 hE1 HR1 Gm Yp hmo hd hnd hex HNZ hz0;go_upto_region 2 with (fail)
  try rw [hV]
  generalize w1.alloc (.cells #[.int .i64 0,.int .i64 0] 27)=u2 at *;have Yh:=HV.out.cell;go_upto_region 4 with (fail)
  clear Yh;refine aj [8,9] (fun i v _=>v=([.pointer (some ⟨Mo,0,none⟩),.pointer (some ⟨Mo,0,none⟩),.pointer (some ⟨Mo,0,none⟩),.pointer (some ⟨D,0,none⟩),.pointer (some ⟨D,0,none⟩),.pointer (some ⟨D,3,none⟩),.agg #[.int .i64 k0,.string t0,.int .i64 n0,.slice a0 l0 c0],.agg #[.int .i64 0,.int .i64 0],undef,undef]:List Value).getD i undef) (VO R F #[.int .i64 k0,.string t0,.int .i64 n0,.slice a0 l0 c0] #[.int .i64 0,.int .i64 0] u2) (fun _ _=>True) (frame:=?JH) (fun x=>?wX) bH.mixed (by kernel_rfl) (by kernel_rfl) (fun _ _ _ _ h _=>h) ?JI ?JJ ?wY
  case wX=>
   simp only [chain.aS,chain.fill,chain.bT,chain.bC,oV,oW,oZ,o5,o6,o7,o8,o_,pq];exact rfl
  case JI=>exact⟨HR2.out.drew,HF2.out.drew,(aB.refl _ _).drew⟩
  case JJ=>
   iterate 10 (refine ak.cons (fun x vs u hF hm hb hd K' hK'=>?_) ?_;rotate_left)
   exact ak.nil
   ·have HF:=Z_ hF;clear hd hm hb hF;go_simp;exact hK'.out _ _ _ (rfl) trivial ⟨rfl,HF.out⟩
   ·have y0:x 19=.pointer (some ⟨Mo,0,none⟩):=(D_ hd 0 :);have HF:=Z_ hF;clear hd hm hb hF;go_simp;exact hK'.out _ _ _ (by simp only [y0];rfl) trivial ⟨rfl,HF.out⟩
   ·have y0:x 20=.pointer (some ⟨Mo,0,none⟩):=(D_ hd 1 :);have HF:=Z_ hF;clear hd hm hb hF;go_simp;exact hK'.out _ _ _ (by simp only [y0];rfl) trivial ⟨rfl,HF.out⟩
   ·have hq:=(Ol.out.aU hF.c (by omega)).cell;have y0:x 21=.pointer (some ⟨Mo,0,none⟩):=(D_ hd 2 :);have HF:=Z_ hF;clear hd hm hb hF;go_simp;exact hK'.out _ _ _ (by simp only [y0];rfl) trivial ⟨rfl,HF.out⟩
   ·have y0:x 22=.pointer (some ⟨D,0,none⟩):=(D_ hd 3 :);have HF:=Z_ hF;clear hd hm hb hF;go_simp;exact hK'.out _ _ _ (by simp only [y0];rfl) trivial ⟨rfl,HF.out⟩
   ·have y0:x 23=.pointer (some ⟨D,0,none⟩):=(D_ hd 4 :);have HF:=Z_ hF;clear hd hm hb hF;go_simp;exact hK'.out _ _ _ (by simp only [y0];rfl) trivial ⟨rfl,HF.out⟩
   ·have hq:=(HD.out.aU hF.c (by omega)).cell;have y0:x 24=.pointer (some ⟨D,3,none⟩):=(D_ hd 5 :);have HF:=Z_ hF;clear hd hm hb hF;go_simp;exact hK'.out _ _ _ (by simp only [y0];rfl) trivial ⟨rfl,HF.out⟩
   ·have hq:=(HV.out.aU hF.c (by omega)).cell;have HF:=Z_ hF;clear hd hm hb hF;go_simp;exact hK'.out _ _ _ (rfl) trivial ⟨rfl,HF.out⟩
   ·obtain rfl:=pR hm;have y0:x 25=.agg #[.int .i64 k0,.string t0,.int .i64 n0,.slice a0 l0 c0]:=(D_ hd 6 :);obtain⟨g1,g2,g3⟩:=(show _∧_ from hF);have hq:=g1.cell;have Df:=g1.frozen;have kN:=g1.lt;have HG:=Z_ (And.intro g1 (And.intro g2 g3));clear hd hm hb hF g1 g2 g3;go_simp;obtain⟨g1,g2,g3⟩:=HG.out;exact hK'.out _ _ undef (by simp only [y0];rfl) trivial ⟨((((g1.set 0 _).set 1 _).set 2 _).set 3 _),((((g2.setOther (p:=⟨R,0,none⟩) (by show F≠R;omega) _).setOther (p:=⟨R,1,none⟩) (by show F≠R;omega) _).setOther (p:=⟨R,2,none⟩) (by show F≠R;omega) _).setOther (p:=⟨R,3,none⟩) (by show F≠R;omega) _),((((g3.setCell (p:=⟨R,0,none⟩) (fun _=>.inl rfl) _).setCell (p:=⟨R,1,none⟩) (fun _=>.inl rfl) _).setCell (p:=⟨R,2,none⟩) (fun _=>.inl rfl) _).setCell (p:=⟨R,3,none⟩) (fun _=>.inl rfl) _)⟩
   ·obtain⟨v0,rfl⟩:=rE hm
    have y0:x 26=.agg #[.int .i64 0,.int .i64 0]:=(D_ hd 7 :);obtain⟨g1,g2,g3⟩:=(show _∧_ from hF);have hq:=g2.cell;have Df:=g2.frozen;have kN:=g2.lt;have HG:=Z_ (And.intro g1 (And.intro g2 g3));clear hd hm hb hF g1 g2 g3;go_simp;obtain⟨g1,g2,g3⟩:=HG.out;exact hK'.out _ _ undef (by simp only [y0];rfl) trivial ⟨(g1.setOther (p:=⟨F,0,none⟩) (by show R≠F;omega) _).setOther (p:=⟨F,1,none⟩) (by show R≠F;omega) _,(g2.set 0 _).set 1 _,(g3.setCell (p:=⟨F,0,none⟩) (fun _=>.inr rfl) _).setCell (p:=⟨F,1,none⟩) (fun _=>.inr rfl) _⟩
  case wY=>
   intro x9 wJ w9 hl hF hk9;obtain⟨v0,v1,rfl⟩:=Ll hl
   have vh:=Z_ (show _∧_ from hF);clear hk9 hl hF;go_wp2_with fail
   exact bodyPost_ret (m_ rfl _ _ rfl vh.out.1 Tryz.underlying24 rfl (by kernel_rfl) rfl vh.out.2.1 Tryz.underlying27 rfl (by kernel_rfl)) rfl ⟨zE.out.trans vh.out.2.2 (fun i hi e=>by omega),_,rfl,aQ (aC _ _) _ _ (aQ (aN (M:=below (F+1)) vh.out.2.2 fun i _ e=>by rcases e with e|e<;>(subst e;simp [below];try omega)) _ _ Jh.out)⟩
end chk
end Go.Proofs.YtpcihajmcejliacGreatDoor
namespace Go.Proofs.YtpcihajmcejliacGreatDoor
open Go.RowKit
namespace M_
open chk
theorem VQ (s:ByteArray) (l:List bf) (h:yC (eu s l)=0):(uI (eu s l)).kd=1:=by
 have hnz:KR.NZ (eu s l):=KR.FV fun h=>fun x hx=>((Ap h).1 x hx).2.1
 have key:∀ r,eu s l=.ok r→r.1.kd=1:=by
  intro r hr;unfold eu at hr;revert hr
  cases mO l [] with
  | none=>intro hr;cases hr
  | some G=>
   intro hr;simp only [] at hr;by_cases h0:(zF s).2.2.1=0
   ·rw [if_pos h0] at hr
    have hp:=(Bi s (LL h0).1).2.1;revert hr
    cases iR ⟨(aZ s).1.tx,iy (aZ s).1.kids,bh (aZ s).1.kids⟩ G (aZ s).1.kids [] (bh (aZ s).1.kids) [] 1 with
    | bad c p=>intro hr;cases hr
    | ok y=>
     intro hr;cases hr
     exact hp
   ·rw [if_neg h0] at hr;cases hr
 revert h hnz key
 cases eu s l with
 | bad c p=>
  intro h hnz _;obtain rfl:c=0:=h;exact absurd rfl (hnz.1 p)
 | ok r=>intro _ _ key;exact key r rfl
end M_
end Go.Proofs.YtpcihajmcejliacGreatDoor
namespace Go.Proofs.YtpcihajmcejliacGreatDoor
open Go.RowKit
namespace raised
open bH prt chk
theorem aj7:∀ x y,yA x y→Vf y=Vf x:=by
 refine gz fun k t m l ih y h=>?_
 cases y with
 | mk k' t' m' l'=>
  simp only [yA] at h;have h4:=h.2.2.2;simp only [Vf];congr 1
  clear h;induction l generalizing l' with
  | nil=>cases l' with
   | nil=>rfl
   | cons _ _=>simp only [pJ] at h4
  | cons x r ih2=>cases l' with
   | nil=>simp only [pJ] at h4
   | cons y s=>
    simp only [pJ] at h4;simp only [dpL];rw [ih x (List.mem_cons_self ..) y h4.1,ih2 (fun z hz=>ih z (List.mem_cons_of_mem _ hz)) s h4.2]
theorem VR (s:ByteArray) (l:List bf) (h:yC (eu s l)=0):(aZ s).1=uI (eu s l)∧(aZ s).2.1=0∧MV (eu s l)=true:=by
 have hnz:KR.NZ (eu s l):=KR.FV fun h=>fun x hx=>((Ap h).1 x hx).2.1
 have key:∀ r,eu s l=.ok r→(aZ s).1=r.1∧(aZ s).2.1=0:=by
  intro r hr;unfold eu at hr;revert hr
  cases mO l [] with
  | none=>intro hr;cases hr
  | some G=>
   intro hr;simp only [] at hr;by_cases h0:(zF s).2.2.1=0
   ·rw [if_pos h0] at hr
    have hp:=(LL h0).1;revert hr
    cases iR ⟨(aZ s).1.tx,iy (aZ s).1.kids,bh (aZ s).1.kids⟩ G (aZ s).1.kids [] (bh (aZ s).1.kids) [] 1 with
    | bad c p=>intro hr;cases hr
    | ok y=>
     intro hr;cases hr
     exact⟨rfl,hp⟩
   ·rw [if_neg h0] at hr;cases hr
 revert h hnz key
 cases eu s l with
 | bad c p=>
  intro h hnz _;obtain rfl:c=0:=h;exact absurd rfl (hnz.1 p)
 | ok r=>intro _ _ key;exact⟨(key r rfl).1,(key r rfl).2,rfl⟩
theorem TG (s:ByteArray) (l:List bf) (h:yC (eu s l)≠0):(uI (eu s l)).kd=0:=by
 revert h
 cases eu s l with
 | bad c p=>intro _;rfl
 | ok r=>intro h;exact absurd rfl h
theorem VS {α : Type} {T:Rz α} (h:MV T=true):yC T=0:=by
 cases T with
 | bad c p=>cases h
 | ok r=>rfl
theorem Py (s:ByteArray) (l:List bf) (k:Int) (h:yC (eu s l)=0) :
  fC (yN (uI (eu s l)) k).1∧dL (uI (eu s l))≤500∧((kX (yN (uI (eu s l)) k).1).2=0∨(kX (yN (uI (eu s l)) k).1).2=1)∧
  ((kX (yN (uI (eu s l)) k).1).2=0→yC (eu (kX (yN (uI (eu s l)) k).1).1 l)=0):=by
 obtain⟨h1,h2,h3⟩:=VR s l h;obtain⟨hi,hk,hd,hs⟩:=Bi s h2;rw [h1] at hi hk hd hs;generalize uI (eu s l)=x at *;have hu:=ai5 x k;generalize (yN x k).1=y at *;have hiy:=ai9 x y hu hi;have hky:y.kd=1:=by rw [(qX hu).1];exact hk
 have hsy:=Em x y hu;have hdy:=aj7 x y hu;have hr:=NH y hiy;refine⟨hiy,hs,?_,fun hp=>?_⟩
 ·have hw:(d_ 16 y 0).1=true:=(vY 16 y 0 (by omega)).1.2 ⟨by omega,by omega⟩
  have hm:=(GR y hr).2 ⟨hiy,hky⟩;unfold kX;rw [hw,hm,if_neg (by decide),if_neg (by decide)];split
  ·right;rfl
  ·left;rfl
 ·have hb:=JE y hr hp
  obtain⟨x0,c0,p0⟩:Nd×Int×Int:=aZ s;refine VS (TE (s:=s) (p:=(aZ s).2.2) ?_ hb hi hk hu h3)
  rw [←h1,←h2]
end raised
end Go.Proofs.YtpcihajmcejliacGreatDoor
namespace Go.Proofs.YtpcihajmcejliacGreatDoor
open Go.RowKit
theorem uy {P:Program} {fn:Func} {p q:Tmp} {ty LJ:TypeId} (h:fn.results=#[.cell p ty,.cell q LJ]) (tmps:Array Value) (w:World) {g g2:Nat} {T T2:TypeId} {d d2:TypeDesc} {v v2:Value}
  (hp:tmps.getD p undef=.pointer (some ⟨g,0,none⟩)) (hg:aJ w g #[v] T) (hu:P.underlying ty=some d) (hd:(match d with|.struct _|.array _ _=>true|_=>false)=false)
  (hq:tmps.getD q undef=.pointer (some ⟨g2,0,none⟩)) (hg2:aJ w g2 #[v2] T2) (hu2:P.underlying LJ=some d2) (hd2:(match d2 with|.struct _|.array _ _=>true|_=>false)=false) :
  (results fn tmps).run P w=.ok (.tuple #[v,v2]) w:=by
 have hp':tmps[p]?.getD undef=.pointer (some ⟨g,0,none⟩):=by simpa using hp
 have hq':tmps[q]?.getD undef=.pointer (some ⟨g2,0,none⟩):=by simpa using hq
 have hl:(loadVar ty ⟨g,0,none⟩).run P w=.ok v w:=by
  have hc:=hg.cell 0;simp only [List.getElem?_toArray,List.getElem?_cons_zero] at hc
  have hagg:(isAgg ty).run P w=.ok false w:=by
   unfold isAgg;rw [Sem.run_bind,run_underlying hu w];cases d<;>simp_all
  simp [loadVar,Sem.run_bind,hagg,hc]
 have hl2:(loadVar LJ ⟨g2,0,none⟩).run P w=.ok v2 w:=by
  have hc:=hg2.cell 0;simp only [List.getElem?_toArray,List.getElem?_cons_zero] at hc
  have hagg:(isAgg LJ).run P w=.ok false w:=by
   unfold isAgg;rw [Sem.run_bind,run_underlying hu2 w];cases d2<;>simp_all
  simp [loadVar,Sem.run_bind,hagg,hc]
 simp [results,h,hp',hq',asAddr,hl,hl2]
namespace prt
open bH
theorem zo {a b:PO} (h:(a.then b).1=true):a.1=true∧b.1=true∧(a.then b).2=a.2++b.2:=by
 unfold PO.then at h ⊢
 cases ha:a.1 with
 | false=>rw [ha] at h;simp [ha] at h
 | true=>rw [ha] at h;exact⟨rfl,by simpa using h,by simp⟩
theorem TI (x:Nd) {pw:List ByteArray} (h:nX x=(true,pw)):0<pw.length:=by
 obtain⟨k,t,m,l⟩:=x;unfold nX at h;have h1:=zo (congrArg Prod.fst h);have h2:=zo h1.2.1;have h3:=zo h2.2.1;have h4:=congrArg (fun p=>p.2.length) h;simp only at h4;rw [h1.2.2,h2.2.2,h3.2.2] at h4;simp [ah,bu] at h4
 omega
theorem Pz {u:World} {B:Nat} {row:Value} {xs:List ByteArray} (h:u.ownsRow B 9 1 row xs.length (xs.map fun s=>.string s)) (hx:0<xs.length):∃ g c,row=.slice (some ⟨g,0,none⟩) xs.length c∧xs.length≤c∧g<u.heap.size∧∀ (j:Nat) x,xs[j]? = some x→u.cell? ⟨g,0+j,none⟩=some (.string x):=by
 have h9:=h;obtain⟨h1,h2⟩:=h;rcases h2 with ⟨rfl,h0⟩|⟨g,cap,cur,rfl,hb,hh,hc,-⟩
 ·omega
 ·refine⟨g,cap,rfl,hc,(Array.getElem?_eq_some_iff.1 hh).1,fun j x hj=>?_⟩
  have hjl:j<xs.length:=(List.getElem?_eq_some_iff.1 hj).1;rw [Nat.zero_add,h9.cellAt j (by omega),List.getElem?_map,hj];rfl
set_option maxRecDepth 100000 in
set_option maxHeartbeats 8000000 in
theorem print_any (x:Nd) (v:Value) (w:World) (hnd:nO w x v) (hv:ErrVar w) (hmv:dG w) (htab:Lib.TabIs Tryz.prog w "internal/strconv.uint64pow10" .u64 Lib.pow10Tab) :
  Calls Tryz.prog 16 #[v] w fun e w'=>e=.returned (.tuple #[.string (kX x).1,.int .i64 (kX x).2])∧Ext w w':=by
 obtain⟨k,t,m,a,N,cc,rfl⟩:=yc hnd;obtain⟨T,hT⟩:=E_ (kX x);rw [hT];have HT:=Z_ hT;obtain⟨B,hB⟩:=E_ w.heap.size;obtain⟨w0,hw0⟩:=E_ (w.alloc (.cells #[.int .i64 k,.string t,.int .i64 m,.slice a N cc] 24));have hb0:=aJ.made w #[.int .i64 k,.string t,.int .i64 m,.slice a N cc] 24;have hx0:=(aB.refl (fun _=>False) w).alloc (.cells #[.int .i64 k,.string t,.int .i64 m,.slice a N cc] 24);have hs0:w0.heap.size=B+1:=by rw [←hw0,←hB];exact Array.size_push ..
 rw [hw0] at hb0 hx0;rw [hB] at hb0;have hR0:=aJ.made w0 #[.string ⟨#[]⟩] 9;obtain⟨w1,hw1⟩:=E_ (w0.alloc (.cells #[.string ⟨#[]⟩] 9));have hs1:w1.heap.size=B+2:=by rw [←hw1];have h9:(w0.alloc (.cells #[.string ⟨#[]⟩] 9)).heap.size=w0.heap.size+1:=Array.size_push ..;omega
 have hb1:=hb0.alloc (.cells #[.string ⟨#[]⟩] 9);have hx1:=hx0.alloc (.cells #[.string ⟨#[]⟩] 9);rw [hw1] at hR0 hb1 hx1;rw [hs0] at hR0;have oO:=aJ.made w1 #[.int .i64 0] 25;have hb2:=hb1.alloc (.cells #[.int .i64 0] 25);have hR2:=hR0.alloc (.cells #[.int .i64 0] 25);have hx2:=hx1.alloc (.cells #[.int .i64 0] 25);obtain⟨w2,hw2⟩:=E_ (w1.alloc (.cells #[.int .i64 0] 25));have hs2:w2.heap.size=B+3:=by rw [←hw2];have h9:(w1.alloc (.cells #[.int .i64 0] 25)).heap.size=w1.heap.size+1:=Array.size_push ..;omega
 rw [hw2] at oO hb2 hR2 hx2;rw [hs1] at oO;have HB:=Z_ hb2;have HR:=Z_ hR2;have HF:=Z_ oO;have HX:=Z_ hx2;have HV:=Z_ hv;have rC:=Z_ hmv;have YO:=Z_ htab;have Jh:=Z_ hnd;clear hT hb0 hx0 hR0 hb1 hx1 oO hb2 hR2 hx2 hv hmv htab hnd;go_enter_defers Tryz.func16,Tryz.ntmps16
 go_upto_region 1 with (fail)
 try simp only [hw0,hs0,hw1,hs1,hB,hw2]
 clear hw0 hw1 hw2;have hbc:=HB.out.cell;obtain⟨w3,hw3⟩:=E_ (w2.alloc (.cells #[.int .i64 0] 3));have hM:=aJ.made w2 #[.int .i64 0] 3;have hB3:=HB.out.alloc (.cells #[.int .i64 0] 3);have Hl:=HR.out.alloc (.cells #[.int .i64 0] 3);have hF3:=HF.out.alloc (.cells #[.int .i64 0] 3);have Oz:=HX.out.alloc (.cells #[.int .i64 0] 3);rw [hw3] at hM hB3 Hl hF3 Oz;rw [hs2] at hM;have HM:=Z_ hM;have HB3:=Z_ hB3;have HR3:=Z_ Hl;have HF3:=Z_ hF3;have HX3:=Z_ Oz;clear hM hB3 Hl hF3 Oz hbc HB HR HF HX;have m1:=HM.out.cell;have m2:=HM.out.frozen;have m3:=HM.out.lt;go_upto_region 2 with (fail)
 try rw [hw3]
 have hM4:=HM.out.set 0 (.int .i64 0);have hB4:=HB3.out.setOther (p:=⟨B+3,0,none⟩) (by show B≠B+3;omega) (.int .i64 0);have Uj:=HR3.out.setOther (p:=⟨B+3,0,none⟩) (by show B+1≠B+3;omega) (.int .i64 0);have hF4:=HF3.out.setOther (p:=⟨B+3,0,none⟩) (by show B+2≠B+3;omega) (.int .i64 0);have hX4:=HX3.out.bM (p:=⟨B+3,0,none⟩) (by show w.heap.size≤B+3;omega) (.int .i64 0);have HM:=Z_ hM4;have HB:=Z_ hB4;have HR:=Z_ Uj;have HF:=Z_ hF4;have HX:=Z_ hX4;clear hM4 hB4 Uj hF4 hX4 m1 m2 m3 HB3 HR3 HF3 HX3 hw3;generalize w3.setCell ⟨B+3,0,none⟩ (.int .i64 0)=w4 at *;have hbc:=HB.out.cell
 have hW:=KN 16 x _ w4 (B+3) 0 1 (fun i=>decide (i=B+3)) (uw (by
  refine bJ (M:=fun _=>false) HX.out.size fun i hi _=>⟨by have:i≠B+3:=(by omega);simpa using this,HX.out.block i hi id⟩) x _ (uw ⟨by rw [dK];exact Nat.le_refl _,fun p u hp=>by rw [jD (fun _=>false) w p rfl];exact hp⟩ x _ Jh.out)) (by simp) HM.out (by decide) (by decide) (by decide)
 have HW:=Z_ hW;clear hW;go_wp2_with fail
 refine HW.out.mono ?_
 rintro e w5 ⟨rfl,hC,hM5⟩;have G_:=Z_ (HR.out.aU hC (by omega));have LK:=Z_ (HF.out.aU hC (by omega));have ER:=Z_ (HB.out.aU hC (by omega));have CZ:=Z_ (HX.out.trans hC (fun i hi e=>by omega));clear hC hM5 HW HM HB HR HF HX hbc;cases hwe:(d_ 16 x 0).1 with
 | false=>
  have hq1:=G_.out.cell;have hq2:=G_.out.frozen;have hq3:=G_.out.lt;have hs1:=LK.out.cell;have hs2:=LK.out.frozen;have hs3:=LK.out.lt;go_wp2_with fail
  have hT:((⟨#[]⟩:ByteArray),(1:Int))=T:=by rw [←HT.out];unfold kX;rw [if_pos hwe];rfl
  subst hT;have rG:=(LK.out.setOther (p:=⟨B+1,0,none⟩) (by show B+2≠B+1;omega) (.string ⟨#[]⟩)).set 0 (.int .i64 1);have hR9:=(G_.out.set 0 (.string ⟨#[]⟩)).setOther (p:=⟨B+2,0,none⟩) (by show B+1≠B+2;omega) (.int .i64 1);have Xo:=(CZ.out.bM (p:=⟨B+1,0,none⟩) (by show w.heap.size≤B+1;omega) (.string ⟨#[]⟩)).bM (p:=⟨B+2,0,none⟩) (by show w.heap.size≤B+2;omega) (.int .i64 1);exact⟨_,uy rfl _ _ rfl hR9 Tryz.underlying9 rfl rfl rG Tryz.underlying25 rfl,rfl,Xo⟩
 | true=>
  have hmf:∀ (fn:Fn) (first cap:Array Value) (w:World),(Instr.makeFunc fn first cap).run Tryz.prog w=.ok (.func fn first cap) w:=fun _ _ _ _=>rfl
  obtain⟨P,hP⟩:=E_ w5.heap.size;obtain⟨w6,hw6⟩:=E_ (w5.alloc (.cells #[.slice none 0 0] 116));have hS:=aJ.made w5 #[.slice none 0 0] 116;have Uk:=ER.out.alloc (.cells #[.slice none 0 0] 116);have ZK:=G_.out.alloc (.cells #[.slice none 0 0] 116);have Pe:=LK.out.alloc (.cells #[.slice none 0 0] 116);have hX6:=CZ.out.alloc (.cells #[.slice none 0 0] 116);rw [hw6] at hS Uk ZK Pe hX6;rw [hP] at hS;have hPB:B+3≤P:=by have:=LK.out.lt;omega
  have QE:=Z_ Uk;have HR6:=Z_ ZK;have HF6:=Z_ Pe;have PT:=Z_ hX6;have hwl:=(vY 16 x 0 (by decide)).1.1 hwe;have hml:=Vx x;have hws:=Pn x ⟨_,Jh.out⟩;have HPW:=Z_ (show PW w w6 P (.slice none 0 0) [] from⟨hX6,hS,⟨rfl,.inl ⟨rfl,rfl⟩⟩,by omega⟩);have Ol:=Z_ (show MoC w P x from by obtain⟨k9,t9,m9,l9⟩:=x;exact Vz HV.out rC.out YO.out k9 t9 m9 l9);have mM:=Z_ (Ol.out _ _ _ _ HPW.out Jh.out (by simp;omega));obtain⟨p,hp⟩:=E_ (nX x);rw [hp] at mM hml hws;have HPM:=Z_ hp;have HWS:=Z_ hws;clear hS Uk ZK Pe hX6 hp Ol hws;have hbc:=QE.out.cell;go_upto_region 6 with (fail)
  try rw [hP]
  try rw [hw6]
  clear hw6 hP;go_wp2_with fail
  refine mM.out.mono ?_
  rintro e w7 ⟨⟨ax_,YU⟩,he⟩;have QI:=YU.aU;have HR7:=Z_ (HR6.out.aU QI (fun e=>by rcases e with e|e;omega;cases e));have TW:=Z_ (HF6.out.aU QI (fun e=>by rcases e with e|e;omega;cases e));have F7:=Z_ YU.pw.ext;have HPF:=Z_ YU;clear QI YU hbc mM QE HR6 HF6 PT;obtain⟨pb,pw⟩:=p;cases pb with
  | false=>
   obtain rfl:e=_:=he;simp only [Bool.false_eq_true,if_false];go_wp2_with fail
   refine leaves_cons (f:=50) (args:=#[.pointer (some ⟨B+1,0,none⟩),.pointer (some ⟨B+2,0,none⟩)]) (by simp) (by simp [go_sem]) ?_
   refine(IQ (B+1) (B+2) _ _ _ HR7.out TW.out (by omega)).mono ?_
   rintro e u' w'' ⟨rfl,rfl,DN,DR,J5⟩;have hT:(aF,(2:Int))=T:=by rw [←HT.out];unfold kX;rw [hwe,HPM.out];rfl
   subst hT;exact⟨_,uy rfl _ _ rfl DN Tryz.underlying9 rfl rfl DR Tryz.underlying25 rfl,rfl,F7.out.trans J5 (fun i hi e=>by omega)⟩
  | true=>
   obtain rfl:e=_:=he;simp only [if_true];have hpos:=TI x HPM.out;replace hml:pw.length≤12*dL x:=hml;have hrow:=HPF.out.pw.row;simp only [List.nil_append] at hrow;obtain⟨g,c,rfl,hgc,hgl,hgx⟩:=Pz hrow hpos;have hjl:=join_le pw HWS.out;have hj:=Tryz.strings_Join g 0 c pw ⟨#[32]⟩ w7 hgx hgl (by omega) hgc (by have h9:(Lib.join (pw.map (·.data.toList)) (⟨#[32]⟩:ByteArray).data.toList).length≤25*pw.length:=hjl;omega);obtain⟨J,hJ⟩:=E_ ((Lib.join (pw.map fun s=>s.data.toList) [32]));have HJ:=Z_ (show Calls Tryz.prog 52 #[.slice (some ⟨g,0,none⟩) pw.length c,.string ⟨#[32]⟩] w7 fun e w'=>e=.returned (.string ⟨J.toArray⟩)∧Below w7.heap.size w7 w' from by rw [←hJ];exact hj);have hsc:=HPF.out.pw.s.cell;have HJL:=Z_ (show J.length≤25*pw.length from by rw [←hJ];exact hjl)
   have HJE:=Z_ hJ;obtain⟨bs,hbs⟩:∃ bs:ByteArray,(⟨J.toArray⟩:ByteArray)=bs:=⟨_,rfl⟩;have hbz:bs.size=J.length:=by rw [←hbs];exact List.size_toArray
   rw [hbs] at HJ;have HT2:=Z_ (show (if 3000<J.length then ((aF,1):ByteArray×Int) else (bs,0))=T by rw [←HT.out,←hbs];unfold kX;rw [hwe,HPM.out,HJE.out];rfl);clear hj hjl hgx hrow hJ hbs;go_wp2_with fail
   refine HJ.out.mono ?_
   rintro e w8 ⟨rfl,hbl⟩;have ju:Ext w7 w8:=Below.qp hbl;have hR8:=HR7.out.ext ju;have Xl:=TW.out.ext ju;have hX8:=F7.out.ext ju;have hq1:=hR8.cell;have hq2:=hR8.frozen;have hq3:=hR8.lt;have hR9:=hR8.set 0 (.string bs);have rG:=Xl.setOther (p:=⟨B+1,0,none⟩) (by show B+2≠B+1;omega) (.string bs);have Xo:=hX8.bM (p:=⟨B+1,0,none⟩) (by show w.heap.size≤B+1;omega) (.string bs);have Gi:=Z_ hR9;have Gj:=Z_ rG;have oU:=Z_ Xo;clear hR8 Xl hX8 hR9 rG Xo hbl ju HJ;by_cases hbig:3000<J.length
   ·have hT:=HT2.out
    rw [if_pos hbig] at hT;subst hT;have hbi:(3000:Int)<(bs.size:Int):=by omega
    have hbd:decide ((3000:Int)<(bs.size:Int))=true:=by simpa using hbi
    go_upto_region 8 with (fail)
    clear hq1 hq2 hq3;generalize w8.setCell ⟨B+1,0,none⟩ (.string bs)=w9 at *;have hq1:=Gi.out.cell;have hq2:=Gi.out.frozen;have hq3:=Gi.out.lt;have hs1:=Gj.out.cell;have hs2:=Gj.out.frozen;have hs3:=Gj.out.lt;go_wp2_with fail
    refine leaves_cons (f:=50) (args:=#[.pointer (some ⟨B+1,0,none⟩),.pointer (some ⟨B+2,0,none⟩)]) (by simp) (by simp [go_sem]) ?_
    refine(CB (B+1) (B+2) _).mono ?_
    rintro e u' w'' ⟨rfl,rfl,rfl⟩;have DR:=(Gj.out.setOther (p:=⟨B+1,0,none⟩) (by show B+2≠B+1;omega) (.string ⟨#[]⟩)).set 0 (.int .i64 1);have DN:=(Gi.out.set 0 (.string ⟨#[]⟩)).setOther (p:=⟨B+2,0,none⟩) (by show B+1≠B+2;omega) (.int .i64 1);have hXz:=(oU.out.bM (p:=⟨B+1,0,none⟩) (by show w.heap.size≤B+1;omega) (.string ⟨#[]⟩)).bM (p:=⟨B+2,0,none⟩) (by show w.heap.size≤B+2;omega) (.int .i64 1);exact⟨_,uy rfl _ _ rfl DN Tryz.underlying9 rfl rfl DR Tryz.underlying25 rfl,rfl,hXz⟩
   ·have hT:=HT2.out
    rw [if_neg hbig] at hT;subst hT;have hbi:¬ (3000:Int)<(bs.size:Int):=by omega
    have hbd:decide ((3000:Int)<(bs.size:Int))=false:=by simpa using hbi
    go_upto_region 8 with (fail)
    clear hq1 hq2 hq3;generalize w8.setCell ⟨B+1,0,none⟩ (.string bs)=w9 at *;have hq1:=Gi.out.cell;have hq2:=Gi.out.frozen;have hq3:=Gi.out.lt;have hs1:=Gj.out.cell;have hs2:=Gj.out.frozen;have hs3:=Gj.out.lt;go_wp2_with fail
    refine leaves_cons (f:=50) (args:=#[.pointer (some ⟨B+1,0,none⟩),.pointer (some ⟨B+2,0,none⟩)]) (by simp) (by simp [go_sem]) ?_
    refine(CB (B+1) (B+2) _).mono ?_
    rintro e u' w'' ⟨rfl,rfl,rfl⟩;have DR:=(Gj.out.setOther (p:=⟨B+1,0,none⟩) (by show B+2≠B+1;omega) (.string bs)).set 0 (.int .i64 0);have DN:=(Gi.out.set 0 (.string bs)).setOther (p:=⟨B+2,0,none⟩) (by show B+1≠B+2;omega) (.int .i64 0);have hXz:=(oU.out.bM (p:=⟨B+1,0,none⟩) (by show w.heap.size≤B+1;omega) (.string bs)).bM (p:=⟨B+2,0,none⟩) (by show w.heap.size≤B+2;omega) (.int .i64 0);exact⟨_,uy rfl _ _ rfl DN Tryz.underlying9 rfl rfl DR Tryz.underlying25 rfl,rfl,hXz⟩
end prt
end Go.Proofs.YtpcihajmcejliacGreatDoor
namespace Go.Proofs.YtpcihajmcejliacGreatDoor
open Go.RowKit
namespace raised
open bH fF chk M_ prt
theorem PD {w w':World} (hE:Ext w w') {a:Option Addr} {l:List bf} (h:fN 3 pM w a l):fN 3 pM w' a l:=fun j hj=>by
 obtain⟨b,o,e,hb,hx⟩:=h j hj;exact⟨b,o,e,Nat.lt_of_lt_of_le hb hE.size,pM.ext hE hb hx⟩
theorem aj8 {w:World} {x:Nd} {v:Value} (h:ij w x v):∃ t m a n c,v=.agg #[.int .i64 x.kd,.string t,.int .i64 m,.slice a n c]:=by
 cases x with
 | mk k t m l=>
  rw [dY] at h;obtain⟨a,c,rfl,-⟩:=h;exact⟨_,_,_,_,_,rfl⟩
theorem TJ {w:World}:∀ (x:Nd) (v:Value),fC x→ij w x v→nO w x v:=by
 refine gz fun k t m l ih v hX h=>?_
 rw [dY] at h;rw [lJ];obtain⟨a,c,rfl,g1,g2,g3,g4⟩:=h;have hf:=hX.form;refine⟨a,c,rfl,g1,g2,⟨by unfold maxLen;omega,?_⟩,fun j hj=>?_⟩
 ·cases hf<;>first|omega|exact⟨by decide,by decide⟩
 ·obtain⟨b,o,ea,hb,u,hu,hs,hc⟩:=g4 j hj
  exact⟨b,o,ea,hb,u,ih _ (List.getElem_mem hj) _ (hX.kids _ (List.getElem_mem hj)) hu,hs,hc⟩
theorem ay2 {a:Int} (h0:0≤a) (h1:a<256):a.tmod 8=a % 8∧IntKind.i64.wrap a=a∧wrap64 a=a∧IntKind.i64.wrap (a % 8)=a % 8∧wrap64 (a % 8)=a % 8:=by
 refine⟨Int.tmod_eq_emod_of_nonneg h0,?_,?_,?_,?_⟩
 ·rw [IntKind.wrap_i64];omega
 ·unfold wrap64;omega
 ·rw [IntKind.wrap_i64];omega
 ·unfold wrap64;omega
set_option maxRecDepth 100000 in
set_option maxHeartbeats 8000000 in
theorem walk (s:ByteArray) (fa:Option Addr) (l:List bf) (n cap:Nat) (a:Int) (w:World) (hn:l.length=n) (hs:s.size≤9223372036854775807) (hv:ErrVar w) (hm:dG w) (htab:Lib.TabIs Tryz.prog w "internal/strconv.uint64pow10" .u64 Lib.pow10Tab) (hl:fN 3 pM w fa l) (hlc:n≤cap) (hcm:cap≤maxLen)
  (hsum:∀ f∈l,f.vars.length+f.procs.length<maxLen) (ha0:0≤a) (ha1:a<256) :
  Calls Tryz.prog 12 #[.string s,.slice fa n cap,.int .u8 a] w fun e w'=>e=.returned (.bool true)∧Ext w w':=by
 have CC:=Z_ (fun (t:ByteArray) (u:World) (ht:t.size≤9223372036854775807) (hE:Ext w u)=>by
  have h:=check_any t u l fa cap ht (hv.ext hE) (hm.ext hE) (PD hE hl) (by rw [hn];exact hlc) hcm hsum;rw [hn] at h;exact h)
 have CQ:=Z_ (fun (x:Nd) (v:Value) (u:World) (hE:Ext w u) (h:nO u x v)=>print_any x v u h (hv.ext hE) (hm.ext hE) (MI htab hE));obtain⟨k,hk⟩:=E_ (a % 8);obtain⟨m1,m2,m3,m4,m5⟩:=ay2 ha0 ha1;have hk0:0≤k:=by omega
 have hk7:k≤7:=by omega
 rw [hk] at m1 m4 m5;have zY:=Z_ (Py s l k);have pK:=Z_ (TG s l);have JP:=Z_ (VQ s l);have JS:=Z_ (CC.out s w hs (aB.refl _ _));obtain⟨T,hT⟩:=E_ (eu s l);obtain⟨P,hP⟩:=E_ (N8 s (mO l []));rw [hT] at zY pK JP JS;rw [hP] at JS;clear hn hs hv hm htab hl hlc hcm hsum hk hT hP;go_enter Tryz.func12,Tryz.ntmps12
 go_upto_region 1 with (fail)
 go_wp2_with fail
 refine JS.out.mono ?_
 rintro e w1 ⟨hE1,v1,rfl,hn1⟩;obtain⟨t1,q1,a1,n1,c1,rfl⟩:=aj8 hn1;obtain⟨x,hx⟩:=E_ (uI T);obtain⟨c,hc⟩:=E_ (yC T);obtain⟨p,hp⟩:=E_ (Y_ P T);rw [hx] at zY pK JP hn1 ⊢;rw [hc] at zY pK JP ⊢;rw [hp];obtain⟨kd,hkd⟩:=E_ x.kd;rw [hkd] at pK JP hn1 ⊢;have hX1:=((aB.refl (fun _=>False) w1).alloc (.cells #[.int .i64 kd,.string t1,.int .i64 q1,.slice a1 n1 c1] 24)).alloc (.cells #[.int .i64 c,.int .i64 p] 27);have J0:=Z_ (hE1.ext hX1);have Gh:=Z_ (aQ (Ext.keeps hX1) _ _ hn1);have C7:=Z_ ((aJ.made w1 #[.int .i64 kd,.string t1,.int .i64 q1,.slice a1 n1 c1] 24).alloc (.cells #[.int .i64 c,.int .i64 p] 27));have Ud:=Z_ (aJ.made2 w1 (.cells #[.int .i64 kd,.string t1,.int .i64 q1,.slice a1 n1 c1] 24) #[.int .i64 c,.int .i64 p] 27)
 obtain⟨X,hX⟩:=E_ w1.heap.size;rw [hX] at C7 Ud;clear hE1 hn1 hX1 JS hx hc hp;go_upto_region 2 with (fail)
 try rw [hX]
 generalize (w1.alloc (.cells #[.int .i64 kd,.string t1,.int .i64 q1,.slice a1 n1 c1] 24)).alloc (.cells #[.int .i64 c,.int .i64 p] 27)=u1 at *;clear hX;have hfb:=Ud.out.cell;have hnb:=C7.out.cell;by_cases hc:c=0
 ·subst hc
  obtain⟨hi,hsz,hpr,Za⟩:=zY.out rfl;have ay3:=JP.out rfl;subst ay3;obtain⟨ay4,ay5⟩:=KO x k;have HR:=Z_ (KQ x _ u1 k Gh.out hsz hk7 (by omega));obtain⟨y,hy⟩:=E_ ((yN x k).1);obtain⟨k2,hk2⟩:=E_ ((yN x k).2);rw [hy] at HR hi hpr Za;rw [hk2] at HR;have LZ:=Z_ hpr;have Zb:=Z_ Za;have HI:=Z_ hi;have CQY:=Z_ (fun (v:Value) (u:World) (hE:Ext w u) (h:ij u y v)=>CQ.out y v u hE (TJ _ _ HI.out h));clear hi hpr Za hy hk2 ay4 ay5 zY pK JP CQ;go_wp2_with fail
  refine HR.out.mono ?_
  rintro e w2 ⟨v2,rfl,hn2,hE2⟩;obtain⟨kd2,t2,q2,a2,n2,c2,rfl⟩:=dF hn2;have Hq:=(aB.refl (fun _=>False) w2).alloc (.cells #[.int .i64 kd2,.string t2,.int .i64 q2,.slice a2 n2 c2] 24);have tK:=Z_ ((J0.out.ext hE2).ext Hq);have Ub:=Z_ (aQ (Ext.keeps Hq) _ _ (aQ (aC _ _) _ _ hn2));have aj9:=Z_ ((C7.out.ext hE2).ext Hq);have Dk:=Z_ (aJ.made w2 #[.int .i64 kd2,.string t2,.int .i64 q2,.slice a2 n2 c2] 24);obtain⟨Y,hY⟩:=E_ w2.heap.size;rw [hY] at Dk;clear hE2 hn2 Hq HR J0 Gh C7 Ud hfb hnb;go_upto_region 5 with (fail)
  try rw [hY]
  generalize w2.alloc (.cells #[.int .i64 kd2,.string t2,.int .i64 q2,.slice a2 n2 c2] 24)=u2 at *;clear hY;have hmb:=Dk.out.cell;have HP:=Z_ (CQY.out _ u2 tK.out Ub.out)
  have hsz:(kX y).1.size≤9223372036854775807:=by
   unfold kX
   repeat' split
   all_goals first|exact(show (0:Nat)≤_ by decide)|skip
   rename_i h9
   show (Lib.join _ _).toArray.size≤_
   rw [List.size_toArray];omega
  obtain⟨Q,hQ⟩:=E_ (kX y);rw [hQ] at HP LZ Zb hsz;obtain⟨r,d⟩:=Q;have aj_:=Z_ (show d=0∨d=1 from LZ.out);have Zc:=Z_ (show d=0→yC (eu r l)=0 from Zb.out);have qI:=Z_ (show r.size≤9223372036854775807 from hsz);clear hQ LZ Zb hsz CQY;go_wp2_with fail
  refine HP.out.mono ?_
  rintro e w3 ⟨rfl,jq⟩;have zu:=Z_ (tK.out.ext jq);have Zd:=Z_ (aj9.out.ext jq);have hnb:=Zd.out.cell;clear jq HP tK Ub aj9 Dk hmb;by_cases hd:d=0
  ·subst hd
   have yI:=Z_ (CC.out r w3 qI.out zu.out);have Oe:=Z_ (Zc.out rfl);obtain⟨T3,Am⟩:=E_ (eu r l);obtain⟨P3,JG⟩:=E_ (N8 r (mO l []));rw [Am] at yI Oe;rw [JG] at yI;clear Am JG aj_ Zc CC;go_wp2_with fail
   refine yI.out.mono ?_
   rintro e w4 ⟨Sr,v4,rfl,hn4⟩;obtain⟨kd4,t4,q4,a4,n4,c4,rfl⟩:=dF hn4;rw [Oe.out];obtain⟨p4,hp4⟩:=E_ (Y_ P3 T3);rw [hp4];have hX4:=(Sr.alloc (.cells #[.int .i64 kd4,.string t4,.int .i64 q4,.slice a4 n4 c4] 24)).alloc (.cells #[.int .i64 0,.int .i64 p4] 27);have Kz:=Z_ (zu.out.ext hX4);have ay6:=Z_ (Zd.out.ext hX4);have ak0:=Z_ (aJ.made2 w4 (.cells #[.int .i64 kd4,.string t4,.int .i64 q4,.slice a4 n4 c4] 24) #[.int .i64 0,.int .i64 p4] 27);obtain⟨Z,hZ⟩:=E_ w4.heap.size;rw [hZ] at ak0;clear Sr hX4 hn4 yI zu Zd hnb;go_upto_region 9 with (fail)
   try rw [hZ]
   generalize (w4.alloc (.cells #[.int .i64 kd4,.string t4,.int .i64 q4,.slice a4 n4 c4] 24)).alloc (.cells #[.int .i64 0,.int .i64 p4] 27)=u4 at *;clear hZ;have hfb:=ak0.out.cell;have hnb:=ay6.out.cell;go_wp2_with fail
   go_ret
   exact⟨rfl,Kz.out⟩
  ·obtain rfl:=aj_.out.resolve_left hd
   clear Zc CC;go_wp2_with fail
   go_ret
   exact⟨rfl,zu.out⟩
 ·have hcn:(c != 0)=true:=by simpa using hc
  have hk9:=pK.out hc;subst hk9;clear zY JP;go_wp2_with fail
  go_ret
  exact⟨rfl,J0.out⟩
end raised
end Go.Proofs.YtpcihajmcejliacGreatDoor
