/- A fault of the checker has a code that is not 0: plain Lean. The walk of Check. CheckMore, the plain law: a face that no import names changes nothing. The walk of has: does a row of words hold one? Two appends in a region that draws its order: a row of faces copied, one face more. -/
import Derived.Deep.AppendLies
import Derived.Deep.Upon
import Derived.Test.YtpcihajmcejliacGreatDoorOfSm
import Derived.Test.YtpcihajmcejliacGreatDoorSynKm
import Derived.Test.YtpcihajmcejliacGreatDoorChkWm
import Derived.Test.YtpcihajmcejliacGreatDoorOfDm
import Derived.Test.YtpcihajmcejliacGreatDoorLexNumm
import Derived.Test.YtpcihajmcejliacGreatDoorSynCm
namespace Go.Proofs.YtpcihajmcejliacGreatDoor
open Go.RowKit
namespace Jl
structure NZ {α : Type} (r:Rz α):Prop where
 out:∀ p,r≠.bad 0 p
theorem o6 {α : Type} (x:α):NZ (.ok x):=⟨fun _ h=>by cases h⟩
theorem nM {α : Type} {c:Int} (p:Nat) (h:c≠0):NZ (.bad c p:Rz α):=⟨fun _ e=>by cases e;exact h rfl⟩
theorem jC {α β : Type} {r:Rz α} {f:α→Rz β} (h:NZ r) (hf:∀ x,NZ (f x)):NZ (r.bind f):=by
 cases r with
 | bad c p=>exact⟨fun q e=>h.out q (by cases e;rfl)⟩
 | ok x=>exact hf x
theorem qE {α : Type} {P:Prop} [Decidable P] {a b:Rz α} (ha:NZ a) (hb:NZ b):NZ (if P then a else b):=by
 split
 ·exact ha
 ·exact hb
theorem UX (E:dH) (L:List Loc) (t:ByteArray) (p:Nat):NZ (uU E L t p):=by
 unfold uU;split
 ·exact o6 _
 ·split
  ·split
   ·exact o6 _
   ·exact nM _ (by decide)
  ·exact nM _ (by decide)
theorem Qh (E:dH) (ctx:Int) (alone:Bool) (t:ByteArray) (ks:List Tr) (p:Nat):NZ (qV E ctx alone t ks p):=by
 unfold qV DY;split
 ·exact nM _ (by decide)
 ·exact qE (nM _ (by decide)) (qE (nM _ (by decide)) (qE (nM _ (by decide)) (qE (nM _ (by decide)) (o6 _))))
theorem UY (E:dH) (L:List Loc) (ctx:Int) (alone:Bool) (k:Int) (t:ByteArray) (m:Int) (ks:List Tr) (p:Nat):NZ (ug E L ctx alone k t m ks p):=by
 unfold ug;exact qE (jC (UX ..) fun r=>qE (o6 _) (nM _ (by decide))) (qE (jC (Qh ..) fun r=>o6 _) (o6 _))
theorem UZ (E:dH) (L:List Loc) (ctx:Int):∀ (l:List Nd),(∀ x∈l,∀ alone p,NZ (wY E L ctx alone x p))→∀ p,NZ (qG E L ctx l p):=by
 intro l;induction l with
 | nil=>intro _ p;rw [qG];exact o6 _
 | cons x r ih=>
  intro h p;rw [qG];exact jC (h x (List.mem_cons_self ..) false p) fun y=>jC (ih (fun z hz=>h z (List.mem_cons_of_mem _ hz)) _) fun ys=>o6 _
theorem Z4 (E:dH) (L:List Loc) (ctx:Int):∀ (x:Nd) (alone:Bool) (p:Nat),NZ (wY E L ctx alone x p):=by
 refine oP fun k t m l ih alone p=>?_
 rw [wY];exact jC (UZ E L ctx l ih _) fun ks=>UY ..
theorem U0 (pr:aI) (L:List Loc) (deep ctx:Int) (last:Bool) (k:Int) (t:ByteArray) (m:Int) (ks:List Tr) (p:Nat):NZ (t_ pr L deep ctx last k t m ks p):=by
 unfold t_
 repeat' refine qE ?_ ?_
 all_goals first
  | exact nM _ (by decide)
  | exact o6 _
theorem Qi (E:dH) (pr:aI) (ctx:Int) (alone:Bool) (L:List Loc) (deep:Int):∀ (l:List Nd),(∀ x∈l,∀ c o L d p,NZ (yE E pr c o L d x p))→∀ b p,NZ (kz E pr ctx alone L deep l b p):=by
 intro l;induction l with
 | nil=>intro _ b p;rw [kz];exact o6 _
 | cons x r ih=>
  intro h b p;rw [kz];exact jC (qE (h x (List.mem_cons_self ..) ..) (Z4 ..)) fun y=>jC (ih (fun z hz=>h z (List.mem_cons_of_mem _ hz)) _ _) fun ys=>o6 _
theorem U1 (E:dH) (pr:aI) (ctx:Int) (outer:Bool) (deep:Int):∀ (l:List Nd),(∀ x∈l,∀ c o L d p,NZ (D5 E pr c o L d x p))→∀ L p,NZ (uQ E pr ctx outer L deep l p):=by
 intro l;induction l with
 | nil=>intro _ L p;rw [uQ];exact o6 _
 | cons x r ih=>
  intro h L p;rw [uQ];exact jC (h x (List.mem_cons_self ..) ..) fun y=>jC (ih (fun z hz=>h z (List.mem_cons_of_mem _ hz)) _ _) fun ys=>o6 _
theorem Qj (E:dH) (pr:aI):∀ (x:Nd),(∀ c o L d p,NZ (D5 E pr c o L d x p))∧∀ c o L d p,NZ (yE E pr c o L d x p):=by
 refine oP fun k t m l ih=>⟨fun c o L d p=>?_,fun c o L d p=>?_⟩
 ·rw [D5]
  exact jC (Qi E pr c _ L d l (fun x hx=>(ih x hx).2) _ _) fun ks=>U0 ..
 ·rw [yE]
  exact jC (U1 E pr c o d l (fun x hx=>(ih x hx).1) _ _) fun ks=>o6 _
theorem Qk (E:dH) (pr:aI) (x:Nd) (p:Nat):NZ (tJ E pr x p):=by
 unfold tJ;exact jC ((Qj E pr _).2 ..) fun b=>qE (nM _ (by decide)) (o6 _)
theorem U2 (own:aN) (G:List (ByteArray×aN)):∀ (l:List Nd),(∀ x∈l,x.kd=2∨x.kd=3∨x.kd=4)→∀ K B p,NZ (gu own G l K (aY l) B p):=by
 intro l;induction l with
 | nil=>intro _ K B p;rw [gu];exact o6 _
 | cons x r ih=>
  intro h K B p;have ih2:=ih (fun z hz=>h z (List.mem_cons_of_mem _ hz));have hk:=h x (List.mem_cons_self ..);by_cases h4:x.kd=4
  ·have e:aY (x::r)=qI x::aY r:=by unfold aY;rw [List.filter_cons,if_pos (show jw x=true from by unfold jw;simpa using h4)];rfl
   rw [e,gu,if_neg (by omega),if_neg (by omega)];exact jC (Qk ..) fun b=>ih2 _ _ _
  ·have e:aY (x::r)=aY r:=by unfold aY;rw [List.filter_cons,if_neg (show ¬ jw x=true from by unfold jw;simpa using h4)]
   rw [e];unfold gu;by_cases h2:x.kd=2
   ·rw [if_pos h2]
    split
    ·exact nM _ (by decide)
    ·exact ih2 _ _ _
   ·rw [if_neg h2,if_pos (by omega)]
    exact ih2 _ _ _
theorem Ep {s:ByteArray} {l:List aN} (h:(qB s).2.2.1=0→∀ x∈(aT s).1.kids,x.kd=2∨x.kd=3∨x.kd=4):NZ (fN s l):=by
 unfold fN;split
 ·exact nM _ (by decide)
 ·by_cases h0:(qB s).2.2.1=0
  ·rw [if_pos h0]
   exact jC (U2 _ _ _ (h h0) _ _ _) fun r=>o6 _
  ·rw [if_neg h0]
   exact nM _ h0
end Jl
end Go.Proofs.YtpcihajmcejliacGreatDoor
namespace Go.Proofs.YtpcihajmcejliacGreatDoor
open Go.RowKit
namespace chk
open bn dn
def jy {α : Type} (T:Rz α):Int:=match T with
 | .bad c _=>c
 | .ok _=>0
def lC {α : Type} (T:Rz (Nd×α)):Nd:=match T with
 | .bad _ _=>jf
 | .ok r=>r.1
def rF {α : Type} (P:Int) (T:Rz α):Int:=match T with
 | .bad _ _=>P
 | .ok _=>0
def F7 (w:World) (P:Int) (T:Rz (Nd×List (ByteArray×aN)×List (aI×Tr))) (e:Ending) (w':World):Prop:=Ext w w'∧∃ v,e=.returned (.tuple #[v,.agg #[.int .i64 (jy T),.int .i64 (rF P T)]])∧fE w' (lC T) v
def LR (R F:Nat) (nc fc:Array Value) (u0:World):List Value→World→Prop
 | [],u=>aH u R #[.int .i64 0,.string ⟨#[]⟩,.int .i64 0,.slice none 0 0] 24∧aH u F #[.int .i64 0,.int .i64 0] 27∧aB (fun i=>i=R∨i=F) u0 u
 | [_],u=>aH u R nc 24∧aH u F #[.int .i64 0,.int .i64 0] 27∧aB (fun i=>i=R∨i=F) u0 u
 | _,u=>aH u R nc 24∧aH u F fc 27∧aB (fun i=>i=R∨i=F) u0 u
theorem LR.c {R F:Nat} {nc fc:Array Value} {u0:World} {vs:List Value} {u:World} (h:LR R F nc fc u0 vs u):aB (fun i=>i=R∨i=F) u0 u:=by
 match vs,h with
 | [],h=>exact h.2.2
 | [_],h=>exact h.2.2
 | _::_::_,h=>exact h.2.2
theorem LU (w:World):fE w jf (.agg #[.int .i64 0,.string ⟨#[]⟩,.int .i64 0,.slice none 0 0]):=by
 unfold jf;rw [cG];exact⟨none,0,rfl,Nat.le_refl _,by decide,by decide,fun j hj=>by cases hj⟩
set_option maxRecDepth 100000 in
set_option maxHeartbeats 8000000 in
theorem check_any (s:ByteArray) (w:World) (l:List aN) (a:Option Addr) (c:Nat) (hs:s.size≤9223372036854775807) (hv:ErrVar w) (hm:dw w) (hl:bW 3 iy w a l) (hlc:l.length≤c) (hcm:c≤maxLen) (hsum:∀ f∈l,f.vars.length+f.procs.length<maxLen) :
  Calls Tryz.prog 17 #[.string s,.slice a l.length c] w (F7 w (vk s (gy l [])) (fN s l)):=by
 have hnz:Jl.NZ (fN s l):=Jl.Ep fun h=>fun x hx=>((yV h).1 x hx).2.1
 obtain⟨R,hR⟩:∃ R,w.heap.size=R:=⟨_,rfl⟩;obtain⟨F,hF⟩:∃ F,R+1=F:=⟨_,rfl⟩;have hR0:=(aH.made w #[.int .i64 0,.string ⟨#[]⟩,.int .i64 0,.slice none 0 0] 24).alloc (.cells #[.int .i64 0,.int .i64 0] 27);have kY:=aH.made2 w (.cells #[.int .i64 0,.string ⟨#[]⟩,.int .i64 0,.slice none 0 0] 24) #[.int .i64 0,.int .i64 0] 27;rw [hR] at hR0 kY;rw [hF] at kY;have oH:=((aB.refl (fun _=>False) w).alloc (.cells #[.int .i64 0,.string ⟨#[]⟩,.int .i64 0,.slice none 0 0] 24)).alloc (.cells #[.int .i64 0,.int .i64 0] 27);have HL:=Z_ (Fq s _ l a c hs (hv.ext oH) (hm.ext oH) (hl.mono oH.size fun b o x hb h=>iy.ext oH hb h) hlc hcm hsum);obtain⟨P,hP⟩:∃ P,vk s (gy l [])=P:=⟨_,rfl⟩;obtain⟨T,hT⟩:∃ T,fN s l=T:=⟨_,rfl⟩;rw [hP,hT] at HL ⊢
 rw [hT] at hnz;obtain⟨n,hn⟩:∃ n,l.length=n:=⟨_,rfl⟩;rw [hn] at HL ⊢;have HNZ:=Z_ hnz;have hz0:((w.alloc (.cells #[.int .i64 0,.string ⟨#[]⟩,.int .i64 0,.slice none 0 0] 24)).alloc (.cells #[.int .i64 0,.int .i64 0] 27)).heap.size=F+1:=by simp;omega
 have HR0:=Z_ hR0;have pM:=Z_ kY;have HX0:=Z_ oH;have oM:R<F:=by omega
 clear hR0 kY oH hs hv hm hl hlc hcm hsum hP hT hn hnz;go_enter Tryz.func17,Tryz.ntmps17
 go_upto_region 1 with (fail)
 try rw [hF]
 generalize (w.alloc (.cells #[.int .i64 0,.string ⟨#[]⟩,.int .i64 0,.slice none 0 0] 24)).alloc (.cells #[.int .i64 0,.int .i64 0] 27)=u0 at *;go_wp2_with fail
 refine HL.out.mono ?_
 rintro e w1 ⟨hE1,hres⟩;have HR1:=Z_ (HR0.out.ext hE1);have AK:=Z_ (pM.out.ext hE1);have Kr:=Z_ (HX0.out.ext hE1);obtain⟨V,hV⟩:∃ V,w1.heap.size=V:=⟨_,rfl⟩;have XW:F<V:=by rw [←hV];exact AK.out.lt
 cases T with
 | bad c9 p9=>
  obtain⟨vp,rfl⟩:=hres;have uz:c9≠0:=fun e=>by subst e;exact HNZ.out.out p9 rfl
  have hcn:(c9 != 0)=true:=by simpa using uz
  have HV:=Z_ (show aH (w1.alloc (.cells #[.int .i64 c9,.int .i64 P] 27)) V #[.int .i64 c9,.int .i64 P] 27 by rw [←hV];exact aH.made w1 _ _);have HR2:=Z_ (HR1.out.alloc (.cells #[.int .i64 c9,.int .i64 P] 27));have HF2:=Z_ (AK.out.alloc (.cells #[.int .i64 c9,.int .i64 P] 27));have rY:=Z_ (Kr.out.alloc (.cells #[.int .i64 c9,.int .i64 P] 27));clear HL HR0 pM HX0 hE1 HR1 AK Kr uz;go_upto_region 2 with (fail)
  try rw [hV]
  generalize w1.alloc (.cells #[.int .i64 c9,.int .i64 P] 27)=u2 at *;have PT:=HV.out.cell;go_upto_region 3 with (fail)
  clear PT;refine ah [2,3] (fun i v _=>v=([.agg #[.int .i64 0,.string ⟨#[]⟩,.int .i64 0,.slice none 0 0],.agg #[.int .i64 c9,.int .i64 P],undef,undef]:List Value).getD i undef) (LR R F #[.int .i64 0,.string ⟨#[]⟩,.int .i64 0,.slice none 0 0] #[.int .i64 c9,.int .i64 P] u2) (fun _ _=>True) (frame:=?Bd) (fun x=>?o7) bn.mixed (by kernel_rfl) (by kernel_rfl) (fun _ _ _ _ h _=>h) ?Be ?Bf ?o8
  case o7=>
   simp only [chain.aK,chain.fill,chain.bf,chain.aW,jJ,jK,jL,jM,jO,jP,jQ,jR,jS];exact rfl
  case Be=>exact⟨HR2.out.drew,HF2.out.drew,(aB.refl _ _).drew⟩
  case Bf=>
   iterate 4 (refine ai.cons (fun x vs u hF hm hb hd K' hK'=>?_) ?_;rotate_left)
   exact ai.nil
   ·have HF:=Z_ hF;clear hd hm hb hF;go_simp;exact hK'.out _ _ _ (rfl) trivial ⟨rfl,HF.out⟩
   ·have hq:=(HV.out.aO hF.c (by omega)).cell;have HF:=Z_ hF;clear hd hm hb hF;go_simp;exact hK'.out _ _ _ (rfl) trivial ⟨rfl,HF.out⟩
   ·obtain rfl:=kF hm;have y0:x 17=.agg #[.int .i64 0,.string ⟨#[]⟩,.int .i64 0,.slice none 0 0]:=(D_ hd 0 :);obtain⟨g1,g2,g3⟩:=(show _∧_ from hF);have hq:=g1.cell;have yI:=g1.frozen;have kN:=g1.lt;have HG:=Z_ (And.intro g1 (And.intro g2 g3));clear hd hm hb hF g1 g2 g3;go_simp;obtain⟨g1,g2,g3⟩:=HG.out;exact hK'.out _ _ undef (by simp only [y0];rfl) trivial ⟨((((g1.set 0 _).set 1 _).set 2 _).set 3 _),((((g2.setOther (p:=⟨R,0,none⟩) (by show F≠R;omega) _).setOther (p:=⟨R,1,none⟩) (by show F≠R;omega) _).setOther (p:=⟨R,2,none⟩) (by show F≠R;omega) _).setOther (p:=⟨R,3,none⟩) (by show F≠R;omega) _),((((g3.setCell (p:=⟨R,0,none⟩) (fun _=>.inl rfl) _).setCell (p:=⟨R,1,none⟩) (fun _=>.inl rfl) _).setCell (p:=⟨R,2,none⟩) (fun _=>.inl rfl) _).setCell (p:=⟨R,3,none⟩) (fun _=>.inl rfl) _)⟩
   ·obtain⟨v0,rfl⟩:=lK hm
    have y0:x 18=.agg #[.int .i64 c9,.int .i64 P]:=(D_ hd 1 :);obtain⟨g1,g2,g3⟩:=(show _∧_ from hF);have hq:=g2.cell;have yI:=g2.frozen;have kN:=g2.lt;have HG:=Z_ (And.intro g1 (And.intro g2 g3));clear hd hm hb hF g1 g2 g3;go_simp;obtain⟨g1,g2,g3⟩:=HG.out;exact hK'.out _ _ undef (by simp only [y0];rfl) trivial ⟨(g1.setOther (p:=⟨F,0,none⟩) (by show R≠F;omega) _).setOther (p:=⟨F,1,none⟩) (by show R≠F;omega) _,(g2.set 0 _).set 1 _,(g3.setCell (p:=⟨F,0,none⟩) (fun _=>.inr rfl) _).setCell (p:=⟨F,1,none⟩) (fun _=>.inr rfl) _⟩
  case o8=>
   intro x9 qj w9 hl hF hk9;obtain⟨v0,v1,rfl⟩:=CV hl
   have mN:=Z_ (show _∧_ from hF);clear hk9 hl hF;go_wp2_with fail
   exact bodyPost_ret (jq rfl _ _ rfl mN.out.1 Tryz.underlying24 rfl (by kernel_rfl) rfl mN.out.2.1 Tryz.underlying27 rfl (by kernel_rfl)) rfl ⟨rY.out.trans mN.out.2.2 (fun i hi e=>by omega),_,rfl,LU _⟩
 | ok r=>
  obtain⟨Mo,D,cH,dB,d0,d1,d2,d3,d4,d5,d6,d7,d8,rfl,hmo,hd,hnd⟩:=hres;have HV:=Z_ (show aH (w1.alloc (.cells #[.int .i64 0,.int .i64 0] 27)) V #[.int .i64 0,.int .i64 0] 27 by rw [←hV];exact aH.made w1 _ _);have HR2:=Z_ (HR1.out.alloc (.cells #[.int .i64 0,.int .i64 0] 27));have HF2:=Z_ (AK.out.alloc (.cells #[.int .i64 0,.int .i64 0] 27));have rY:=Z_ (Kr.out.alloc (.cells #[.int .i64 0,.int .i64 0] 27));have hMR:=sJ hmo HR1.out (by simp);have hMF:=sJ hmo AK.out (by simp);have hDR:=sJ hd HR1.out (by simp);have hDF:=sJ hd AK.out (by simp);obtain⟨k0,t0,n0,a0,l0,c0,e0⟩:=bU hnd;cases e0
  have Kq:=Z_ (hmo.alloc (.cells #[.int .i64 0,.int .i64 0] 27));have HD:=Z_ (hd.alloc (.cells #[.int .i64 0,.int .i64 0] 27));have hex:=(aB.refl (fun _=>False) w1).alloc (.cells #[.int .i64 0,.int .i64 0] 27);have GV:=Z_ (aJ (aC (M:=below (F+1)) hex fun i _ e=>e.elim) _ _ (by rw [←hz0];exact hnd));clear HL HR0 pM HX0 hE1 HR1 AK Kr hmo hd hnd hex HNZ hz0;go_upto_region 2 with (fail)
  try rw [hV]
  generalize w1.alloc (.cells #[.int .i64 0,.int .i64 0] 27)=u2 at *;have PT:=HV.out.cell;go_upto_region 4 with (fail)
  clear PT;refine ah [8,9] (fun i v _=>v=([.pointer (some ⟨Mo,0,none⟩),.pointer (some ⟨Mo,0,none⟩),.pointer (some ⟨Mo,0,none⟩),.pointer (some ⟨D,0,none⟩),.pointer (some ⟨D,0,none⟩),.pointer (some ⟨D,3,none⟩),.agg #[.int .i64 k0,.string t0,.int .i64 n0,.slice a0 l0 c0],.agg #[.int .i64 0,.int .i64 0],undef,undef]:List Value).getD i undef) (LR R F #[.int .i64 k0,.string t0,.int .i64 n0,.slice a0 l0 c0] #[.int .i64 0,.int .i64 0] u2) (fun _ _=>True) (frame:=?Ah) (fun x=>?oQ) bn.mixed (by kernel_rfl) (by kernel_rfl) (fun _ _ _ _ h _=>h) ?Ai ?Aj ?oU
  case oQ=>
   simp only [chain.aK,chain.fill,chain.bf,chain.aW,jJ,jK,jL,jM,jO,jP,jQ,jR,jS];exact rfl
  case Ai=>exact⟨HR2.out.drew,HF2.out.drew,(aB.refl _ _).drew⟩
  case Aj=>
   iterate 10 (refine ai.cons (fun x vs u hF hm hb hd K' hK'=>?_) ?_;rotate_left)
   exact ai.nil
   ·have HF:=Z_ hF;clear hd hm hb hF;go_simp;exact hK'.out _ _ _ (rfl) trivial ⟨rfl,HF.out⟩
   ·have y0:x 19=.pointer (some ⟨Mo,0,none⟩):=(D_ hd 0 :);have HF:=Z_ hF;clear hd hm hb hF;go_simp;exact hK'.out _ _ _ (by simp only [y0];rfl) trivial ⟨rfl,HF.out⟩
   ·have y0:x 20=.pointer (some ⟨Mo,0,none⟩):=(D_ hd 1 :);have HF:=Z_ hF;clear hd hm hb hF;go_simp;exact hK'.out _ _ _ (by simp only [y0];rfl) trivial ⟨rfl,HF.out⟩
   ·have hq:=(Kq.out.aO hF.c (by omega)).cell;have y0:x 21=.pointer (some ⟨Mo,0,none⟩):=(D_ hd 2 :);have HF:=Z_ hF;clear hd hm hb hF;go_simp;exact hK'.out _ _ _ (by simp only [y0];rfl) trivial ⟨rfl,HF.out⟩
   ·have y0:x 22=.pointer (some ⟨D,0,none⟩):=(D_ hd 3 :);have HF:=Z_ hF;clear hd hm hb hF;go_simp;exact hK'.out _ _ _ (by simp only [y0];rfl) trivial ⟨rfl,HF.out⟩
   ·have y0:x 23=.pointer (some ⟨D,0,none⟩):=(D_ hd 4 :);have HF:=Z_ hF;clear hd hm hb hF;go_simp;exact hK'.out _ _ _ (by simp only [y0];rfl) trivial ⟨rfl,HF.out⟩
   ·have hq:=(HD.out.aO hF.c (by omega)).cell;have y0:x 24=.pointer (some ⟨D,3,none⟩):=(D_ hd 5 :);have HF:=Z_ hF;clear hd hm hb hF;go_simp;exact hK'.out _ _ _ (by simp only [y0];rfl) trivial ⟨rfl,HF.out⟩
   ·have hq:=(HV.out.aO hF.c (by omega)).cell;have HF:=Z_ hF;clear hd hm hb hF;go_simp;exact hK'.out _ _ _ (rfl) trivial ⟨rfl,HF.out⟩
   ·obtain rfl:=kF hm;have y0:x 25=.agg #[.int .i64 k0,.string t0,.int .i64 n0,.slice a0 l0 c0]:=(D_ hd 6 :);obtain⟨g1,g2,g3⟩:=(show _∧_ from hF);have hq:=g1.cell;have yI:=g1.frozen;have kN:=g1.lt;have HG:=Z_ (And.intro g1 (And.intro g2 g3));clear hd hm hb hF g1 g2 g3;go_simp;obtain⟨g1,g2,g3⟩:=HG.out;exact hK'.out _ _ undef (by simp only [y0];rfl) trivial ⟨((((g1.set 0 _).set 1 _).set 2 _).set 3 _),((((g2.setOther (p:=⟨R,0,none⟩) (by show F≠R;omega) _).setOther (p:=⟨R,1,none⟩) (by show F≠R;omega) _).setOther (p:=⟨R,2,none⟩) (by show F≠R;omega) _).setOther (p:=⟨R,3,none⟩) (by show F≠R;omega) _),((((g3.setCell (p:=⟨R,0,none⟩) (fun _=>.inl rfl) _).setCell (p:=⟨R,1,none⟩) (fun _=>.inl rfl) _).setCell (p:=⟨R,2,none⟩) (fun _=>.inl rfl) _).setCell (p:=⟨R,3,none⟩) (fun _=>.inl rfl) _)⟩
   ·obtain⟨v0,rfl⟩:=lK hm
    have y0:x 26=.agg #[.int .i64 0,.int .i64 0]:=(D_ hd 7 :);obtain⟨g1,g2,g3⟩:=(show _∧_ from hF);have hq:=g2.cell;have yI:=g2.frozen;have kN:=g2.lt;have HG:=Z_ (And.intro g1 (And.intro g2 g3));clear hd hm hb hF g1 g2 g3;go_simp;obtain⟨g1,g2,g3⟩:=HG.out;exact hK'.out _ _ undef (by simp only [y0];rfl) trivial ⟨(g1.setOther (p:=⟨F,0,none⟩) (by show R≠F;omega) _).setOther (p:=⟨F,1,none⟩) (by show R≠F;omega) _,(g2.set 0 _).set 1 _,(g3.setCell (p:=⟨F,0,none⟩) (fun _=>.inr rfl) _).setCell (p:=⟨F,1,none⟩) (fun _=>.inr rfl) _⟩
  case oU=>
   intro x9 qj w9 hl hF hk9;obtain⟨v0,v1,rfl⟩:=CV hl
   have mN:=Z_ (show _∧_ from hF);clear hk9 hl hF;go_wp2_with fail
   exact bodyPost_ret (jq rfl _ _ rfl mN.out.1 Tryz.underlying24 rfl (by kernel_rfl) rfl mN.out.2.1 Tryz.underlying27 rfl (by kernel_rfl)) rfl ⟨rY.out.trans mN.out.2.2 (fun i hi e=>by omega),_,rfl,aJ (az _ _) _ _ (aJ (aC (M:=below (F+1)) mN.out.2.2 fun i _ e=>by rcases e with e|e<;>(subst e;simp [below];try omega)) _ _ GV.out)⟩
end chk
end Go.Proofs.YtpcihajmcejliacGreatDoor
namespace Go.Proofs.YtpcihajmcejliacGreatDoor
open Go.RowKit
namespace pW
open chk
theorem xQ (G:List (ByteArray×aN)) (m:ByteArray) (f:aN) (s:ByteArray) (h:s≠m):bG (G ++ [(m,f)]) s=bG G s:=by
 induction G with
 | nil=>
  simp only [List.nil_append,bG];rw [if_neg (fun e=>h e.symm)]
 | cons g r ih=>
  obtain⟨x,y⟩:=g;rw [List.cons_append];simp only [bG];rw [ih]
theorem F8 (m:aN) (hm:iG m=true):∀ (l:List aN) (G:List (ByteArray×aN)),(∀ f∈l,f.modn≠m.modn)→bG G m.modn=none→
  gy (l ++ [m]) G=(gy l G).map (fun G=>G ++ [(m.modn,m)]):=by
 intro l;induction l with
 | nil=>
  intro G _ hk;simp only [List.nil_append,gy,hk,hm];rfl
 | cons f r ih=>
  intro G hd hk;rw [List.cons_append];simp only [gy];by_cases h:(bG G f.modn).isSome=true∨iG f=false
  ·rw [if_pos h,if_pos h];rfl
  ·rw [if_neg h,if_neg h]
   exact ih _ (fun x hx=>hd x (List.mem_cons_of_mem _ hx)) (by rw [xQ _ _ _ _ (fun e=>hd f (List.mem_cons_self ..) e.symm)];exact hk)
theorem LV (own:aN) (G:List (ByteArray×aN)) (m:ByteArray) (f:aN):∀ (l:List Nd) (K:List (ByteArray×aN)) (ps:List aI) (B:List (aI×Tr)) (a:Nat),(∀ x∈l,x.kd=2→x.tx≠m)→
  gu own (G ++ [(m,f)]) l K ps B a=gu own G l K ps B a:=by
 intro l;induction l with
 | nil=>intros;rfl
 | cons x r ih=>
  intro K ps B a h;have h2:∀ y∈r,y.kd=2→y.tx≠m:=fun y hy=>h y (List.mem_cons_of_mem _ hy)
  unfold gu;by_cases hk:x.kd=2
  ·rw [if_pos hk,if_pos hk,xQ _ _ _ _ (h x (List.mem_cons_self ..) hk)]
   cases bG G x.tx with
   | none=>rfl
   | some g=>exact ih _ _ _ _ h2
  ·rw [if_neg hk,if_neg hk]
   by_cases h3:x.kd=3
   ·rw [if_pos h3,if_pos h3];exact ih _ _ _ _ h2
   ·rw [if_neg h3,if_neg h3]
    cases ps with
    | nil=>rfl
    | cons p q=>
     show Rz.bind _ _=Rz.bind _ _
     congr 1
     funext b
     exact ih _ _ _ _ h2
theorem LW {s:ByteArray} (h:(qB s).2.2.1=0):(qB s).2.1=dR (aT s).1.kids:=by
 have h2:=Ec h;unfold qB;rw [if_pos h2.1,if_pos h2.2.1]
theorem FW (s:ByteArray) (l:List aN) (m:aN) (h0:(qB s).2.2.1=0) (hi:m.modn ∉ (qB s).2.1) (hm:iG m=true) (hd:∀ f∈l,f.modn≠m.modn) :
  fN s (l ++ [m])=fN s l∧vk s (gy (l ++ [m]) [])=vk s (gy l []):=by
 have hg:=F8 m hm l [] hd rfl
 have hk:∀ x∈(aT s).1.kids,x.kd=2→x.tx≠m.modn:=by
  intro x hx hk e;apply hi
  rw [LW h0];unfold dR;exact List.mem_map.2 ⟨x,List.mem_filter.2 ⟨hx,by unfold xE;simpa using hk⟩,e⟩
 unfold fN vk;rw [hg];cases gy l [] with
 | none=>exact⟨rfl,rfl⟩
 | some G=>
  simp only [Option.map_some];rw [if_pos h0,if_pos h0,if_pos h0,if_pos h0,LV _ _ _ _ _ _ _ _ _ hk];exact⟨rfl,rfl⟩
theorem Jc (s:ByteArray) (l:List aN) (h:(qB s).2.2.1≠0):jy (fN s l)≠0:=by
 unfold fN;cases gy l [] with
 | none=>exact(by decide:(2:Int)≠0)
 | some G=>
  simp only [];rw [if_neg h];exact h
theorem LJ (s:ByteArray) (l:List aN) (h:jy (fN s l)=0):(lC (fN s l)).kd=1:=by
 have hnz:Jl.NZ (fN s l):=Jl.Ep fun h=>fun x hx=>((yV h).1 x hx).2.1
 have key:∀ r,fN s l=.ok r→r.1.kd=1:=by
  intro r hr;unfold fN at hr;revert hr
  cases gy l [] with
  | none=>intro hr;cases hr
  | some G=>
   intro hr;simp only [] at hr;by_cases h0:(qB s).2.2.1=0
   ·rw [if_pos h0] at hr
    have hp:=(Aw s (Ec h0).1).2.1;revert hr
    cases gu ⟨(aT s).1.tx,fH (aT s).1.kids,aY (aT s).1.kids⟩ G (aT s).1.kids [] (aY (aT s).1.kids) [] 1 with
    | bad c p=>intro hr;cases hr
    | ok y=>
     intro hr;cases hr
     exact hp
   ·rw [if_neg h0] at hr;cases hr
 revert h hnz key
 cases fN s l with
 | bad c p=>
  intro h hnz _;obtain rfl:c=0:=h;exact absurd rfl (hnz.1 p)
 | ok r=>intro _ _ key;exact key r rfl
end pW
end Go.Proofs.YtpcihajmcejliacGreatDoor
namespace Go.Proofs.YtpcihajmcejliacGreatDoor
open Go.RowKit
namespace pW
open dn
theorem y_ {w w':World} (hE:Ext w w') {b o:Nat} {x:ByteArray} (hb:b<w.heap.size) (h:kC w b o x):kC w' b o x:=⟨by rw [hE.cell (by exact hb) id];exact h.1,h.2⟩
def hasB (l:List ByteArray) (s:ByteArray):Bool:=l.any fun x=>decide (x=s)
theorem Jm {l:List ByteArray} {k:Nat} {s:ByteArray} (h:k<l.length):hasB (l.drop k) s=(decide (l[k]=s) || hasB (l.drop (k+1)) s):=by
 rw [List.drop_eq_getElem_cons h];rfl
set_option maxRecDepth 100000 in
set_option maxHeartbeats 2000000 in
theorem LL (a:Option Addr) (l:List ByteArray) (n cap:Nat) (s:ByteArray) (w:World) (hn:l.length=n) (hl:bW 1 kC w a l) (hm:n≤9223372036854775807) :
  Calls Tryz.prog 19 #[.slice a n cap,.string s] w fun e w'=>e=.returned (.bool (hasB l s))∧Ext w w':=by
 obtain⟨R,hR⟩:∃ R,hasB l s=R:=⟨_,rfl⟩;rw [hR];have HR:=Z_ hR;have HN:=Z_ hn;have HL:=Z_ hl;clear hR hn hl;go_enter Tryz.func19,Tryz.ntmps19
 go_wp2_with fail
 go_loopw [5] (fun i wr=>∃ k:Nat,k≤n∧i=.int .i64 k∧Ext w wr∧Hid (hasB (l.drop k) s=R)) (fun i _=>n-(intOf i).toNat)
 case atStart=>exact⟨0,Nat.zero_le _,rfl,aB.refl _ _,by unfold Hid;exact HR.out⟩
 case round=>
  obtain⟨k,hk,rfl,hE,hr⟩:=hrel;by_cases hlt:k<n
  ·have hkl:k<l.length:=by rw [HN.out];exact hlt
   obtain⟨b,o,rfl,hb,hc⟩:=HL.out k hkl;obtain⟨c0,-⟩:=y_ hE hb hc;have HF:=Z_ ((Jm (s:=s) hkl).symm.trans hr.out);clear hc hr;generalize l[k]=nm at *;rw [show o+k*1=o+k from by rw [Nat.mul_one]] at c0;by_cases hs:nm=s
   ·subst hs
    have HF2:=Z_ (show R=true by rw [←HF.out];simp);go_wp2_with fail
    go_ret
    rw [HF2.out];exact⟨rfl,hE⟩
   ·have HF2:=Z_ (show hasB (l.drop (k+1)) s=R by rw [←HF.out];simp [hs])
    have h0:(nm.toList == s.toList)=false:=by rw [ByteArray.toList_eq,ByteArray.toList_eq];simpa [ByteArray.ext_iff] using hs
    have h1:(nm.data.toList == s.data.toList)=false:=by simpa [ByteArray.ext_iff] using hs
    clear hs HF;go_wp2_with fail
    go_roundw
    case rel=>exact⟨k+1,by omega,by go_num,hE,HF2.out⟩
    case measure=>simp [intOf];omega
  ·obtain rfl:k=n:=by omega
   have HF2:=Z_ (show R=false by rw [←hr.out,List.drop_of_length_le (by rw [HN.out];exact Nat.le_refl _)];rfl);clear hr;go_wp2_with fail
   go_ret
   rw [HF2.out];exact⟨rfl,hE⟩
end pW
end Go.Proofs.YtpcihajmcejliacGreatDoor
namespace Go.Proofs.YtpcihajmcejliacGreatDoor
open Go.RowKit
namespace pW
open dn
def WF (W:World) (n:Nat) (xs mc:List Value):List Value→World→Prop
 | [],u=>Ext W u
 | [v],u=>Ext W u∧∃ g,v=.slice (some ⟨g,0,none⟩) 0 0∧aH u g #[] 37∧W.heap.size≤g
 | [_,v],u=>Ext W u∧u.ownsRow W.heap.size 37 3 v n xs∧(n=0→∃ g,v=.slice (some ⟨g,0,none⟩) 0 0∧aH u g #[] 37)
 | [_,_,v],u=>Ext W u∧(∃ g c,v=.slice (some ⟨g,0,none⟩) (n+1) c)∧u.ownsRow W.heap.size 37 3 v (n+1) (xs++mc)
 | [_,_,v,r],u=>r=v∧Ext W u∧(∃ g c,v=.slice (some ⟨g,0,none⟩) (n+1) c)∧u.ownsRow W.heap.size 37 3 v (n+1) (xs++mc)
 | _,_=>False
theorem WF.base {W:World} {n:Nat} {xs mc vs:List Value} {u:World} (h:WF W n xs mc vs u):Ext W u:=by
 match vs,h with
 | [],h=>exact h
 | [_],h=>exact h.1
 | [_,_],h=>exact h.1
 | [_,_,_],h=>exact h.1
 | [_,_,_,_],h=>exact h.2.1
theorem WF.alloc {W:World} {n:Nat} {xs mc vs:List Value} {u:World} (h:WF W n xs mc vs u) (o:Obj):WF W n xs mc vs (u.alloc o):=by
 have hX:=(aB.refl (fun _=>False) u).alloc o;match vs,h with
 | [],h=>exact aB.alloc h o
 | [_],⟨h,g,e,hb,hg⟩=>exact⟨h.alloc o,g,e,hb.alloc o,hg⟩
 | [_,_],⟨h,ho,hn⟩=>exact⟨h.alloc o,lV ho hX,fun e=>by obtain⟨g,e1,hb⟩:=hn e;exact⟨g,e1,hb.alloc o⟩⟩
 | [_,_,_],⟨h,hg,ho⟩=>exact⟨h.alloc o,hg,lV ho hX⟩
 | [_,_,_,_],⟨e,h,hg,ho⟩=>exact⟨e,h.alloc o,hg,lV ho hX⟩
def XU (fa:Option Addr) (n cap:Nat) (mc:Array Value):Nat→Value→World→Prop
 | 1,v,_=>v=.slice fa n cap
 | 3,v,_=>v=.agg mc
 | 4,v,u=>∃ g,v=.slice (some ⟨g,0,none⟩) 1 1∧aH u g mc 37
 | _,_,_=>True
def GW (mc:Array Value) (u u':World):Prop:=∀ g,aH u g mc 37→aH u' g mc 37
theorem Je {fa:Option Addr} {n cap:Nat} {mc:Array Value} (i:Nat) (v:Value) (u u':World) (h:XU fa n cap mc i v u) (hG:GW mc u u'):XU fa n cap mc i v u':=by
 unfold XU at *;split at h
 ·exact h
 ·exact h
 ·obtain⟨g,e,hb⟩:=h;exact⟨g,e,hG g hb⟩
 ·trivial
theorem sQ {mc:Array Value} {u u':World} (h:Ext u u'):GW mc u u':=fun _ hb=>hb.ext h
theorem FY {u:World} {N n:Nat} {v:Value} {xs:List Value} {s:ByteArray} {p q:Value} (h:u.ownsRow N 37 3 v n xs) (hn:0<n) (hx:xs[0]?≠some (.string s)) {g:Nat} (hg:v.ownBlock=some g):¬ aH u g #[.string s,p,q] 37:=by
 obtain⟨hl,h2⟩:=h;intro hb;rcases h2 with ⟨rfl,h0⟩|⟨g',cap,cur,rfl,-,hh,h3,h4,h5,h6⟩
 ·omega
 ·obtain rfl:g'=g:=by simpa [Value.ownBlock] using hg
  unfold aH at hb;rw [hh] at hb;obtain rfl:cur=#[.string s,p,q]:=by simpa using hb
  apply hx
  rw [←h6,List.getElem?_take,if_pos (by omega)];rfl
theorem xM {u:World} {g:Nat} {s:ByteArray} {p q:Value} (h:aH u g #[] 37):¬ aH u g #[.string s,p,q] 37:=fun hb=>by
 unfold aH at h hb;rw [h] at hb;simp at hb
theorem AX {s:ByteArray} {p q:Value} {u u':World} {own:Option Nat} (hg:u.grownBy u' own) (hn:∀ g,own=some g→¬ aH u g #[.string s,p,q] 37):GW #[.string s,p,q] u u':=fun g hb=>hb.aO (nD hg) fun e=>hn g e hb
theorem Dp {w:World} {b o:Nat} {l:List aN} (h:bW 3 iy w (some ⟨b,o,none⟩) l):∃ xs:List Value,xs.length=l.length*3∧(∀ j u,xs[j]? = some u→w.cell? ⟨b,o+j,none⟩=some u)∧(∀ u∈xs,u.oneCell'=true):=by
 have key:∀ j,j<l.length*3→∃ u,w.cell? ⟨b,o+j,none⟩=some u∧u.oneCell'=true:=by
  intro j hj;obtain⟨b',o',e,-,a,m,c,d,h0,h1,h2,-⟩:=h (j / 3) (by omega);obtain⟨rfl,rfl⟩:b=b'∧o=o':=by simpa using e
  have hr:j % 3=0∨j % 3=1∨j % 3=2:=by omega
  rcases hr with hr|hr|hr
  ·rw [show o+j=o+j / 3*3 by omega];exact⟨_,h0,rfl⟩
  ·rw [show o+j=o+j / 3*3+1 by omega];exact⟨_,h1,rfl⟩
  ·rw [show o+j=o+j / 3*3+2 by omega];exact⟨_,h2,rfl⟩
 refine⟨(List.range (l.length*3)).map fun j=>(w.cell? ⟨b,o+j,none⟩).getD undef,by simp,fun j u hu=>?_,fun u hu=>?_⟩
 ·rw [List.getElem?_map] at hu
  rcases Nat.lt_or_ge j (l.length*3) with hj|hj
  ·rw [List.getElem?_range hj] at hu
   obtain⟨v,hv,-⟩:=key j hj;simp only [Option.map_some,hv,Option.getD_some,Option.some.injEq] at hu;rw [hv,hu]
  ·rw [List.getElem?_eq_none (by simpa using hj)] at hu;cases hu
 ·obtain⟨j,hj,rfl⟩:=List.mem_map.1 hu
  obtain⟨v,hv,h1⟩:=key j (List.mem_range.1 hj);rw [hv];exact h1
theorem Em:(Tryz.prog.info? 37).map (fun i=>(i.zero,i.size,i.bytes))=some (some (.agg #[.string ⟨#[]⟩,.slice none 0 0,.slice none 0 0]),3,64):=by kernel_rfl
theorem vO {P:Program} {w:World} {o:Oper} {a:Act} {K:Act→World→Prop} {Q:Exit→Act→World→Prop} (s x:Operand) (t:TypeId) (ho:o.op=.call { callee:=.builtin .append,args:=#[s,x],argTypes:=#[t,t] })
  (e:TypeId) (i:TypeInfo) (ht:P.underlying t=some (.slice e)) (hi:P.info? e=some i) (b:Option Addr) (n c:Nat) (hle:n≤c) (hs:a.eval s=.slice b n c) (v:Value) (hx:a.eval x=v) (hsrc:Src P i.size t v 0 [] w) (h:K (a.put o.dst (.slice b n c)) w):o.wp P a w K Q:=by
 have hr:=run_append_nothing (P:=P) w t t o.type e i ht hi b n c hle v hsrc;unfold Oper.wp execOp;simp only [ho,resolve,invoke,builtin,Sem.run_bind,Sem.run_pure,Result.andThen_ok,List.map_toArray,List.map_cons,List.map_nil,hs,hx,hr];exact h
theorem own_base {u:World} {N n:Nat} {v:Value} {xs:List Value} (h:u.ownsRow N 37 3 v n xs) {g:Nat} (hg:v.ownBlock=some g):N≤g:=by
 rcases h.2 with ⟨rfl,h0⟩|⟨g',cap,cur,rfl,h1,-⟩
 ·cases hg
 ·obtain rfl:g'=g:=by simpa [Value.ownBlock] using hg
  exact h1
theorem Jf {fa:Option Addr} {cap:Nat} (w:World):Src Tryz.prog 3 33 (.slice fa 0 cap) 0 [] w:=by
 cases fa with
 | none=>exact Src.ofNil w Tryz.underlying33 cap
 | some a=>exact Src.ofSlice w Tryz.underlying33 a 0 cap [] rfl (fun j u hu=>by simp at hu) (fun _ h=>by simp at h)
theorem LN {W u:World} {fa:Option Addr} {l:List aN} {m:aN} {xs:List Value} {N g c:Nat} {ma mp:Option Addr} {mc mq:Nat} (hE:Ext W u) (hl:bW 3 iy W fa l) (hxl:xs.length=l.length*3) (hx:∀ b o,fa=some ⟨b,o,none⟩→∀ j v,xs[j]? = some v→W.cell? ⟨b,o+j,none⟩=some v)
  (hm:eC W m (.agg #[.string m.modn,.slice ma m.vars.length mc,.slice mp m.procs.length mq])) (h:u.ownsRow N 37 3 (.slice (some ⟨g,0,none⟩) (l.length+1) c) (l.length+1) (xs ++ [.string m.modn,.slice ma m.vars.length mc,.slice mp m.procs.length mq])) :
  bW 3 iy u (some ⟨g,0,none⟩) (l ++ [m])∧l.length+1≤c∧c≤maxLen:=by
 obtain⟨hlen,h2⟩:=h;rcases h2 with ⟨e,-⟩|⟨g',cap,cur,e,-,hh,h3,h4,h5,h6⟩
 ·cases e
 ·obtain⟨rfl,rfl⟩:g=g'∧c=cap:=by simpa using e
  have hcell:∀ j v,(xs ++ [.string m.modn,.slice ma m.vars.length mc,.slice mp m.procs.length mq])[j]? = some v→u.cell? ⟨g,j,none⟩=some v:=by
   intro j v hv;rw [←h6,List.getElem?_take] at hv;split at hv
   ·simp [World.cell?,hh]
    simpa using hv
   ·cases hv
  have hlt:g<u.heap.size:=by
   rcases Nat.lt_or_ge g u.heap.size with h'|h'
   ·exact h'
   ·rw [Array.getElem?_eq_none h'] at hh;cases hh
  refine⟨fun j hj=>⟨g,0,rfl,hlt,?_⟩,h3,h4⟩
  rw [List.length_append,List.length_singleton] at hj;by_cases hjl:j<l.length
  ·obtain⟨b,o,e1,hb,a,m1,c1,d,q0,q1,q2,q3⟩:=hl j hjl
   rw [List.getElem_append_left hjl]
   have key:∀ r v,r<3→W.cell? ⟨b,o+j*3+r,none⟩=some v→u.cell? ⟨g,0+j*3+r,none⟩=some v:=by
    intro r v hr hv;refine hcell _ _ ?_
    rw [List.getElem?_append_left (by omega)];have hq:0+j*3+r<xs.length:=by omega
    rw [List.getElem?_eq_getElem hq];have:=hx b o e1 (0+j*3+r) _ (List.getElem?_eq_getElem hq);rw [show o+(0+j*3+r)=o+j*3+r by omega,hv] at this;exact this.symm
   exact⟨a,m1,c1,d,key 0 _ (by decide) q0,key 1 _ (by decide) q1,key 2 _ (by decide) q2,q3.ext hE⟩
  ·obtain rfl:j=l.length:=by omega
   rw [List.getElem_append_right (Nat.le_refl _)];simp only [Nat.sub_self,List.getElem_cons_zero]
   have key:∀ r v,([.string m.modn,.slice ma m.vars.length mc,.slice mp m.procs.length mq]:List Value)[r]? = some v→u.cell? ⟨g,0+l.length*3+r,none⟩=some v:=by
    intro r v hv;refine hcell _ _ ?_
    rw [List.getElem?_append_right (by omega),show 0+l.length*3+r-xs.length=r by omega];exact hv
   exact⟨ma,mc,mp,mq,key 0 _ rfl,key 1 _ rfl,key 2 _ rfl,hm.ext hE⟩
end pW
end Go.Proofs.YtpcihajmcejliacGreatDoor
