/- The walk of the law CheckMore. Rows of faces that come in, opened; how many parts each face has. -/
import Derived.Test.YtpcihajmcejliacGreatDoorShelf
import Derived.Deep.Slices
import Derived.ChangeArms
import Derived.ChangeShapes
import Derived.WideShapes
import Derived.DataReads
import Derived.SizedLaws
import Derived.Shelf.Vars
import Derived.Test.YtpcihajmcejliacGreatDoorSynCm
import Derived.Test.YtpcihajmcejliacGreatDoorOfDm
import Derived.Test.YtpcihajmcejliacGreatDoorOfSm
import Derived.Test.YtpcihajmcejliacGreatDoorFaceMaym
import Derived.Test.YtpcihajmcejliacGreatDoorMorAm
import Derived.Test.YtpcihajmcejliacGreatDoorSynR11m
import Derived.Test.YtpcihajmcejliacGreatDoorLexNumm
namespace Go.Proofs.YtpcihajmcejliacGreatDoor
open Go.RowKit
namespace checkMore
open bn dn chk pW
theorem Qb:(lC (fN ⟨#[109,111,100,117,108,101,32,109,59]⟩ [])).tx=⟨#[109]⟩:=by kernel_rfl
theorem Uy {w:World} {x:Nd} {v:Value} (h:fE w x v):∃ k m a n c,v=.agg #[.int .i64 k,.string x.tx,.int .i64 m,.slice a n c]:=by
 cases x with
 | mk k t m l=>
  rw [cG] at h;obtain⟨a,c,rfl,-⟩:=h;exact⟨_,_,_,_,_,rfl⟩
theorem sO {w w':World} (hE:Ext w w') {a:Option Addr} {l:List aN} (h:bW 3 iy w a l):bW 3 iy w' a l:=fun j hj=>by
 obtain⟨b,o,e,hb,hx⟩:=h j hj;exact⟨b,o,e,Nat.lt_of_lt_of_le hb hE.size,iy.ext hE hb hx⟩
theorem LH {l:List ByteArray} {s:ByteArray} (h:hasB l s=true):0<l.length:=by
 cases l with
 | nil=>cases h
 | cons _ _=>exact Nat.succ_pos _
theorem LI {l:List ByteArray} {s:ByteArray} (h:hasB l s=false):s ∉ l:=fun hm=>by
 have h2:hasB l s=true:=List.any_eq_true.2 ⟨s,hm,decide_eq_true rfl⟩;rw [h] at h2;cases h2
theorem Jb {w:World} {fa:Option Addr} {l:List aN} {k:Nat} {mn:ByteArray} (hn:l.length=k) (h:bW 3 iy w fa l) (ha:∀ f∈l,f.modn≠mn) :
  ∃ xs:List Value,xs.length=k*3∧(∀ b o,fa=some ⟨b,o,none⟩→∀ j v,xs[j]? = some v→w.cell? ⟨b,o+j,none⟩=some v)∧(∀ u∈xs,u.oneCell'=true)∧(0<k→∃ b o,fa=some ⟨b,o,none⟩∧xs[0]?≠some (.string mn)):=by
 subst hn;rcases Nat.eq_zero_or_pos l.length with h0|h0
 ·exact⟨[],by rw [h0];rfl,fun _ _ _ j v hv=>by simp at hv,fun _ h=>by simp at h,fun h=>by omega⟩
 ·obtain⟨b,o,rfl,hb,a,m1,c,d,q0,-⟩:=h 0 h0
  obtain⟨xs,h1,h2,h3⟩:=Dp h;refine⟨xs,h1,fun b' o' e=>?_,h3,fun _=>⟨b,o,rfl,fun e=>?_⟩⟩
  ·obtain⟨rfl,rfl⟩:b=b'∧o=o':=by simpa using e
   exact h2
  ·have h4:=h2 0 _ e
   rw [show o+0=o+0*3 from by omega,q0] at h4;exact ha _ (List.getElem_mem h0) (by simpa using h4)
theorem rE (w:World):bZ w (hide (fun _=>false) w):=⟨by rw [bK];exact Nat.le_refl _,fun p u hp=>by rw [fU (fun _=>false) w p rfl];exact hp⟩
theorem N_ {w:World} {x:Nd} {v:Value} (h:fE w x v):∃ t m a n c,v=.agg #[.int .i64 x.kd,.string t,.int .i64 m,.slice a n c]:=by
 cases x with
 | mk k t m l=>
  rw [cG] at h;obtain⟨a,c,rfl,-⟩:=h;exact⟨_,_,_,_,_,rfl⟩
set_option maxRecDepth 100000 in
set_option maxHeartbeats 8000000 in
theorem walk (s:ByteArray) (fa:Option Addr) (l:List aN) (n cap:Nat) (m:aN) (vm:Value) (w:World) (hn:l.length=n) (hs:s.size≤9223372036854775807) (hv:ErrVar w) (hm:dw w) (hl:bW 3 iy w fa l) (hlc:n≤cap) (hcm:cap≤maxLen)
  (hsum:∀ f∈l,f.vars.length+f.procs.length<maxLen) (hfm:eC w m vm) (hsm:m.vars.length+m.procs.length<maxLen) (hsz:n*64≤140737488351232) :
  Calls Tryz.prog 4 #[.string s,.slice fa n cap,vm] w fun e w'=>e=.returned (.bool true)∧Ext w w':=by
 have CC:=Z_ (fun (u:World) (l:List aN) (a:Option Addr) (c:Nat) (hE:Ext w u) (h:bW 3 iy u a l) (h1:l.length≤c) (h2:c≤maxLen) (h3:∀ f∈l,f.vars.length+f.procs.length<maxLen)=>check_any s u l a c hs (hv.ext hE) (hm.ext hE) h h1 h2 h3);have CO:=Z_ (fun (u:World) (hE:Ext w u)=>ofq.Qc s u hs (hv.ext hE) (hm.ext hE));have CM:=Z_ (fun (u:World) (v:Value) (hE:Ext w u) (hx:eC u m v)=>face.Ee m v u hx hsm (hv.ext hE) (hm.ext hE));have tP:=Z_ (fun h0 hi hm hd=>FW s l m h0 hi hm hd);have kH:=Z_ (Jc s l);have O_:=Z_ (LJ s l);have HS:=Z_ hs;have h1:=check_any ⟨#[109,111,100,117,108,101,32,109,59]⟩;have Aq:=Z_ (fun (u:World) (hE:Ext w u)=>check_any ⟨#[109,111,100,117,108,101,32,109,59]⟩ u [] none 0 (by decide) (hv.ext hE) (hm.ext hE) (fun j hj=>by cases hj) (Nat.le_refl _) (by decide) (fun f hf=>by cases hf))
 clear hs hv hm h1;have Uz:=Z_ Qb;obtain⟨T0,hT0⟩:∃ T0,fN ⟨#[109,111,100,117,108,101,32,109,59]⟩ []=T0:=⟨_,rfl⟩;obtain⟨P0,hP0⟩:∃ P0,vk ⟨#[109,111,100,117,108,101,32,109,59]⟩ (gy [] [])=P0:=⟨_,rfl⟩;rw [hT0] at Aq Uz;rw [hP0] at Aq;clear hT0 hP0;obtain⟨Q,hQ⟩:∃ Q,qB s=Q:=⟨_,rfl⟩;rw [hQ] at CO tP kH;obtain⟨fx,im,c,p⟩:=Q;replace kH:=Z_ (show c≠0→jy (fN s l)≠0 from kH.out);replace tP:=Z_ (show c=0→m.modn ∉ im→iG m=true→(∀ f∈l,f.modn≠m.modn)→fN s (l ++ [m])=fN s l∧vk s (gy (l ++ [m]) [])=vk s (gy l []) from tP.out);clear hQ;have HN:=Z_ hn;have HL:=Z_ hl;have HLC:=Z_ hlc;have HCM:=Z_ hcm;have UA:=Z_ hsum;have J8:=Z_ hsm;have lM:=Z_ hsz
 obtain⟨ma,mc,mp,mq,rfl,hM1,hM2⟩:∃ ma mc mp mq,vm=.agg #[.string m.modn,.slice ma m.vars.length mc,.slice mp m.procs.length mq]∧True∧True:=by
  obtain⟨a,am,c,cm,rfl,-⟩:=hfm;exact⟨_,_,_,_,rfl,trivial,trivial⟩
 clear hM1 hM2;obtain⟨nv,J_⟩:∃ nv,m.vars.length=nv:=⟨_,rfl⟩;obtain⟨np,hnp⟩:∃ np,m.procs.length=np:=⟨_,rfl⟩;obtain⟨mn,hmn⟩:∃ mn,m.modn=mn:=⟨_,rfl⟩;rw [J_,hnp,hmn] at hfm;rw [J_,hnp,hmn];rw [hmn] at tP;have hE0:=(aB.refl (fun _=>False) w).alloc (.cells #[.string mn,.slice ma nv mc,.slice mp np mq] 37);have KW:=Z_ (aH.made w #[.string mn,.slice ma nv mc,.slice mp np mq] 37);have J0:=Z_ (hfm.ext hE0);have ZR:=Z_ hE0;obtain⟨B0,hB0⟩:∃ B0,w.heap.size=B0:=⟨_,rfl⟩;rw [hB0] at KW;have PO:=Z_ J_;have zV:=Z_ hnp;clear hn hl hlc hcm hsum hsm hsz hfm hE0 J_ hnp;go_enter Tryz.func4,Tryz.ntmps4
 go_upto_region 1 with (fail)
 try rw [hB0]
 generalize w.alloc (.cells #[.string mn,.slice ma nv mc,.slice mp np mq] 37)=u0 at *;go_wp2_with fail
 refine(Aq.out u0 ZR.out).mono ?_
 rintro e w1 ⟨hE1,v1,rfl,hn1⟩;obtain⟨k1,m1,a1,n1,c1,rfl⟩:=Uy hn1;rw [Uz.out];have hX1:=(hE1.alloc (.cells #[.int .i64 k1,.string ⟨#[109]⟩,.int .i64 m1,.slice a1 n1 c1] 24)).alloc (.cells #[.int .i64 (jy T0),.int .i64 (rF P0 T0)] 27);have Ef:=Z_ (ZR.out.ext hX1);have XS:=Z_ (KW.out.ext hX1);have HM1:=Z_ (J0.out.ext hX1);clear hE1 hn1 Aq hX1 KW J0 ZR hB0;go_upto_region 4 with (fail)
 generalize (w1.alloc (.cells #[.int .i64 k1,.string ⟨#[109]⟩,.int .i64 m1,.slice a1 n1 c1] 24)).alloc (.cells #[.int .i64 (jy T0),.int .i64 (rF P0 T0)] 27)=u1 at *;go_wp2_with fail
 refine(CO.out u1 Ef.out).mono ?_
 rintro e w2 hO;obtain⟨hE2,vF,vI,rfl,hf2,hi2⟩:=hO.post;replace hi2:kK 1 kC im vI w2:=hi2;replace hf2:eC w2 fx vF:=hf2;obtain⟨ia,ic,rfl,hic,him,hii⟩:=hi2
 obtain⟨xa,xc,xp,xq,rfl,-⟩:∃ ma mc mp mq,vF=.agg #[.string fx.modn,.slice ma fx.vars.length mc,.slice mp fx.procs.length mq]∧True:=by
  obtain⟨a,am,c,cm,rfl,-⟩:=hf2;exact⟨_,_,_,_,rfl,trivial⟩
 have CH:=((aB.refl (fun _=>False) w2).alloc (.cells #[.string fx.modn,.slice xa fx.vars.length xc,.slice xp fx.procs.length xq] 37)).alloc (.cells #[.int .i64 c,.int .i64 p] 27);have HF2:=Z_ (aH.made2 w2 (.cells #[.string fx.modn,.slice xa fx.vars.length xc,.slice xp fx.procs.length xq] 37) #[.int .i64 c,.int .i64 p] 27)
 have ZT:=Z_ (show bW 1 kC _ ia im from fun j hj=>by
  obtain⟨b,o,e,hb,hx⟩:=hii j hj;exact⟨b,o,e,Nat.lt_of_lt_of_le hb CH.size,y_ CH hb hx⟩)
 have HIM:=Z_ (show im.length≤9223372036854775807 from by unfold maxLen at him;omega);have nY:=Z_ ((Ef.out.ext hE2).ext CH);have HB2:=Z_ ((XS.out.ext hE2).ext CH);have Ae:=Z_ ((HM1.out.ext hE2).ext CH);obtain⟨X,hX⟩:∃ X,w2.heap.size=X:=⟨_,rfl⟩;rw [hX] at HF2;clear hO hE2 hf2 hic him hii CH Ef XS HM1 CO;go_upto_region 5 with (fail)
 try rw [hX]
 generalize (w2.alloc (.cells #[.string fx.modn,.slice xa fx.vars.length xc,.slice xp fx.procs.length xq] 37)).alloc (.cells #[.int .i64 c,.int .i64 p] 27)=u2 at *;clear hX;have RG:=CC.out u2 l fa cap nY.out (sO nY.out HL.out) (by rw [HN.out];exact HLC.out) HCM.out UA.out;obtain⟨TL,hTL⟩:∃ TL,fN s l=TL:=⟨_,rfl⟩;obtain⟨PL,hPL⟩:∃ PL,vk s (gy l [])=PL:=⟨_,rfl⟩;rw [hTL] at RG kH O_ tP;rw [hPL] at RG tP;rw [HN.out] at RG;have UB:=Z_ RG;clear hTL hPL RG;go_wp2_with fail
 refine UB.out.mono ?_
 rintro e w3 ⟨qW,v3,rfl,hn3⟩;have UC:=hn3;obtain⟨t3,m3,a3,n3,c3,rfl⟩:=N_ UC;have AU:=(qW.alloc (.cells #[.int .i64 (lC TL).kd,.string t3,.int .i64 m3,.slice a3 n3 c3] 24)).alloc (.cells #[.int .i64 (jy TL),.int .i64 (rF PL TL)] 27);have UD:=((aB.refl (fun _=>False) w3).alloc (.cells #[.int .i64 (lC TL).kd,.string t3,.int .i64 m3,.slice a3 n3 c3] 24)).alloc (.cells #[.int .i64 (jy TL),.int .i64 (rF PL TL)] 27);have HN3:=Z_ (aJ (Ext.keeps UD) _ _ hn3);have yG:=Z_ ((aH.made w3 #[.int .i64 (lC TL).kd,.string t3,.int .i64 m3,.slice a3 n3 c3] 24).alloc (.cells #[.int .i64 (jy TL),.int .i64 (rF PL TL)] 27));have IL:=Z_ (aH.made2 w3 (.cells #[.int .i64 (lC TL).kd,.string t3,.int .i64 m3,.slice a3 n3 c3] 24) #[.int .i64 (jy TL),.int .i64 (rF PL TL)] 27)
 have wR:=Z_ (nY.out.ext AU);have HB3:=Z_ (HB2.out.ext AU);have Q_:=Z_ (Ae.out.ext AU);have HF3:=Z_ (HF2.out.ext AU)
 have HI3:=Z_ (show bW 1 kC _ ia im from fun j hj=>by
  obtain⟨b,o,e,hb,hx⟩:=ZT.out j hj;exact⟨b,o,e,Nat.lt_of_lt_of_le hb AU.size,y_ AU hb hx⟩)
 obtain⟨Y,hY⟩:∃ Y,w3.heap.size=Y:=⟨_,rfl⟩;rw [hY] at yG IL;clear qW hn3 UC AU UD UB nY HB2 Ae HF2 ZT;go_upto_region 6 with (fail)
 try rw [hY]
 generalize (w3.alloc (.cells #[.int .i64 (lC TL).kd,.string t3,.int .i64 m3,.slice a3 n3 c3] 24)).alloc (.cells #[.int .i64 (jy TL),.int .i64 (rF PL TL)] 27)=u3 at *;clear hY;have hfb:=IL.out.cell;have hf3:=HF3.out.cell;have hb3:=HB3.out.cell;by_cases hc:c=0
 ·subst hc
  have LK:=Z_ (tP.out rfl);have HH:=Z_ (LL ia im _ ic mn u3 rfl HI3.out HIM.out);obtain⟨hb,hhb⟩:∃ hb,hasB im mn=hb:=⟨_,rfl⟩;rw [hhb] at HH;have HHB:=Z_ hhb;clear hhb tP kH HI3;go_upto_region 8 with (fail)
  go_wp2_with fail
  refine HH.out.mono ?_
  rintro e w4 ⟨rfl,CJ⟩;have zf:=Z_ (wR.out.ext CJ);have HB4:=Z_ (HB3.out.ext CJ);have XT:=Z_ (Q_.out.ext CJ);have UE:=Z_ (yG.out.ext CJ);have UF:=Z_ (IL.out.ext CJ);have HN4:=Z_ (aJ (Ext.keeps CJ) _ _ HN3.out);have hb4:=HB4.out.cell;clear hfb hf3 hb3 CJ HH wR HB3 Q_ yG IL HN3 HF3;cases hb with
  | true=>
   have HIL:=Z_ (LH HHB.out);have LM:=Z_ (CM.out w4 _ zf.out XT.out);obtain⟨mb,hmb⟩:∃ mb,iG m=mb:=⟨_,rfl⟩;rw [hmb] at LM;clear hmb;go_wp2_with fail
   refine LM.out.mono ?_
   rintro e w5 ⟨rfl,qU⟩;have Jd:=Z_ (zf.out.ext qU);clear qU LM;obtain⟨il,hil⟩:∃ il,im.length=il:=⟨_,rfl⟩;rw [hil] at HIL;have hlen:=HIL.out;have hlen2:((0:Int)<(il:Int)):=by omega
   have hlen3:decide ((0:Int)<(il:Int))=true:=by simpa using hlen
   try rw [hil]
   cases mb with
   | true=>
    go_wp2_with fail
    go_ret
    exact⟨by rw [←hlen3];rfl,Jd.out⟩
   | false=>
    go_wp2_with fail
    go_ret
    exact⟨rfl,Jd.out⟩
  | false=>
   obtain⟨mb,hmb⟩:∃ mb,iG m=mb:=⟨_,rfl⟩;rw [hmb] at CM LK;have LM:=Z_ (CM.out w4 _ zf.out XT.out);clear hmb;go_wp2_with fail
   refine LM.out.mono ?_
   rintro e w5 ⟨rfl,qU⟩;have Jd:=Z_ (zf.out.ext qU);have GL:=Z_ (HB4.out.ext qU);have yY:=Z_ (XT.out.ext qU);have UG:=Z_ (UE.out.ext qU);have UH:=Z_ (UF.out.ext qU);have HN5:=Z_ (aJ (Ext.keeps qU) _ _ HN4.out);have hb5:=GL.out.cell;clear qU LM hb4 zf HB4 XT UE UF HN4;cases mb with
   | false=>
    have LM:=Z_ (CM.out w5 _ Jd.out yY.out);go_wp2_with fail
    refine LM.out.mono ?_
    rintro e w6 ⟨rfl,hE6⟩;have J7:=Z_ (Jd.out.ext hE6);clear hE6 LM;go_wp2_with fail
    go_ret
    exact⟨rfl,J7.out⟩
   | true=>
    clear CM;replace LK:=Z_ (show (∀ f∈l,f.modn≠mn)→_ from fun h=>LK.out (LI HHB.out) rfl h);go_wp2_with fail
    go_loopw [14] (fun i wr=>∃ k:Nat,k≤n∧i=.int .i64 k∧Ext w5 wr∧∀ q (h:q<l.length),q<k→l[q].modn≠mn) (fun i _=>n-(intOf i).toNat)
    case atStart=>exact⟨0,Nat.zero_le _,rfl,aB.refl _ _,fun q _ h=>by omega⟩
    case round=>
     obtain⟨k,hk,rfl,hE,hr⟩:=hrel;have HR:=Z_ hr;have hnb:n≤9223372036854775807:=by have:=lM.out;omega
     have hb6:=(GL.out.ext hE).cell;clear hr hb5;by_cases hlt:k<n
     ·have hkl:k<l.length:=by rw [HN.out];exact hlt
      obtain⟨b,o,rfl,hb,hc⟩:=HL.out k hkl;obtain⟨a9,m9,c9,d9,c0,-⟩:=iy.ext (Jd.out.ext hE) hb hc;clear hc;have hlt2:((k:Int)<(n:Int)):=by omega
      have HO:=Z_ (fun (h:l[k].modn≠mn) q (hq:q<l.length) (h2:q<k+1)=>show l[q].modn≠mn by
       by_cases e:q=k
       ·subst e;exact h
       ·exact HR.out q hq (by omega))
      generalize l[k]=x at *;obtain⟨xm,xv,xp9⟩:=x;simp only at c0 HO;by_cases hs:xm=mn
      ·subst hs
       go_wp2_with fail
       go_quiet (fail)
       go_wp2_with fail
       go_ret
       exact⟨rfl,Jd.out.ext (hE.drewN _)⟩
      ·have h0:(xm.toList == mn.toList)=false:=by rw [ByteArray.toList_eq,ByteArray.toList_eq];simpa [ByteArray.ext_iff] using hs
       have h1:(xm.data.toList == mn.data.toList)=false:=by simpa [ByteArray.ext_iff] using hs
       have tH:=Z_ hs;clear hs;go_wp2_with fail
       go_quiet (fail)
       go_wp2_with fail
       go_roundw
       case rel=>exact⟨k+1,by omega,by go_num,hE.drewN _,HO.out tH.out⟩
       case measure=>simp [intOf];omega
     ·obtain rfl:k=n:=by omega
      have Ap:=Z_ (show ∀ f∈l,f.modn≠mn from fun f hf=>by
       obtain⟨q,hq,rfl⟩:=List.mem_iff_getElem.1 hf;exact HR.out q hq (by rw [←HN.out];exact hq))
      have J7:=Z_ (Jd.out.ext hE);have Q8:=Z_ (GL.out.ext hE);have zK:=Z_ (yY.out.ext hE);have UI:=Z_ (UG.out.ext hE);have UJ:=Z_ (UH.out.ext hE);have NL:=Z_ (aJ (Ext.keeps hE) _ _ HN5.out);clear HR hE Jd GL yY UG UH HN5 hb6;go_upto_region 15 with (fail)
      obtain⟨xs,hxl,hx1,hx2,hx3⟩:∃ xs:List Value,xs.length=k*3∧(∀ b o,fa=some ⟨b,o,none⟩→∀ j v,xs[j]? = some v→wr.cell? ⟨b,o+j,none⟩=some v)∧(∀ u∈xs,u.oneCell'=true)∧(0<k→∃ b o,fa=some ⟨b,o,none⟩∧xs[0]?≠some (.string mn)):=Jb HN.out (sO J7.out HL.out) Ap.out;have ZU:=Z_ hxl;have Kr:=Z_ hx1;have rY:=Z_ hx2;have Xj:=Z_ hx3;have hkb:k*64≤140737488351232:=lM.out;clear hxl hx1 hx2 hx3;refine ah [0,2,5,6] (XU fa k cap #[.string mn,.slice ma nv mc,.slice mp np mq]) (WF wr k xs [.string mn,.slice ma nv mc,.slice mp np mq]) (GW #[.string mn,.slice ma nv mc,.slice mp np mq]) (frame:=?ae7) (fun x=>?ZV) bn.mixed (by kernel_rfl) (by kernel_rfl) (fun _ _ _ _ h h2=>Je _ _ _ _ h h2) ?h0A ?stA ?ZW
      case ZV=>
       simp only [chain.aK,chain.fill,chain.bf,chain.aW,jJ,jK,jL,jM,jO,jP,jQ,jR,jS];exact rfl
      case h0A=>exact(aB.refl _ _).drew
      case stA=>
       iterate 7 (refine ai.cons (fun x vs u hF hm hb hd K' hK'=>?_) ?_;rotate_left)
       exact ai.nil
       ·obtain rfl:=kF hm;have HF:=Z_ hF;clear hd hm hb hF;go_simp;exact hK'.out _ _ _ rfl (sQ ((aB.refl _ _).alloc _)) ⟨aB.alloc HF.out _,_,rfl,aH.made _ _ _,HF.out.size⟩
       ·have HF:=Z_ hF;clear hd hm hb hF;go_simp;exact hK'.out _ _ _ rfl (sQ (aB.refl _ _)) ⟨rfl,HF.out⟩
       ·obtain⟨v0,rfl⟩:=lK hm
        have y0:x 74=v0:=((D_ hd 0) 74 (by kernel_rfl) :);have y1:x 75=.slice fa k cap:=(D_ hd 1 :);obtain⟨kG,g0,rfl,hb0,hg0⟩:=hF;obtain⟨jc,jd,hz0,hz1,hz2⟩:=bn.aX Em;rcases Nat.eq_zero_or_pos k with h0|h0
        ·subst h0
         refine vO _ _ 33 rfl 37 jc Tryz.underlying33 jd _ 0 0 (Nat.le_refl _) y0 _ y1 (by rw [hz1];exact Jf _) ?_
         obtain rfl:xs=[]:=List.eq_nil_of_length_eq_zero ZU.out;exact hK'.out _ _ _ rfl (sQ (aB.refl _ _)) ⟨kG,⟨rfl,.inr ⟨g0,0,#[],rfl,hg0,hb0,Nat.le_refl _,by decide,rfl,rfl⟩⟩,fun _=>⟨g0,rfl,hb0⟩⟩
        ·obtain⟨b,o,rfl,hx0⟩:=Xj.out h0
         have how:u.ownsRow wr.heap.size 37 3 (.slice (some ⟨g0,0,none⟩) 0 0) 0 []:=⟨rfl,.inr ⟨g0,0,#[],rfl,hg0,hb0,Nat.le_refl _,by decide,rfl,rfl⟩⟩;refine wp_append_lies _ _ _ 33 rfl (wr.heap.size) 37 jc (.agg #[.string ⟨#[]⟩,.slice none 0 0,.slice none 0 0]) 3 64 Tryz.underlying33 jd hz0 hz1 hz2 rfl (by decide) _ 0 [] y0 how ⟨b,o,none⟩ k cap xs y1 ZU.out ?_ rY.out h0 (by unfold maxLen;omega) (by omega) kG.size u.heap.size rfl ?_
         ·intro j q hj
          have h4:=Kr.out b o rfl j q hj;have e:(⟨b,o,none⟩:Addr).add j=⟨b,o+j,none⟩:=by unfold Addr.add;split<;>simp_all
          rw [e];exact(Ext.keeps kG).2 _ _ h4
         ·intro g9 c9 w9 iQ iJ jU qF
          rw [Nat.zero_add] at iQ ⊢;rw [List.nil_append] at iQ
          exact hK'.out _ _ _ rfl (AX iJ fun g' e=>by
           obtain rfl:g0=g':=by simpa [Value.ownBlock] using e
           exact xM hb0) ⟨kG.trans (nD iJ) (fun i hi e=>by
            obtain rfl:g0=i:=by simpa [Value.ownBlock] using e
            omega),iQ,fun e=>by omega⟩
       ·have q0:=(Q8.out.ext hF.base).cell;have HF:=Z_ hF;clear hd hm hb hF;go_simp;exact hK'.out _ _ _ rfl (sQ (aB.refl _ _)) ⟨rfl,HF.out⟩
       ·have y0:x 77=.agg #[.string mn,.slice ma nv mc,.slice mp np mq]:=(D_ hd 3 :);have HF:=Z_ hF;clear hd hm hb hF;go_simp;exact hK'.out _ _ _ (by simp only [y0];rfl) (sQ ((aB.refl _ _).alloc _)) ⟨⟨_,rfl,aH.made _ _ _⟩,HF.out.alloc _⟩
       ·obtain⟨v0,v1,rfl⟩:=qX hm
        have y0:x 76=v1:=((D_ hd 2) 76 (by kernel_rfl) :);have y1:=hd 4 (by decide) (by kernel_rfl);obtain⟨g4,y1,hg4⟩:∃ g,x 78=.slice (some ⟨g,0,none⟩) 1 1∧aH u g #[.string mn,.slice ma nv mc,.slice mp np mq] 37:=y1;obtain⟨kG,how,hnil⟩:=hF;obtain⟨jc,jd,hz0,hz1,hz2⟩:=bn.aX Em;refine wp_append_lies _ _ _ 33 rfl (wr.heap.size) 37 jc (.agg #[.string ⟨#[]⟩,.slice none 0 0,.slice none 0 0]) 3 64 Tryz.underlying33 jd hz0 hz1 hz2 rfl (by decide) _ k xs y0 how ⟨g4,0,none⟩ 1 1 [.string mn,.slice ma nv mc,.slice mp np mq] y1 rfl ?_ (by intro z_ kW;simp only [List.mem_cons,List.not_mem_nil,or_false] at kW;rcases kW with rfl|rfl|rfl<;>rfl) (by decide) (by unfold maxLen;omega) (by omega) kG.size u.heap.size rfl ?_
        ·intro j q hj
         have e:(⟨g4,0,none⟩:Addr).add j=⟨g4,j,none⟩:=by unfold Addr.add;split<;>simp_all
         rw [e,hg4.cell];simpa using hj
        ·intro g9 c9 w9 iQ iJ jU qF
         exact hK'.out _ _ _ rfl (AX iJ fun g' e=>by
          rcases Nat.eq_zero_or_pos k with h0|h0
          ·obtain⟨g0,rfl,hb0⟩:=hnil h0
           obtain rfl:g0=g':=by simpa [Value.ownBlock] using e
           exact xM hb0
          ·obtain⟨_,_,_,hx0⟩:=Xj.out h0
           exact FY how h0 hx0 e) ⟨kG.trans (nD iJ) (fun i hi e=>by
            have:=own_base how e;omega),⟨_,_,rfl⟩,iQ⟩
       ·obtain⟨v0,v1,v2,rfl⟩:=xy hm
        have y0:x 79=v2:=((D_ hd 5) 79 (by kernel_rfl) :);have HF:=Z_ hF;clear hd hm hb hF;go_simp;exact hK'.out _ _ _ (by simp only [y0];rfl) (sQ (aB.refl _ _)) ⟨rfl,HF.out⟩
      case ZW=>
       intro x9 qj w9 qF qy hk9;obtain⟨v0,v1,v2,v3,rfl⟩:=xA qF
       obtain⟨rfl,kG,⟨g9,c9,rfl⟩,iQ⟩:=qy;have y6:=hk9 6 (by decide) 15 (by kernel_rfl);replace y6:x9 15=.slice (some ⟨g9,0,none⟩) (k+1) c9:=y6;obtain⟨hw1,hw2,hw3⟩:=LN (l:=l) (m:=m) (xs:=xs) (c:=c9) kG (sO J7.out HL.out) (by rw [ZU.out,HN.out]) Kr.out (by rw [PO.out,zV.out,hmn];exact zK.out) (by rw [PO.out,zV.out,hmn,HN.out];exact iQ);have yB:=Z_ (J7.out.ext kG);have UK:=Z_ (UI.out.ext kG);have UL:=Z_ (UJ.out.ext kG);have HN9:=Z_ (aJ (Ext.keeps kG) _ _ NL.out)
       have hck:=CC.out w9 (l ++ [m]) (some ⟨g9,0,none⟩) c9 yB.out hw1 (by rw [List.length_append];exact hw2) hw3 (fun f hf=>by
        rcases List.mem_append.1 hf with h|h
        ·exact UA.out f h
        ·obtain rfl:f=m:=by simpa using h
         exact J8.out)
       obtain⟨hq1,hq2⟩:=LK.out Ap.out;rw [hq1,hq2,List.length_append,List.length_singleton,HN.out] at hck;have UB:=Z_ hck;clear hck hq1 hq2 hw1 hw2 hw3 hk9 qF kG iQ CC J7 Q8 zK UI UJ NL;go_wp2_with fail
       refine UB.out.mono ?_
       rintro e w10 ⟨UM,v10,rfl,Qd⟩;have Oa:=Qd;obtain⟨t10,m10,a10,n10,c10,rfl⟩:=N_ Oa;have Jg:=(UM.alloc (.cells #[.int .i64 (lC TL).kd,.string t10,.int .i64 m10,.slice a10 n10 c10] 24)).alloc (.cells #[.int .i64 (jy TL),.int .i64 (rF PL TL)] 27);have Oc:=((aB.refl (fun _=>False) w10).alloc (.cells #[.int .i64 (lC TL).kd,.string t10,.int .i64 m10,.slice a10 n10 c10] 24)).alloc (.cells #[.int .i64 (jy TL),.int .i64 (rF PL TL)] 27);have UN:=Z_ (aJ (Ext.keeps Oc) _ _ Qd);have PW:=Z_ ((aH.made w10 #[.int .i64 (lC TL).kd,.string t10,.int .i64 m10,.slice a10 n10 c10] 24).alloc (.cells #[.int .i64 (jy TL),.int .i64 (rF PL TL)] 27));have ZX:=Z_ (aH.made2 w10 (.cells #[.int .i64 (lC TL).kd,.string t10,.int .i64 m10,.slice a10 n10 c10] 24) #[.int .i64 (jy TL),.int .i64 (rF PL TL)] 27)
       have UO:=Z_ (yB.out.ext Jg);have Jh:=Z_ (UK.out.ext Jg);have Ji:=Z_ (UL.out.ext Jg);have UQ:=Z_ (aJ (Ext.keeps Jg) _ _ HN9.out);obtain⟨Z,hZ⟩:∃ Z,w10.heap.size=Z:=⟨_,rfl⟩;rw [hZ] at PW ZX;clear UM Qd Oa Jg Oc UB yB UK UL HN9;go_upto_region 17 with (fail)
       try rw [hZ]
       generalize (w10.alloc (.cells #[.int .i64 (lC TL).kd,.string t10,.int .i64 m10,.slice a10 n10 c10] 24)).alloc (.cells #[.int .i64 (jy TL),.int .i64 (rF PL TL)] 27)=u10 at *;clear hZ;have q1:=Jh.out.cell;have q2:=Ji.out.cell;have q3:=PW.out.cell;have q4:=ZX.out.cell;have HKQ:=Z_ O_.out;have ZY:=Z_ (UR.Jj (lC TL) _ _ u10 (fun _=>false) (fun _=>false) (aJ (rE _) _ _ UQ.out) (aJ (rE _) _ _ UN.out));obtain⟨cT,RZ⟩:∃ cT,jy TL=cT:=⟨_,rfl⟩;obtain⟨pT,ZZ⟩:∃ pT,rF PL TL=pT:=⟨_,rfl⟩;obtain⟨kT,XV⟩:∃ kT,(lC TL).kd=kT:=⟨_,rfl⟩;rw [RZ,ZZ] at q2 q4;rw [XV] at q1 q3 ZY;rw [RZ,XV] at HKQ;have HCT:=Z_ RZ;have RN:=Z_ ZZ;have HKT:=Z_ XV;clear RZ ZZ XV O_;go_wp2_with fail
       refine ZY.out.mono ?_
       rintro e w11 ⟨rfl,LO⟩;have UT:=Z_ (UO.out.ext LO);have w1':=(Jh.out.ext LO).cell;have w2':=(Ji.out.ext LO).cell;rw [HKT.out] at w1';rw [HCT.out,RN.out] at w2';clear q1 q2 q3 q4 LO ZY Jh Ji PW ZX UO UQ UN;by_cases hk1:kT=1
       ·have hk2:(kT == 1)=true:=by simpa using hk1
        clear hk1;go_wp2_with fail
        go_ret
        exact⟨rfl,UT.out⟩
       ·have hk2:(kT == 1)=false:=by simpa using hk1
        have hc2:(cT != 0)=true:=by
         rw [bne_iff_ne];exact fun e=>hk1 (HKQ.out e)
        clear hk1;go_wp2_with fail
        go_ret
        exact⟨by rw [←hc2];rfl,UT.out⟩
 ·have hcn:(c != 0)=true:=by simpa using hc
  have hcd:(jy TL != 0)=true:=by simpa using kH.out hc
  obtain⟨cT,RZ⟩:∃ cT,jy TL=cT:=⟨_,rfl⟩;rw [RZ] at hcd hfb;go_wp2_with fail
  go_ret
  exact⟨by rw [←hcd];rfl,wR.out⟩
end checkMore
end Go.Proofs.YtpcihajmcejliacGreatDoor
namespace Go.Proofs.YtpcihajmcejliacGreatDoor.facesRow
open Go.ChangeShapes Go.WideShapes Go.Deep Go.RowKit Go.Proofs.YtpcihajmcejliacGreatDoor
variable {H:Type} {enc:TypeId×Value→H} {w:World} {base:Nat} {spare:Nat→Bool} {held:Bool}
theorem cI:Tryz.prog.cellsOf 3=1:=by kernel_rfl
theorem cV:Tryz.prog.cellsOf 70=4:=by kernel_rfl
theorem cP:Tryz.prog.cellsOf 68=6:=by kernel_rfl
theorem cF:Tryz.prog.cellsOf 37=3:=by kernel_rfl
theorem bV:Tryz.prog.bytesOf 70=40:=by kernel_rfl
theorem bP:Tryz.prog.bytesOf 68=72:=by kernel_rfl
theorem nG {α : Type} [Inhabited α] {In:World→Nat→Nat→α→Prop} {N:DataW H→α→Prop} {t e:TypeId} {k fuel:Nat} {u:Value} {x:DataW H×List MemPlace} (hk:0<k) (ht:Tryz.prog.underlying t=some (.slice e)) (hc:Tryz.prog.cellsOf e=k)
  (h:DataW.trod enc Tryz.prog w base spare held fuel t [u]=some x)
  (each:∀ (n:Nat) (cs:List Value) (y:DataW H×List MemPlace),DataW.trod enc Tryz.prog w base spare held n e cs=some y→∃ z:α,(∀ b o,b<w.heap.size→(∀ j,j<k→w.cell? ⟨b,o+j,none⟩=cs[j]?)→In w b o z)∧N y.1 z) :
  ∃ a l cap,u=.slice a l.length cap∧bW k In w a l∧l.length≤cap∧cap≤maxLen∧(l=[]∨∃ E S,x.1=.slice E S∧E.length=l.length∧∀ z∈l,∃ d∈E,N d z):=by
 rcases open_slice ht h with ⟨h0,rfl⟩|⟨a,len,cap,m,n,D,Pl,h0,hb,hl,hm,hmm,rfl,hx⟩
 ·cases h0
  exact⟨none,[],0,rfl,fun j hj=>absurd hj (Nat.not_lt_zero _),Nat.zero_le _,Nat.zero_le _,.inl rfl⟩
 ·cases h0
  have hlm:len≤m:=by rw [hmm];split<;>omega
  rw [hc] at hx
  have hZ:∀ i,i<m→∃ z:α,(∀ b o,a=⟨b,o,none⟩→b<w.heap.size→In w b (o+i*k) z)∧N (D i) z:=by
   intro i hi;obtain⟨cs',h1,h2⟩:=hx i hi;obtain⟨z,hz,hz2⟩:=each n cs' _ h2;refine⟨z,fun b o e hb=>hz b _ hb fun j hj=>?_,hz2⟩
   subst e;obtain⟨_,_,h3⟩:=World.cells?_some h1;have:=h3 j hj;rw [add_add] at this;rw [←this];unfold Addr.add;split
   ·rename_i h0
    rw [show o+i*k+j=o by omega]
   ·simp [Nat.add_assoc]
  obtain⟨Z,hZ⟩:=choose_lt hZ;refine⟨some a,(List.range len).map Z,cap,by simp,fun j hj=>?_,by simpa using hl,hm,.inr ⟨_,_,rfl,by simp,fun z hz=>?_⟩⟩
  rotate_left
  ·obtain⟨i,hi,rfl⟩:=List.mem_map.1 hz
   have hi2:=List.mem_range.1 hi;exact⟨D i,List.mem_map.2 ⟨i,by simpa using hi2,rfl⟩,(hZ i (by omega)).2⟩
  have hj':j<len:=by simpa using hj
  obtain⟨b,off,spot⟩:=a;obtain⟨cs',h1,_⟩:=hx 0 (by omega);obtain⟨_,hlen,h3⟩:=World.cells?_some h1;have h4:=h3 0 hk;simp [Addr.add] at h4
  rw [List.getElem?_eq_getElem (by omega)] at h4;have hs:=World.cell?_spot h4;simp only at hs;subst hs;have hblt:=World.block_lt_of_cell? w _ h4;refine⟨b,off,rfl,hblt,?_⟩
  simpa using (hZ j (by omega)).1 b off rfl hblt
theorem weaken {α : Type} {k:Nat} {In:World→Nat→Nat→α→Prop} {N:DataW H→α→Prop} {u:Value} {x:DataW H×List MemPlace} (h:∃ a l cap,u=.slice a l.length cap∧bW k In w a l∧l.length≤cap∧cap≤maxLen∧(l=[]∨∃ E S,x.1=.slice E S∧E.length=l.length∧∀ z∈l,∃ d∈E,N d z)) :
  ∃ a l cap,u=.slice a l.length cap∧bW k In w a l∧l.length≤cap∧cap≤maxLen∧(l=[]∨∃ E S,x.1=.slice E S∧E.length=l.length):=by
 obtain⟨a,l,cap,h1,h2,h3,h4,h5⟩:=h;refine⟨a,l,cap,h1,h2,h3,h4,?_⟩
 rcases h5 with h5|⟨E,S,h6,h7,-⟩
 ·exact .inl h5
 ·exact .inr ⟨E,S,h6,h7⟩
set_option maxRecDepth 100000 in
theorem AY {fuel:Nat} {u:Value} {x:DataW H×List MemPlace} (h:DataW.trod enc Tryz.prog w base spare held fuel 46 [u]=some x) :
  ∃ a l cap,u=.slice a l.length cap∧bW 1 gh w a l∧l.length≤cap∧cap≤maxLen:=by
 obtain⟨a,l,cap,h1,h2,h3,h4,_⟩:=nG (In:=gh) (N:=fun _ _=>True) (k:=1) (by decide) Tryz.underlying46 cI h fun n cs y hy=>by
  obtain⟨z,rfl,_⟩:=DataW.trod_int Tryz.underlying3 hy;exact⟨z,fun b o _ hc=>hc 0 (by decide),trivial⟩
 exact⟨a,l,cap,h1,h2,h3,h4⟩
set_option maxRecDepth 100000 in
theorem AZ {fuel:Nat} {u:Value} {x:DataW H×List MemPlace} (h:DataW.trod enc Tryz.prog w base spare held fuel 34 [u]=some x) :
  ∃ a l cap,u=.slice a l.length cap∧bW 4 h_ w a l∧l.length≤cap∧cap≤maxLen∧(l=[]∨∃ E S,x.1=.slice E S∧E.length=l.length):=
 weaken (nG (In:=h_) (N:=fun _ _=>True) (k:=4) (by decide) Tryz.underlying34 cV h fun n cs y hy=>by
  obtain⟨xs,n',_,_,hl,hlen,hf⟩:=DataW.trod_struct Tryz.underlying70 hy;rw [cV] at hl;replace hlen:xs.length=4:=hlen;match cs,hl,xs,hlen with
  | [v0,v1,v2,v3],_,[y0,y1,y2,y3],_=>
   have g0:=hf 0 _ rfl;have g1:=hf 1 _ rfl;have g2:=hf 2 _ rfl;have g3:=hf 3 _ rfl;simp only [List.getElem?_cons_zero,List.getElem?_cons_succ] at g0 g1 g2 g3;obtain⟨s,e0,_,hs⟩:=DataW.trod_string Tryz.underlying9 g0;obtain⟨b1,e1,_⟩:=DataW.trod_bool Tryz.underlying4 g1;obtain⟨i2,e2,_⟩:=DataW.trod_int Tryz.underlying3 g2;obtain⟨i3,e3,_⟩:=DataW.trod_int Tryz.underlying3 g3;cases e0;cases e1;cases e2;cases e3
   exact⟨⟨s,b1,i2,i3⟩,fun b o _ hc=>⟨hc 0 (by decide),hc 1 (by decide),hc 2 (by decide),hc 3 (by decide),hs⟩,trivial⟩)
set_option maxRecDepth 100000 in
theorem zg {fuel:Nat} {u:Value} {x:DataW H×List MemPlace} (h:DataW.trod enc Tryz.prog w base spare held fuel 35 [u]=some x) :
  ∃ a l cap,u=.slice a l.length cap∧bW 6 dY w a l∧l.length≤cap∧cap≤maxLen∧(l=[]∨∃ E S,x.1=.slice E S∧E.length=l.length):=
 weaken (nG (In:=dY) (N:=fun _ _=>True) (k:=6) (by decide) Tryz.underlying35 cP h fun n cs y hy=>by
  obtain⟨xs,n',_,_,hl,hlen,hf⟩:=DataW.trod_struct Tryz.underlying68 hy;rw [cP] at hl;replace hlen:xs.length=6:=hlen;match cs,hl,xs,hlen with
  | [v0,v1,v2,v3,v4,v5],_,[y0,y1,y2,y3,y4,y5],_=>
   have g0:=hf 0 _ rfl;have g1:=hf 1 _ rfl;have g2:=hf 2 _ rfl;have g3:=hf 3 _ rfl;have g4:=hf 4 _ rfl;have g5:=hf 5 _ rfl;simp only [List.getElem?_cons_zero,List.getElem?_cons_succ] at g0 g1 g2 g3 g4 g5;obtain⟨s,e0,_,hs⟩:=DataW.trod_string Tryz.underlying9 g0;obtain⟨b1,e1,_⟩:=DataW.trod_bool Tryz.underlying4 g1;obtain⟨a2,l2,c2,e2,h2,h3,h4⟩:=AY g2;obtain⟨i3,e3,_⟩:=DataW.trod_int Tryz.underlying3 g3;obtain⟨b4,e4,_⟩:=DataW.trod_bool Tryz.underlying4 g4;obtain⟨i5,e5,_⟩:=DataW.trod_int Tryz.underlying3 g5;cases e0;cases e1;subst e2;cases e3;cases e4;cases e5
   exact⟨⟨s,b1,l2,i3,b4,i5⟩,fun b o _ hc=>⟨hc 0 (by decide),hc 1 (by decide),⟨a2,c2,hc 2 (by decide),h2,h3,h4⟩,hc 3 (by decide),hc 4 (by decide),hc 5 (by decide),hs⟩,trivial⟩)
set_option maxRecDepth 100000 in
theorem sS {cs:List Value} {y:DataW H×List MemPlace} {n:Nat} (hy:DataW.trod enc Tryz.prog w base spare held n 37 cs=some y) :
  ∃ (x:aN) (a:Option Addr) (m:Nat) (c:Option Addr) (d:Nat),cs=[.string x.modn,.slice a x.vars.length m,.slice c x.procs.length d]∧eC w x (.agg #[.string x.modn,.slice a x.vars.length m,.slice c x.procs.length d])∧((y.1.weights Tryz.prog 37).all (·≤reachBytes)=true→x.vars.length+x.procs.length<maxLen):=by
 obtain⟨xs,n',_,hx,hl,hlen,hf⟩:=DataW.trod_struct Tryz.underlying37 hy;rw [cF] at hl;replace hlen:xs.length=3:=hlen;match cs,hl,xs,hlen with
 | [v0,v1,v2],_,[y0,y1,y2],_=>
  have g0:=hf 0 _ rfl;have g1:=hf 1 _ rfl;have g2:=hf 2 _ rfl;simp only [List.getElem?_cons_zero,List.getElem?_cons_succ] at g0 g1 g2;obtain⟨s,e0,_,hs⟩:=DataW.trod_string Tryz.underlying9 g0;obtain⟨a1,l1,c1,rfl,h1,h1c,h1m,w1⟩:=AZ g1;obtain⟨a2,l2,c2,rfl,h2,UU,h2m,w2⟩:=zg g2;cases e0
  refine⟨⟨s,l1,l2⟩,a1,c1,a2,c2,rfl,⟨a1,c1,a2,c2,rfl,h1,h2,hs,h1c,h1m,UU,h2m⟩,fun hw=>?_⟩
  obtain⟨d,p9⟩:=y;have hd:d=.agg [y0.1,y1.1,y2.1]:=by have:=congrArg Prod.fst hx;simpa using this
  subst hd;rw [List.all_eq_true] at hw
  have k1:l1.length*40≤reachBytes:=by
   rcases w1 with rfl|⟨E,S,e,hE⟩
   ·simp
   ·have:=hw ((E.length+S.length)*Tryz.prog.bytesOf 70) (by simp [DataW.weights,DataW.weightsEach,Tryz.underlying37,Tryz.underlying34,e])
    simp only [bV,decide_eq_true_eq] at this;omega
  have k2:l2.length*72≤reachBytes:=by
   rcases w2 with rfl|⟨E,S,e,hE⟩
   ·simp
   ·have:=hw ((E.length+S.length)*Tryz.prog.bytesOf 68) (by simp [DataW.weights,DataW.weightsEach,Tryz.underlying37,Tryz.underlying35,e])
    simp only [bP,decide_eq_true_eq] at this;omega
  have:=reachBytes_lt;show l1.length+l2.length<maxLen
  unfold maxLen;omega
theorem vP {P:Program} {e:TypeId}:∀ {E:List (DataW H)} {d:DataW H},d∈E→∀ n∈d.weights P e,n∈DataW.weightsAll P e E:=by
 intro E;induction E with
 | nil=>intro d h;cases h
 | cons x r ih=>
  intro d h n hn;rw [DataW.weightsAll,List.mem_append];rcases List.mem_cons.1 h with rfl|h
  ·exact .inl hn
  ·exact .inr (ih h n hn)
set_option maxRecDepth 100000 in
theorem Qe {fuel:Nat} {u:Value} {x:DataW H×List MemPlace} (h:DataW.trod enc Tryz.prog w base spare held fuel 33 [u]=some x) (hw:(x.1.weights Tryz.prog 33).all (·≤reachBytes)=true) :
  ∃ a l cap,u=.slice a l.length cap∧bW 3 iy w a l∧l.length≤cap∧cap≤maxLen∧∀ f∈l,f.vars.length+f.procs.length<maxLen:=by
 obtain⟨a,l,cap,h1,h2,h3,h4,h5⟩:=nG (In:=iy) (N:=fun d f=>(d.weights Tryz.prog 37).all (·≤reachBytes)=true→f.vars.length+f.procs.length<maxLen) (k:=3) (by decide) Tryz.underlying33 cF h fun n cs y hy=>by
  obtain⟨z,a,m,c,d,rfl,h1,h2⟩:=sS hy;exact⟨z,fun b o _ hc=>⟨a,m,c,d,hc 0 (by decide),hc 1 (by decide),hc 2 (by decide),h1⟩,h2⟩
 refine⟨a,l,cap,h1,h2,h3,h4,fun f hf=>?_⟩
 rcases h5 with rfl|⟨E,S,e,-,h6⟩
 ·cases hf
 ·obtain⟨d,hd,h7⟩:=h6 f hf
  refine h7 ?_
  rw [List.all_eq_true] at hw ⊢;intro n hn;refine hw n ?_
  rw [e];simp only [DataW.weights,Tryz.underlying33,List.mem_cons,List.mem_append];exact .inr (.inl (vP hd n hn))
theorem bF:Tryz.prog.bytesOf 37=64:=by kernel_rfl
set_option maxRecDepth 100000 in
theorem zQ {fuel:Nat} {u:Value} {x:DataW H×List MemPlace} (h:DataW.trod enc Tryz.prog w base spare held fuel 33 [u]=some x) (hw:(x.1.weights Tryz.prog 33).all (·≤reachBytes)=true) :
  ∃ a l cap,u=.slice a l.length cap∧bW 3 iy w a l∧l.length≤cap∧cap≤maxLen∧(∀ f∈l,f.vars.length+f.procs.length<maxLen)∧l.length*64≤140737488351232:=by
 obtain⟨a,l,cap,h1,h2,h3,h4,h5⟩:=nG (In:=iy) (N:=fun d f=>(d.weights Tryz.prog 37).all (·≤reachBytes)=true→f.vars.length+f.procs.length<maxLen) (k:=3) (by decide) Tryz.underlying33 cF h fun n cs y hy=>by
  obtain⟨z,a,m,c,d,rfl,h1,h2⟩:=sS hy;exact⟨z,fun b o _ hc=>⟨a,m,c,d,hc 0 (by decide),hc 1 (by decide),hc 2 (by decide),h1⟩,h2⟩
 refine⟨a,l,cap,h1,h2,h3,h4,fun f hf=>?_,?_⟩
 ·rcases h5 with rfl|⟨E,S,e,-,h6⟩
  ·cases hf
  ·obtain⟨d,hd,h7⟩:=h6 f hf
   refine h7 ?_
   rw [List.all_eq_true] at hw ⊢;intro n hn;refine hw n ?_
   rw [e];simp only [DataW.weights,Tryz.underlying33,List.mem_cons,List.mem_append];exact .inr (.inl (vP hd n hn))
 ·rcases h5 with rfl|⟨E,S,e,hE,-⟩
  ·simp
  ·rw [List.all_eq_true] at hw
   have:=hw ((E.length+S.length)*Tryz.prog.bytesOf 37) (by rw [e];simp only [DataW.weights,Tryz.underlying33,List.mem_cons];exact .inl trivial);rw [bF,decide_eq_true_eq] at this;unfold reachBytes at this;omega
set_option maxRecDepth 100000 in
theorem open_arg {v:Value} {d:DataW H} {p:List MemPlace} {r:Reach} {b0:Nat} (hv:Value.okWide Tryz.prog w r b0 37 v) (h:DataW.Trod enc Tryz.prog w base spare held 37 v d p) (hw:(d.weights Tryz.prog 37).all (·≤reachBytes)=true) :
  ∃ x:aN,eC w x v∧x.vars.length+x.procs.length<maxLen:=by
 obtain⟨cs,rfl,-⟩:=okWide_struct Tryz.underlying37 hv;obtain⟨fuel,hf⟩:=h;obtain⟨l⟩:=cs;obtain⟨x,a,m,c,d',hcs,hF,hb⟩:=sS hf;obtain rfl:l=_:=hcs;exact⟨x,hF,hb hw⟩
end Go.Proofs.YtpcihajmcejliacGreatDoor.facesRow
