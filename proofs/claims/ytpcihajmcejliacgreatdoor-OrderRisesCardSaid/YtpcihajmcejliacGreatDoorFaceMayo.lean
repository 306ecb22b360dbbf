/- The walk of the program's May: a face. -/
import Derived.Deep.RegionHeld3
import Derived.StillTailTactics
import Derived.Test.YtpcihajmcejliacGreatDoorNameo
import Derived.Test.YtpcihajmcejliacGreatDoorFaceEqo
namespace Go.Proofs.YtpcihajmcejliacGreatDoor
open Go.RowKit Go.WideMaps Go.Maps
def yj (v:eY):Bool:=Hr v&&nameB v.key
def sG (p:aI):Bool:=yM p&&nameB p.key
namespace face
theorem Oz (f:aQ):nY f=(f.vars.all yj&&f.procs.all sG&&(nameB f.modn.data.toList&&decide (f.vars.length+f.procs.length≤20)&&gI f.keys)):=by
 rw [nY,aQ.keys]
 have e1:f.vars.all yj=(f.vars.all Hr&&(f.vars.map eY.key).all nameB):=by
  induction f.vars with
  | nil=>rfl
  | cons x r ih=>simp only [List.all_cons,List.map_cons,ih,yj];cases Hr x<;>cases nameB x.key<;>cases r.all Hr<;>rfl
 have e2:f.procs.all sG=(f.procs.all yM&&(f.procs.map aI.key).all nameB):=by
  induction f.procs with
  | nil=>rfl
  | cons x r ih=>simp only [List.all_cons,List.map_cons,ih,sG];cases yM x<;>cases nameB x.key<;>cases r.all yM<;>rfl
 rw [e1,e2,List.all_append];cases f.vars.all Hr<;>cases f.procs.all yM<;>cases (f.vars.map eY.key).all nameB<;>cases (f.procs.map aI.key).all nameB<;>cases nameB f.modn.data.toList<;>cases decide (f.vars.length+f.procs.length≤20)<;>cases gI (f.vars.map eY.key++f.procs.map aI.key)<;>rfl
theorem uh:Keyed Tryz.prog 9:=string_keyed Tryz.underlying9
theorem FU (w:World):(zeroValue 3).run Tryz.prog w=.ok (.int .i64 0) w:=by kernel_rfl
theorem wW (f:aQ):f.keys.length=f.vars.length+f.procs.length:=by simp [aQ.keys]
theorem KN (f:aQ) (k:Nat) (h:k<f.vars.length):f.keys.take (k+1)=f.keys.take k ++ [f.vars[k].name.data.toList]:=by
 have h2:k<f.keys.length:=by rw [wW];omega
 rw [List.take_succ_eq_append_getElem h2];congr 2
 simp [aQ.keys,eY.key,h]
theorem Ht (f:aQ) (n:Nat) (hn:f.vars.length=n) (j:Nat) (h:j<f.procs.length):f.keys.take (n+j+1)=f.keys.take (n+j) ++ [f.procs[j].name.data.toList]:=by
 subst hn;have h2:f.vars.length+j<f.keys.length:=by rw [wW];omega
 rw [List.take_succ_eq_append_getElem h2];congr 2
 simp [aQ.keys,aI.key]
theorem yN {w w':World} {b:Nat} (h:w.grownBy w' (some b)):aB (fun i=>i=b) w w':=
 ⟨h.os,h.tape,h.output,h.size,fun k hk hn=>h.block k hk (fun e=>hn (by cases e;rfl))⟩
theorem gJ {w w':World} (h:Ext w w'):w.grownBy w' none:=
 ⟨h.os,h.tape,h.output,h.size,fun k hk _=>h.block k hk id⟩
set_option maxRecDepth 100000 in
set_option maxHeartbeats 8000000 in
theorem Oe (x:aQ) (v:Value) (w:World) (hx:fE w x v) (hsum:x.vars.length+x.procs.length<maxLen) (hev:ErrVar w) (hmv:cE w) :
  Calls Tryz.prog 20 #[v] w fun e w'=>e=.returned (.bool (nY x))∧Ext w w':=by
 have hmm:=@run_makeMap Tryz.prog;obtain⟨a,am,c,cm,rfl,ha,hc,hmod,ha1,ha2,hc1,hc2⟩:=hx;unfold maxLen at ha2 hc2 hmod;rw [Oz];have DF:=Z_ (wW x);have HKV:=Z_ (KN x);have HKP:=Z_ (Ht x);generalize x.keys=K at *;obtain⟨xn,xv,xp⟩:=x;simp only at *;have HA:=Z_ (And.intro ha hc);obtain⟨n1,hn1⟩:∃ n,xv.length=n:=⟨_,rfl⟩;obtain⟨n2,hn2⟩:∃ n,xp.length=n:=⟨_,rfl⟩;rw [hn1,hn2] at DF;simp only [hn1,hn2] at ha1 hc1 hsum ⊢;have HKP:=Z_ (HKP.out n1 hn1);have H1:=Z_ hn1;have H2:=Z_ hn2;have Nw:=Z_ (fun w hev hmv=>name.rF xn w hmod hev hmv);generalize nameB xn.data.toList=A1 at *;have hB1:aC (w.alloc (.cells #[.string xn,.slice a n1 am,.slice c n2 cm] 37)) w.heap.size #[.string xn,.slice a n1 am,.slice c n2 cm] 37:=aC.made _ _ _
 have hE:Ext w ((w.alloc (.cells #[.string xn,.slice a n1 am,.slice c n2 cm] 37)).alloc (.map #[] 0)):=((aB.refl _ _).alloc _).alloc _;have hz:(w.alloc (.cells #[.string xn,.slice a n1 am,.slice c n2 cm] 37)).heap.size=w.heap.size+1:=by simp
 have SJ:=World.ownsMap_made (w.alloc (.cells #[.string xn,.slice a n1 am,.slice c n2 cm] 37)) Tryz.prog 9 (plainElem (H:=Unit) Tryz.prog 3);rw [hz] at SJ;have hX:=hB1.alloc (.map #[] 0);have hz0:((w.alloc (.cells #[.string xn,.slice a n1 am,.slice c n2 cm] 37)).alloc (.map #[] 0)).heap.size=w.heap.size+2:=by simp
 have HX:=Z_ hX;have HE:=Z_ hE;have HM:=Z_ SJ;have HZ:=Z_ hz0;generalize hB:(xv.all yj&&xp.all sG&&(A1&&decide (n1+n2≤20)&&gI K))=B;have OA:=Z_ (fun h:xv.all yj=false=>show B=false by rw [←hB,h];rfl);have HF2:=Z_ (fun h:xp.all sG=false=>show B=false by rw [←hB,h];cases xv.all yj<;>rfl);have HT:=Z_ (fun (h:xv.all yj=true) (h2:xp.all sG=true)=>show B=(A1&&decide (n1+n2≤20)&&gI K) by rw [←hB,h,h2];rfl);clear ha hc hn1 hn2 hB1 hE hz SJ hX hz0 hB;go_enter Tryz.func20,Tryz.ntmps20
 go_wp2_with fail
 generalize (w.alloc (.cells #[.string xn,.slice a n1 am,.slice c n2 cm] 37)).alloc (.map #[] 0)=w0 at *;have hEw:=HE.out;have hz0:=HZ.out;have WV:=hsum;unfold maxLen at WV;have Hu:=Z_ (fun (w':World) (h:Ext w w')=>hev.ext h);have uD:=Z_ (fun (w':World) (h:Ext w w')=>hmv.ext h);have hM:=HM.out;clear hev hmv HM HZ HE;go_loopw [14] (fun i wr=>∃ (k:Nat) (D:DataW Unit),k≤n1∧i=.int .i64 k∧wr.ownsMap Tryz.prog 9 (plainElem Tryz.prog 3) (w.heap.size+1) k D∧BJ D (K.take k)∧Hid ((xv.take k).all yj=true)∧aB (fun b=>b=w.heap.size+1) w0 wr) (fun i _=>n1-(intOf i).toNat)
 case atStart=>exact⟨0,_,Nat.zero_le _,rfl,hM,Hv,by simp [Hid],aB.refl _ _⟩
 case round=>
  obtain⟨k,D,hk,rfl,hown,hmo,hrel,hC⟩:=hrel;have Qd:=Z_ hmo;clear hM hmo;have hEr:Ext w wr:=hEw.trans hC (fun i hi e=>by omega);have hzr:=hC.size;by_cases hlt:k<n1
  ·have hki:(k:Int)<(n1:Int):=by omega
   have hlk:k<xv.length:=by rw [H1.out];exact hlt
   obtain⟨bl,ol,rfl,hbl,cl⟩:=HA.out.1 k hlk;have ad7:=Nat.lt_of_lt_of_le hbl hEr.size;obtain⟨l0,l1,l2,l3,lz⟩:=gy.ext hEr hbl cl;have hs:=wX yj xv k hlk;rw [hrel.out,Bool.true_and] at hs;have pG:=Z_ (fun h=>OA.out (zV hlk h));have HW:=Z_ (HKV.out k hlk);clear cl;generalize xv[k]=x at *;obtain⟨vn,vp,vl,vs⟩:=x;simp only at l0 l1 l2 l3 lz HW;have HS:=Z_ hs;have hvt:yj ⟨vn,vp,vl,vs⟩=(vp&&pK vl&&decide (0≤vs)&&decide (vs≤64)&&nameB vn.data.toList):=rfl;have I0:=Z_ (fun w hev hmv=>name.rF vn w (by unfold maxLen at lz;exact lz) hev hmv);obtain⟨lb,hlb⟩:∃ b,pK vl=b:=⟨_,rfl⟩;obtain⟨nb,hnb⟩:∃ b,nameB vn.data.toList=b:=⟨_,rfl⟩;rw [hlb,hnb] at hvt;rw [hnb] at I0;have AQ:=Z_ hvt;have SK:=Z_ hlb;clear hs hvt hlb hnb hrel;cases vp
   ·have HT2:=Z_ (pG.out (by rw [AQ.out];rfl))
    go_wp2_with fail
    go_ret
    exact⟨bW HT2.out.symm,hEr.alloc _⟩
   ·cases nb
    ·have HT2:=Z_ (pG.out (by rw [AQ.out,Bool.and_false]))
     go_wp2_with fail
     refine(I0.out _ (Hu.out _ (hEr.alloc _)) (uD.out _ (hEr.alloc _))).mono ?_
     rintro e w2 ⟨rfl,hE2⟩;have hK:=(aC.made _ _ _).ext hE2;have hKc:=hK.cell;have Na:=hK.lt;have oh:=(hEr.alloc _).ext hE2;have hC2:=(hC.alloc _).ext hE2;have hown2:=(hown.alloc _).kept (gJ hE2) (by simp);clear hown hC hE2 hEr hK;go_wp2_with fail
     go_ret
     exact⟨bW HT2.out.symm,oh⟩
    ·cases lb
     ·have HT2:=Z_ (pG.out (by rw [AQ.out];rfl))
      go_wp2_with fail
      refine(I0.out _ (Hu.out _ (hEr.alloc _)) (uD.out _ (hEr.alloc _))).mono ?_
      rintro e w2 ⟨rfl,hE2⟩;have hK:=(aC.made _ _ _).ext hE2;have hKc:=hK.cell;have Na:=hK.lt;have oh:=(hEr.alloc _).ext hE2;have hC2:=(hC.alloc _).ext hE2;have hown2:=(hown.alloc _).kept (gJ hE2) (by simp);clear hown hC hE2 hEr hK;go_wp2_with (go_at_call 57;refine(dF _ _).mono ?_;rintro e w' ⟨rfl,rfl⟩;rw [SK.out])
      go_ret
      exact⟨bW HT2.out.symm,oh⟩
     ·by_cases h0:vs<0
      ·have HT2:=Z_ (pG.out (by rw [AQ.out,decide_eq_false (show ¬ 0≤vs by omega)];rfl))
       go_wp2_with fail
       refine(I0.out _ (Hu.out _ (hEr.alloc _)) (uD.out _ (hEr.alloc _))).mono ?_
       rintro e w2 ⟨rfl,hE2⟩;have hK:=(aC.made _ _ _).ext hE2;have hKc:=hK.cell;have Na:=hK.lt;have oh:=(hEr.alloc _).ext hE2;have hC2:=(hC.alloc _).ext hE2;have hown2:=(hown.alloc _).kept (gJ hE2) (by simp);clear hown hC hE2 hEr hK;go_wp2_with (go_at_call 57;refine(dF _ _).mono ?_;rintro e w' ⟨rfl,rfl⟩;rw [SK.out])
       go_ret
       exact⟨bW HT2.out.symm,oh⟩
      ·by_cases h64:64<vs
       ·have HT2:=Z_ (pG.out (by rw [AQ.out,decide_eq_false (show ¬ vs≤64 by omega),Bool.and_false];rfl))
        go_wp2_with fail
        refine(I0.out _ (Hu.out _ (hEr.alloc _)) (uD.out _ (hEr.alloc _))).mono ?_
        rintro e w2 ⟨rfl,hE2⟩;have hK:=(aC.made _ _ _).ext hE2;have hKc:=hK.cell;have Na:=hK.lt;have oh:=(hEr.alloc _).ext hE2;have hC2:=(hC.alloc _).ext hE2;have hown2:=(hown.alloc _).kept (gJ hE2) (by simp);clear hown hC hE2 hEr hK;go_wp2_with (go_at_call 57;refine(dF _ _).mono ?_;rintro e w' ⟨rfl,rfl⟩;rw [SK.out])
        go_ret
        exact⟨bW HT2.out.symm,oh⟩
       ·have HT2:=Z_ (HS.out.trans (by rw [AQ.out,decide_eq_true (show 0≤vs by omega),decide_eq_true (show vs≤64 by omega)]))
        have hkey:=keyOf_string_mk (P:=Tryz.prog) (k:=9) Tryz.underlying9 lz;clear HS pG AQ;go_wp2_with fail
        refine(I0.out _ (Hu.out _ (hEr.alloc _)) (uD.out _ (hEr.alloc _))).mono ?_
        rintro e w2 ⟨rfl,hE2⟩;have hK:=(aC.made _ _ _).ext hE2;have hKc:=hK.cell;have Na:=hK.lt;have oh:=(hEr.alloc _).ext hE2;have hC2:=(hC.alloc _).ext hE2;have hown2:=(hown.alloc _).kept (gJ hE2) (by simp);clear hown hC hE2 hEr hK;have hkm:k<maxLen:=by omega
        go_wp2_with (first
          | (at_lookup;refine wpList_lookup_own_int _ rfl _ _ 126 rfl 9 3 .i64 uh Tryz.underlying126 Tryz.underlying3 (FU _) (w.heap.size+1) (k) D rfl hown2 _ _ rfl hkey ?_;intro cc hat hwc)
          | (at_mapUpdate;refine wpList_mapUpdate_own _ rfl _ _ _ 126 rfl 9 3 uh Tryz.underlying126 _ (w.heap.size+1) (k) D rfl hown2 (by omega) _ _ _ rfl rfl hkey _ [] (plainElem_int Tryz.underlying3 (wrap64_wf _)) ?_;intro w3 hown3 hgrow3)
          | (go_at_call 57;refine(dF _ _).mono ?_;rintro e w' ⟨rfl,rfl⟩;rw [SK.out]))
        have nU:=hC2.then (yN hgrow3)
        have KO:=yO Qd.out (hown2.tidy uh) vn.data.toList (.lit (.int .i64 (wrap64 (cc+1))));rw [←HW.out] at KO;clear hgrow3 hown2;go_wp2_with fail
        go_roundw
        case rel=>exact⟨k+1,_,by omega,by go_num,hown3,KO,HT2.out,nU⟩
        case measure=>simp [intOf];omega
  ·obtain rfl:k=n1:=by omega
   have I0:=Z_ (HT.out (uj H1.out hrel.out));have hX:=HX.out.aK hC (by omega);have x2:=hX.cell 2;have hxl:=hX.lt;simp at x2
   clear hX hrel HT OA HKV;go_wp2_with fail
   clear x2 hxl;go_loopw [52] (fun i wr=>∃ (j:Nat) (D:DataW Unit),j≤n2∧i=.int .i64 j∧wr.ownsMap Tryz.prog 9 (plainElem Tryz.prog 3) (w.heap.size+1) (k+j) D∧BJ D (K.take (k+j))∧Hid ((xp.take j).all sG=true)∧aB (fun b=>b=w.heap.size+1) w0 wr) (fun i _=>n2-(intOf i).toNat)
   case atStart=>exact⟨0,_,Nat.zero_le _,rfl,hown,Qd.out,by simp [Hid],hC⟩
   case round=>
    clear hown hC hEr hzr Qd;obtain⟨j,D,hj,rfl,hown,hmo,hrel,hC⟩:=hrel;have Qd:=Z_ hmo;have hEr:Ext w wr:=hEw.trans hC (fun i hi e=>by omega);have hzr:=hC.size;have rS:=Z_ (HX.out.aK hC (by omega));clear hmo;by_cases hlt2:j<n2
    ·have hki:(j:Int)<(n2:Int):=by omega
     have hlk:j<xp.length:=by rw [H2.out];exact hlt2
     obtain⟨bl,ol,rfl,hbl,cl⟩:=HA.out.2 j hlk;have ad7:=Nat.lt_of_lt_of_le hbl hEr.size;obtain⟨l0,l1,⟨pa,pc,l2,p1,p2,p3⟩,l3,l4,l5,lz⟩:=dB.ext hEr hbl cl;have hs:=wX sG xp j hlk;rw [hrel.out,Bool.true_and] at hs;have pG:=Z_ (fun h=>HF2.out (zV hlk h));have HW:=Z_ (HKP.out j hlk);clear cl;generalize xp[j]=x at *;obtain⟨pn,pp,pl,pw,pg,pv⟩:=x;simp only at l0 l1 l2 l3 l4 l5 lz HW p1 p2;have HS:=Z_ hs;have OC:=Z_ p1;obtain⟨np,hnp⟩:∃ n,pl.length=n:=⟨_,rfl⟩;have hvt:sG ⟨pn,pp,pl,pw,pg,pv⟩=(pp&&decide (pl.length≤5)&&pK pw&&pK pv&&(pg || pv == 0)&&pl.all pK&&nameB pn.data.toList):=rfl;have Dv:=Z_ (fun w hev hmv=>name.rF pn w (by unfold maxLen at lz;exact lz) hev hmv);rw [hnp] at hvt l2 p2;have Fv:=Z_ hnp;obtain⟨lw,ZH⟩:∃ b,pK pw=b:=⟨_,rfl⟩
     obtain⟨lg,UE⟩:∃ b,pK pv=b:=⟨_,rfl⟩;obtain⟨nb,hnb⟩:∃ b,nameB pn.data.toList=b:=⟨_,rfl⟩;rw [ZH,UE,hnb] at hvt;rw [hnb] at Dv;have AQ:=Z_ hvt;have ZI:=Z_ ZH;have ZJ:=Z_ UE;clear hs hvt ZH UE hnb hnp p1 hrel;unfold maxLen at p3;cases pp
     ·have HT2:=Z_ (pG.out (by rw [AQ.out];rfl))
      go_wp2_with fail
      go_ret
      exact⟨bW HT2.out.symm,hEr.alloc _⟩
     ·cases nb
      ·have HT2:=Z_ (pG.out (by rw [AQ.out,Bool.and_false]))
       go_wp2_with fail
       refine(Dv.out _ (Hu.out _ (hEr.alloc _)) (uD.out _ (hEr.alloc _))).mono ?_
       rintro e w2 ⟨rfl,hE2⟩;have hK:=(aC.made _ _ _).ext hE2;have hKc:=hK.cell;have Na:=hK.lt;have oh:=(hEr.alloc _).ext hE2;have hC2:=(hC.alloc _).ext hE2;have hown2:=(hown.alloc _).kept (gJ hE2) (by simp);have HP2:=Z_ (OC.out.mono (Nat.le_trans (by simp) hE2.size) (fun b o x hb h=>dJ.ext (((aB.refl _ _).alloc _).ext hE2) hb h));clear hown hC hE2 hEr hK;go_wp2_with fail
       go_ret
       exact⟨bW HT2.out.symm,oh⟩
      ·by_cases h5:5<np
       ·have HT2:=Z_ (pG.out (by rw [AQ.out,decide_eq_false (show ¬ np≤5 by omega)];rfl))
        have UU:(5:Int)<(np:Int):=by omega
        go_wp2_with fail
        refine(Dv.out _ (Hu.out _ (hEr.alloc _)) (uD.out _ (hEr.alloc _))).mono ?_
        rintro e w2 ⟨rfl,hE2⟩;have hK:=(aC.made _ _ _).ext hE2;have hKc:=hK.cell;have Na:=hK.lt;have oh:=(hEr.alloc _).ext hE2;have hC2:=(hC.alloc _).ext hE2;have hown2:=(hown.alloc _).kept (gJ hE2) (by simp);have HP2:=Z_ (OC.out.mono (Nat.le_trans (by simp) hE2.size) (fun b o x hb h=>dJ.ext (((aB.refl _ _).alloc _).ext hE2) hb h));clear hown hC hE2 hEr hK;go_wp2_with fail
        go_ret
        exact⟨bW HT2.out.symm,oh⟩
       ·have UU:¬ (5:Int)<(np:Int):=by omega
        have KP:=Z_ (AQ.out.trans (by rw [decide_eq_true (show np≤5 by omega)]));clear AQ;cases lw
        ·have HT2:=Z_ (pG.out (by rw [KP.out];rfl))
         go_wp2_with fail
         refine(Dv.out _ (Hu.out _ (hEr.alloc _)) (uD.out _ (hEr.alloc _))).mono ?_
         rintro e w2 ⟨rfl,hE2⟩;have hK:=(aC.made _ _ _).ext hE2;have hKc:=hK.cell;have Na:=hK.lt;have oh:=(hEr.alloc _).ext hE2;have hC2:=(hC.alloc _).ext hE2;have hown2:=(hown.alloc _).kept (gJ hE2) (by simp);have HP2:=Z_ (OC.out.mono (Nat.le_trans (by simp) hE2.size) (fun b o x hb h=>dJ.ext (((aB.refl _ _).alloc _).ext hE2) hb h));clear hown hC hE2 hEr hK;go_wp2_with (go_at_call 57;refine(dF _ _).mono ?_;rintro e w' ⟨rfl,rfl⟩;first|rw [ZI.out]|rw [ZJ.out])
         go_ret
         exact⟨bW HT2.out.symm,oh⟩
        ·cases lg
         ·have HT2:=Z_ (pG.out (by rw [KP.out];rfl))
          go_wp2_with fail
          refine(Dv.out _ (Hu.out _ (hEr.alloc _)) (uD.out _ (hEr.alloc _))).mono ?_
          rintro e w2 ⟨rfl,hE2⟩;have hK:=(aC.made _ _ _).ext hE2;have hKc:=hK.cell;have Na:=hK.lt;have oh:=(hEr.alloc _).ext hE2;have hC2:=(hC.alloc _).ext hE2;have hown2:=(hown.alloc _).kept (gJ hE2) (by simp);have HP2:=Z_ (OC.out.mono (Nat.le_trans (by simp) hE2.size) (fun b o x hb h=>dJ.ext (((aB.refl _ _).alloc _).ext hE2) hb h));clear hown hC hE2 hEr hK;go_wp2_with (go_at_call 57;refine(dF _ _).mono ?_;rintro e w' ⟨rfl,rfl⟩;first|rw [ZI.out]|rw [ZJ.out])
          go_ret
          exact⟨bW HT2.out.symm,oh⟩
         ·have hgv:(pg || pv == 0)=false∨(pg || pv == 0)=true:=by cases (pg || pv == 0)<;>simp
          rcases hgv with hgv|hgv
          ·have HT2:=Z_ (pG.out (by rw [KP.out,hgv];rfl))
           cases pg
           ·have hv0:(pv == 0)=false:=hgv
            have hv1:¬ pv=0:=by simpa using hv0
            have hv2:(pv != 0)=true:=by simpa using hv1
            clear hgv;go_wp2_with fail
            refine(Dv.out _ (Hu.out _ (hEr.alloc _)) (uD.out _ (hEr.alloc _))).mono ?_
            rintro e w2 ⟨rfl,hE2⟩;have hK:=(aC.made _ _ _).ext hE2;have hKc:=hK.cell;have Na:=hK.lt;have oh:=(hEr.alloc _).ext hE2;have hC2:=(hC.alloc _).ext hE2;have hown2:=(hown.alloc _).kept (gJ hE2) (by simp);have HP2:=Z_ (OC.out.mono (Nat.le_trans (by simp) hE2.size) (fun b o x hb h=>dJ.ext (((aB.refl _ _).alloc _).ext hE2) hb h));clear hown hC hE2 hEr hK;go_wp2_with (go_at_call 57;refine(dF _ _).mono ?_;rintro e w' ⟨rfl,rfl⟩;first|rw [ZI.out]|rw [ZJ.out])
            go_ret
            exact⟨bW HT2.out.symm,oh⟩
           ·cases hgv
          ·have SL:=Z_ (KP.out.trans (by rw [hgv];show (pl.all pK&&true)=_;rw [Bool.and_true]:_=pl.all pK))
           clear KP
           have WW:pg=true∨(pg=false∧pv=0):=by
            cases pg
            ·right;exact⟨rfl,by simpa using hgv⟩
            ·left;rfl
           have hkey:=keyOf_string_mk (P:=Tryz.prog) (k:=9) Tryz.underlying9 lz;clear hgv;rcases WW with rfl|⟨rfl,rfl⟩
           all_goals
            go_wp2_with fail
            refine(Dv.out _ (Hu.out _ (hEr.alloc _)) (uD.out _ (hEr.alloc _))).mono ?_
            rintro e w2 ⟨rfl,hE2⟩;have hK:=(aC.made _ _ _).ext hE2;have hKc:=hK.cell;have Na:=hK.lt;have oh:=(hEr.alloc _).ext hE2;have hC2:=(hC.alloc _).ext hE2;have hown2:=(hown.alloc _).kept (gJ hE2) (by simp);have HP2:=Z_ (OC.out.mono (Nat.le_trans (by simp) hE2.size) (fun b o x hb h=>dJ.ext (((aB.refl _ _).alloc _).ext hE2) hb h));clear hown hC hE2 hEr hK;go_wp2_with (go_at_call 57;refine(dF _ _).mono ?_;rintro e w' ⟨rfl,rfl⟩;first|rw [ZI.out]|rw [ZJ.out])
            clear l0 l1 l2 l3 l4 l5;go_loop [96] (fun i=>∃ q:Nat,q≤np∧i=.int .i64 q∧Hid ((pl.take q).all pK=true)) (fun i=>np-(intOf i).toNat)
            case atStart=>exact⟨0,Nat.zero_le _,rfl,by simp [Hid]⟩
            case round=>
             obtain⟨q,hq,rfl,Qg⟩:=hrel;by_cases hlt3:q<np
             ·have hqi:(q:Int)<(np:Int):=by omega
              have hlq:q<pl.length:=by rw [Fv.out];exact hlt3
              obtain⟨bp,op,rfl,hbp,cp⟩:=HP2.out q hlq;unfold dJ at cp;rw [Nat.mul_one] at cp;have hs:=wX pK pl q hlq;rw [Qg.out,Bool.true_and] at hs;have HB2:=Z_ (fun h=>pG.out (SL.out.trans (zV hlq h)));generalize pl[q]=z at *;have HS2:=Z_ hs;obtain⟨lz,hlz⟩:∃ b,pK z=b:=⟨_,rfl⟩;have ZK:=Z_ hlz;clear hs hlz;cases lz
              ·have HT2:=Z_ (HB2.out ZK.out)
               go_wp2_with (go_at_call 57;refine(dF _ _).mono ?_;rintro e w' ⟨rfl,rfl⟩;rw [ZK.out])
               go_ret
               exact⟨bW HT2.out.symm,oh⟩
              ·have HT2:=Z_ (HS2.out.trans ZK.out)
               go_wp2_with (go_at_call 57;refine(dF _ _).mono ?_;rintro e w' ⟨rfl,rfl⟩;rw [ZK.out])
               go_round
               case rel=>exact⟨q+1,by omega,by go_num,HT2.out⟩
               case measure=>simp [intOf];omega
             ·obtain rfl:q=np:=by omega
              have HT2:=Z_ (HS.out.trans (SL.out.trans (uj Fv.out Qg.out)));clear HS pG SL;have hkm:k+j<maxLen:=by omega
              go_wp2_with (first
              | (at_lookup;refine wpList_lookup_own_int _ rfl _ _ 126 rfl 9 3 .i64 uh Tryz.underlying126 Tryz.underlying3 (FU _) (w.heap.size+1) (k+j) D rfl hown2 _ _ rfl hkey ?_;intro cc hat hwc)
              | (at_mapUpdate;refine wpList_mapUpdate_own _ rfl _ _ _ 126 rfl 9 3 uh Tryz.underlying126 _ (w.heap.size+1) (k+j) D rfl hown2 (by omega) _ _ _ rfl rfl hkey _ [] (plainElem_int Tryz.underlying3 (wrap64_wf _)) ?_;intro w3 hown3 hgrow3))
              have nU:=hC2.then (yN hgrow3)
              have KO:=yO Qd.out (hown2.tidy uh) pn.data.toList (.lit (.int .i64 (wrap64 (cc+1))));rw [←HW.out] at KO;clear hgrow3 hown2;go_wp2_with fail
              go_roundw
              case rel=>exact⟨j+1,_,by omega,by go_num,hown3,KO,HT2.out,nU⟩
              case measure=>simp [intOf];omega
    ·obtain rfl:j=n2:=by omega
     have OD:=Z_ (I0.out (uj H2.out hrel.out));have hX:=rS.out;have x0:=hX.cell 0;have x1:=hX.cell 1;have x2:=hX.cell 2;have hxl:=hX.lt;simp at x0
     simp at x1
     simp at x2
     clear hX;obtain⟨_,_,hdis⟩:=Qd.out;have hKt:K.take (k+j)=K:=List.take_of_length_le (by rw [DF.out];exact Nat.le_refl _);rw [hKt,DF.out] at hdis;have HD:=Z_ hdis;clear hdis hKt;cases A1
     ·have HT2:=Z_ (show B=false by rw [OD.out];rfl)
      go_wp2_with fail
      refine(Nw.out _ (Hu.out _ hEr) (uD.out _ hEr)).mono ?_
      rintro e w2 ⟨rfl,hE2⟩;go_wp2_with fail
      go_ret
      exact⟨bW HT2.out.symm,hEr.ext hE2⟩
     ·go_wp2_with fail
      refine(Nw.out _ (Hu.out _ hEr) (uD.out _ hEr)).mono ?_
      rintro e w2 ⟨rfl,hE2⟩;have Ew:=rS.out.ext hE2;have y1:=Ew.cell 1;have y2:=Ew.cell 2;have hyl:=Ew.lt;simp at y1
      simp at y2
      have hown2:=hown.kept (gJ hE2) (by simp);have hlen:=fun ty=>hown2.len (P:=Tryz.prog) Tryz.underlying126 ty
      have UT:=Z_ (hEr.ext hE2);have ad8:(k:Int)+(j:Int)≤9223372036854775806:=by omega
      clear x0 x1 x2 Ew hown hown2 hE2 hC hEr;by_cases h20:k+j≤20
      ·have aj_:((k+j:Nat):Int)≤20:=by omega
       have ad9:(k:Int)+(j:Int)≤20:=by omega
       obtain⟨sz,hsz⟩:∃ n,Maps.size D=n:=⟨_,rfl⟩;rw [hsz] at HD hlen;by_cases hs:sz=k+j
       ·have HT2:=Z_ (show B=true by rw [OD.out,HD.out,decide_eq_true h20,decide_eq_true hs];rfl)
        subst hs;go_wp2_with fail
        go_ret
        exact⟨bW HT2.out.symm,UT.out⟩
       ·have HT2:=Z_ (show B=false by rw [OD.out,HD.out,decide_eq_false hs,Bool.and_false])
        have hs1:¬ (sz:Int)=(k:Int)+(j:Int):=by omega
        have hs2:((sz:Int) == (k:Int)+(j:Int))=false:=by rw [beq_eq_false_iff_ne];exact hs1
        go_wp2_with fail
        go_ret
        exact⟨bW HT2.out.symm,UT.out⟩
      ·have ad9:¬ (k:Int)+(j:Int)≤20:=by omega
       have HT2:=Z_ (show B=false by rw [OD.out,decide_eq_false h20];rfl);go_wp2_with fail
       go_ret
       exact⟨bW HT2.out.symm,UT.out⟩
end face
end Go.Proofs.YtpcihajmcejliacGreatDoor
