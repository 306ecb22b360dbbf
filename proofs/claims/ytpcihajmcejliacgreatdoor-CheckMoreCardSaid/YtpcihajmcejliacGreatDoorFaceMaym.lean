/- The walk of the program's May: a face. -/
import Derived.Deep.RegionHeld3
import Derived.StillTailTactics
import Derived.Test.YtpcihajmcejliacGreatDoorNamem
import Derived.Test.YtpcihajmcejliacGreatDoorFaceEqm
namespace Go.Proofs.YtpcihajmcejliacGreatDoor
open Go.RowKit Go.WideMaps Go.Maps
def xh (v:fB):Bool:=FQ v&&nameB v.key
def rD (p:aI):Bool:=xI p&&nameB p.key
namespace face
theorem LC (f:aN):iG f=(f.vars.all xh&&f.procs.all rD&&(nameB f.modn.data.toList&&decide (f.vars.length+f.procs.length≤20)&&gQ f.keys)):=by
 rw [iG,aN.keys]
 have e1:f.vars.all xh=(f.vars.all FQ&&(f.vars.map fB.key).all nameB):=by
  induction f.vars with
  | nil=>rfl
  | cons x r ih=>simp only [List.all_cons,List.map_cons,ih,xh];cases FQ x<;>cases nameB x.key<;>cases r.all FQ<;>rfl
 have e2:f.procs.all rD=(f.procs.all xI&&(f.procs.map aI.key).all nameB):=by
  induction f.procs with
  | nil=>rfl
  | cons x r ih=>simp only [List.all_cons,List.map_cons,ih,rD];cases xI x<;>cases nameB x.key<;>cases r.all xI<;>rfl
 rw [e1,e2,List.all_append];cases f.vars.all FQ<;>cases f.procs.all xI<;>cases (f.vars.map fB.key).all nameB<;>cases (f.procs.map aI.key).all nameB<;>cases nameB f.modn.data.toList<;>cases decide (f.vars.length+f.procs.length≤20)<;>cases gQ (f.vars.map fB.key++f.procs.map aI.key)<;>rfl
theorem sK:Keyed Tryz.prog 9:=string_keyed Tryz.underlying9
theorem Ek (w:World):(zeroValue 3).run Tryz.prog w=.ok (.int .i64 0) w:=by kernel_rfl
theorem vM (f:aN):f.keys.length=f.vars.length+f.procs.length:=by simp [aN.keys]
theorem I9 (f:aN) (k:Nat) (h:k<f.vars.length):f.keys.take (k+1)=f.keys.take k ++ [f.vars[k].name.data.toList]:=by
 have h2:k<f.keys.length:=by rw [vM];omega
 rw [List.take_succ_eq_append_getElem h2];congr 2
 simp [aN.keys,fB.key,h]
theorem FT (f:aN) (n:Nat) (hn:f.vars.length=n) (j:Nat) (h:j<f.procs.length):f.keys.take (n+j+1)=f.keys.take (n+j) ++ [f.procs[j].name.data.toList]:=by
 subst hn;have h2:f.vars.length+j<f.keys.length:=by rw [vM];omega
 rw [List.take_succ_eq_append_getElem h2];congr 2
 simp [aN.keys,aI.key]
theorem xJ {w w':World} {b:Nat} (h:w.grownBy w' (some b)):aB (fun i=>i=b) w w':=
 ⟨h.os,h.tape,h.output,h.size,fun k hk hn=>h.block k hk (fun e=>hn (by cases e;rfl))⟩
theorem gU {w w':World} (h:Ext w w'):w.grownBy w' none:=
 ⟨h.os,h.tape,h.output,h.size,fun k hk _=>h.block k hk id⟩
set_option maxRecDepth 100000 in
set_option maxHeartbeats 8000000 in
theorem Ee (x:aN) (v:Value) (w:World) (hx:eC w x v) (hsum:x.vars.length+x.procs.length<maxLen) (hev:ErrVar w) (hmv:dw w) :
  Calls Tryz.prog 20 #[v] w fun e w'=>e=.returned (.bool (iG x))∧Ext w w':=by
 have hmm:=@run_makeMap Tryz.prog;obtain⟨a,am,c,cm,rfl,ha,hc,hmod,ha1,ha2,hc1,hc2⟩:=hx;unfold maxLen at ha2 hc2 hmod;rw [LC];have PX:=Z_ (vM x);have HKV:=Z_ (I9 x);have ZM:=Z_ (FT x);generalize x.keys=K at *;obtain⟨xn,xv,xp⟩:=x;simp only at *;have HA:=Z_ (And.intro ha hc);obtain⟨n1,hn1⟩:∃ n,xv.length=n:=⟨_,rfl⟩;obtain⟨n2,hn2⟩:∃ n,xp.length=n:=⟨_,rfl⟩;rw [hn1,hn2] at PX;simp only [hn1,hn2] at ha1 hc1 hsum ⊢;have ZM:=Z_ (ZM.out n1 hn1);have H1:=Z_ hn1;have H2:=Z_ hn2;have Za:=Z_ (fun w hev hmv=>name.qL xn w hmod hev hmv);generalize nameB xn.data.toList=A1 at *;have hB1:aH (w.alloc (.cells #[.string xn,.slice a n1 am,.slice c n2 cm] 37)) w.heap.size #[.string xn,.slice a n1 am,.slice c n2 cm] 37:=aH.made _ _ _
 have hE:Ext w ((w.alloc (.cells #[.string xn,.slice a n1 am,.slice c n2 cm] 37)).alloc (.map #[] 0)):=((aB.refl _ _).alloc _).alloc _;have hz:(w.alloc (.cells #[.string xn,.slice a n1 am,.slice c n2 cm] 37)).heap.size=w.heap.size+1:=by simp
 have P_:=World.ownsMap_made (w.alloc (.cells #[.string xn,.slice a n1 am,.slice c n2 cm] 37)) Tryz.prog 9 (plainElem (H:=Unit) Tryz.prog 3);rw [hz] at P_;have hX:=hB1.alloc (.map #[] 0);have hz0:((w.alloc (.cells #[.string xn,.slice a n1 am,.slice c n2 cm] 37)).alloc (.map #[] 0)).heap.size=w.heap.size+2:=by simp
 have HX:=Z_ hX;have HE:=Z_ hE;have HM:=Z_ P_;have HZ:=Z_ hz0;generalize hB:(xv.all xh&&xp.all rD&&(A1&&decide (n1+n2≤20)&&gQ K))=B;have AK:=Z_ (fun h:xv.all xh=false=>show B=false by rw [←hB,h];rfl);have HF2:=Z_ (fun h:xp.all rD=false=>show B=false by rw [←hB,h];cases xv.all xh<;>rfl);have HT:=Z_ (fun (h:xv.all xh=true) (h2:xp.all rD=true)=>show B=(A1&&decide (n1+n2≤20)&&gQ K) by rw [←hB,h,h2];rfl);clear ha hc hn1 hn2 hB1 hE hz P_ hX hz0 hB;go_enter Tryz.func20,Tryz.ntmps20
 go_wp2_with fail
 generalize (w.alloc (.cells #[.string xn,.slice a n1 am,.slice c n2 cm] 37)).alloc (.map #[] 0)=w0 at *;have hEw:=HE.out;have hz0:=HZ.out;have Uw:=hsum;unfold maxLen at Uw;have FU:=Z_ (fun (w':World) (h:Ext w w')=>hev.ext h);have tC:=Z_ (fun (w':World) (h:Ext w w')=>hmv.ext h);have hM:=HM.out;clear hev hmv HM HZ HE;go_loopw [14] (fun i wr=>∃ (k:Nat) (D:DataW Unit),k≤n1∧i=.int .i64 k∧wr.ownsMap Tryz.prog 9 (plainElem Tryz.prog 3) (w.heap.size+1) k D∧AV D (K.take k)∧Hid ((xv.take k).all xh=true)∧aB (fun b=>b=w.heap.size+1) w0 wr) (fun i _=>n1-(intOf i).toNat)
 case atStart=>exact⟨0,_,Nat.zero_le _,rfl,hM,FV,by simp [Hid],aB.refl _ _⟩
 case round=>
  obtain⟨k,D,hk,rfl,hown,hmo,hrel,hC⟩:=hrel;have Kq:=Z_ hmo;clear hM hmo;have hEr:Ext w wr:=hEw.trans hC (fun i hi e=>by omega);have hzr:=hC.size;by_cases hlt:k<n1
  ·have hki:(k:Int)<(n1:Int):=by omega
   have hlk:k<xv.length:=by rw [H1.out];exact hlt
   obtain⟨bl,ol,rfl,hbl,cl⟩:=HA.out.1 k hlk;have ZN:=Nat.lt_of_lt_of_le hbl hEr.size;obtain⟨l0,l1,l2,l3,lz⟩:=h_.ext hEr hbl cl;have hs:=vN xh xv k hlk;rw [hrel.out,Bool.true_and] at hs;have kH:=Z_ (fun h=>AK.out (yZ hlk h));have HW:=Z_ (HKV.out k hlk);clear cl;generalize xv[k]=x at *;obtain⟨vn,vp,vl,vs⟩:=x;simp only at l0 l1 l2 l3 lz HW;have HS:=Z_ hs;have hvt:xh ⟨vn,vp,vl,vs⟩=(vp&&oL vl&&decide (0≤vs)&&decide (vs≤64)&&nameB vn.data.toList):=rfl;have GR:=Z_ (fun w hev hmv=>name.qL vn w (by unfold maxLen at lz;exact lz) hev hmv);obtain⟨lb,hlb⟩:∃ b,oL vl=b:=⟨_,rfl⟩;obtain⟨nb,hnb⟩:∃ b,nameB vn.data.toList=b:=⟨_,rfl⟩;rw [hlb,hnb] at hvt;rw [hnb] at GR;have zN:=Z_ hvt;have XO:=Z_ hlb;clear hs hvt hlb hnb hrel;cases vp
   ·have HT2:=Z_ (kH.out (by rw [zN.out];rfl))
    go_wp2_with fail
    go_ret
    exact⟨bY HT2.out.symm,hEr.alloc _⟩
   ·cases nb
    ·have HT2:=Z_ (kH.out (by rw [zN.out,Bool.and_false]))
     go_wp2_with fail
     refine(GR.out _ (FU.out _ (hEr.alloc _)) (tC.out _ (hEr.alloc _))).mono ?_
     rintro e w2 ⟨rfl,hE2⟩;have hK:=(aH.made _ _ _).ext hE2;have hKc:=hK.cell;have Kv:=hK.lt;have nC:=(hEr.alloc _).ext hE2;have hC2:=(hC.alloc _).ext hE2;have hown2:=(hown.alloc _).kept (gU hE2) (by simp);clear hown hC hE2 hEr hK;go_wp2_with fail
     go_ret
     exact⟨bY HT2.out.symm,nC⟩
    ·cases lb
     ·have HT2:=Z_ (kH.out (by rw [zN.out];rfl))
      go_wp2_with fail
      refine(GR.out _ (FU.out _ (hEr.alloc _)) (tC.out _ (hEr.alloc _))).mono ?_
      rintro e w2 ⟨rfl,hE2⟩;have hK:=(aH.made _ _ _).ext hE2;have hKc:=hK.cell;have Kv:=hK.lt;have nC:=(hEr.alloc _).ext hE2;have hC2:=(hC.alloc _).ext hE2;have hown2:=(hown.alloc _).kept (gU hE2) (by simp);clear hown hC hE2 hEr hK;go_wp2_with (go_at_call 57;refine(dD _ _).mono ?_;rintro e w' ⟨rfl,rfl⟩;rw [XO.out])
      go_ret
      exact⟨bY HT2.out.symm,nC⟩
     ·by_cases h0:vs<0
      ·have HT2:=Z_ (kH.out (by rw [zN.out,decide_eq_false (show ¬ 0≤vs by omega)];rfl))
       go_wp2_with fail
       refine(GR.out _ (FU.out _ (hEr.alloc _)) (tC.out _ (hEr.alloc _))).mono ?_
       rintro e w2 ⟨rfl,hE2⟩;have hK:=(aH.made _ _ _).ext hE2;have hKc:=hK.cell;have Kv:=hK.lt;have nC:=(hEr.alloc _).ext hE2;have hC2:=(hC.alloc _).ext hE2;have hown2:=(hown.alloc _).kept (gU hE2) (by simp);clear hown hC hE2 hEr hK;go_wp2_with (go_at_call 57;refine(dD _ _).mono ?_;rintro e w' ⟨rfl,rfl⟩;rw [XO.out])
       go_ret
       exact⟨bY HT2.out.symm,nC⟩
      ·by_cases h64:64<vs
       ·have HT2:=Z_ (kH.out (by rw [zN.out,decide_eq_false (show ¬ vs≤64 by omega),Bool.and_false];rfl))
        go_wp2_with fail
        refine(GR.out _ (FU.out _ (hEr.alloc _)) (tC.out _ (hEr.alloc _))).mono ?_
        rintro e w2 ⟨rfl,hE2⟩;have hK:=(aH.made _ _ _).ext hE2;have hKc:=hK.cell;have Kv:=hK.lt;have nC:=(hEr.alloc _).ext hE2;have hC2:=(hC.alloc _).ext hE2;have hown2:=(hown.alloc _).kept (gU hE2) (by simp);clear hown hC hE2 hEr hK;go_wp2_with (go_at_call 57;refine(dD _ _).mono ?_;rintro e w' ⟨rfl,rfl⟩;rw [XO.out])
        go_ret
        exact⟨bY HT2.out.symm,nC⟩
       ·have HT2:=Z_ (HS.out.trans (by rw [zN.out,decide_eq_true (show 0≤vs by omega),decide_eq_true (show vs≤64 by omega)]))
        have hkey:=keyOf_string_mk (P:=Tryz.prog) (k:=9) Tryz.underlying9 lz;clear HS kH zN;go_wp2_with fail
        refine(GR.out _ (FU.out _ (hEr.alloc _)) (tC.out _ (hEr.alloc _))).mono ?_
        rintro e w2 ⟨rfl,hE2⟩;have hK:=(aH.made _ _ _).ext hE2;have hKc:=hK.cell;have Kv:=hK.lt;have nC:=(hEr.alloc _).ext hE2;have hC2:=(hC.alloc _).ext hE2;have hown2:=(hown.alloc _).kept (gU hE2) (by simp);clear hown hC hE2 hEr hK;have hkm:k<maxLen:=by omega
        go_wp2_with (first
          | (at_lookup;refine wpList_lookup_own_int _ rfl _ _ 126 rfl 9 3 .i64 sK Tryz.underlying126 Tryz.underlying3 (Ek _) (w.heap.size+1) (k) D rfl hown2 _ _ rfl hkey ?_;intro cc hat hwc)
          | (at_mapUpdate;refine wpList_mapUpdate_own _ rfl _ _ _ 126 rfl 9 3 sK Tryz.underlying126 _ (w.heap.size+1) (k) D rfl hown2 (by omega) _ _ _ rfl rfl hkey _ [] (plainElem_int Tryz.underlying3 (wrap64_wf _)) ?_;intro w3 hown3 hgrow3)
          | (go_at_call 57;refine(dD _ _).mono ?_;rintro e w' ⟨rfl,rfl⟩;rw [XO.out]))
        have nB:=hC2.then (xJ hgrow3)
        have I_:=xK Kq.out (hown2.tidy sK) vn.data.toList (.lit (.int .i64 (wrap64 (cc+1))));rw [←HW.out] at I_;clear hgrow3 hown2;go_wp2_with fail
        go_roundw
        case rel=>exact⟨k+1,_,by omega,by go_num,hown3,I_,HT2.out,nB⟩
        case measure=>simp [intOf];omega
  ·obtain rfl:k=n1:=by omega
   have GR:=Z_ (HT.out (sN H1.out hrel.out));have hX:=HX.out.aO hC (by omega);have x2:=hX.cell 2;have hxl:=hX.lt;simp at x2
   clear hX hrel HT AK HKV;go_wp2_with fail
   clear x2 hxl;go_loopw [52] (fun i wr=>∃ (j:Nat) (D:DataW Unit),j≤n2∧i=.int .i64 j∧wr.ownsMap Tryz.prog 9 (plainElem Tryz.prog 3) (w.heap.size+1) (k+j) D∧AV D (K.take (k+j))∧Hid ((xp.take j).all rD=true)∧aB (fun b=>b=w.heap.size+1) w0 wr) (fun i _=>n2-(intOf i).toNat)
   case atStart=>exact⟨0,_,Nat.zero_le _,rfl,hown,Kq.out,by simp [Hid],hC⟩
   case round=>
    clear hown hC hEr hzr Kq;obtain⟨j,D,hj,rfl,hown,hmo,hrel,hC⟩:=hrel;have Kq:=Z_ hmo;have hEr:Ext w wr:=hEw.trans hC (fun i hi e=>by omega);have hzr:=hC.size;have rY:=Z_ (HX.out.aO hC (by omega));clear hmo;by_cases hlt2:j<n2
    ·have hki:(j:Int)<(n2:Int):=by omega
     have hlk:j<xp.length:=by rw [H2.out];exact hlt2
     obtain⟨bl,ol,rfl,hbl,cl⟩:=HA.out.2 j hlk;have ZN:=Nat.lt_of_lt_of_le hbl hEr.size;obtain⟨l0,l1,⟨pa,pc,l2,p1,p2,p3⟩,l3,l4,l5,lz⟩:=dY.ext hEr hbl cl;have hs:=vN rD xp j hlk;rw [hrel.out,Bool.true_and] at hs;have kH:=Z_ (fun h=>HF2.out (yZ hlk h));have HW:=Z_ (ZM.out j hlk);clear cl;generalize xp[j]=x at *;obtain⟨pn,pp,pl,pw,pg,pv⟩:=x;simp only at l0 l1 l2 l3 l4 l5 lz HW p1 p2;have HS:=Z_ hs;have LD:=Z_ p1;obtain⟨np,hnp⟩:∃ n,pl.length=n:=⟨_,rfl⟩;have hvt:rD ⟨pn,pp,pl,pw,pg,pv⟩=(pp&&decide (pl.length≤5)&&oL pw&&oL pv&&(pg || pv == 0)&&pl.all oL&&nameB pn.data.toList):=rfl;have Cf:=Z_ (fun w hev hmv=>name.qL pn w (by unfold maxLen at lz;exact lz) hev hmv);rw [hnp] at hvt l2 p2;have zV:=Z_ hnp;obtain⟨lw,ZO⟩:∃ b,oL pw=b:=⟨_,rfl⟩
     obtain⟨lg,Rw⟩:∃ b,oL pv=b:=⟨_,rfl⟩;obtain⟨nb,hnb⟩:∃ b,nameB pn.data.toList=b:=⟨_,rfl⟩;rw [ZO,Rw,hnb] at hvt;rw [hnb] at Cf;have zN:=Z_ hvt;have XP:=Z_ ZO;have XQ:=Z_ Rw;clear hs hvt ZO Rw hnb hnp p1 hrel;unfold maxLen at p3;cases pp
     ·have HT2:=Z_ (kH.out (by rw [zN.out];rfl))
      go_wp2_with fail
      go_ret
      exact⟨bY HT2.out.symm,hEr.alloc _⟩
     ·cases nb
      ·have HT2:=Z_ (kH.out (by rw [zN.out,Bool.and_false]))
       go_wp2_with fail
       refine(Cf.out _ (FU.out _ (hEr.alloc _)) (tC.out _ (hEr.alloc _))).mono ?_
       rintro e w2 ⟨rfl,hE2⟩;have hK:=(aH.made _ _ _).ext hE2;have hKc:=hK.cell;have Kv:=hK.lt;have nC:=(hEr.alloc _).ext hE2;have hC2:=(hC.alloc _).ext hE2;have hown2:=(hown.alloc _).kept (gU hE2) (by simp);have HP2:=Z_ (LD.out.mono (Nat.le_trans (by simp) hE2.size) (fun b o x hb h=>gh.ext (((aB.refl _ _).alloc _).ext hE2) hb h));clear hown hC hE2 hEr hK;go_wp2_with fail
       go_ret
       exact⟨bY HT2.out.symm,nC⟩
      ·by_cases h5:5<np
       ·have HT2:=Z_ (kH.out (by rw [zN.out,decide_eq_false (show ¬ np≤5 by omega)];rfl))
        have RQ:(5:Int)<(np:Int):=by omega
        go_wp2_with fail
        refine(Cf.out _ (FU.out _ (hEr.alloc _)) (tC.out _ (hEr.alloc _))).mono ?_
        rintro e w2 ⟨rfl,hE2⟩;have hK:=(aH.made _ _ _).ext hE2;have hKc:=hK.cell;have Kv:=hK.lt;have nC:=(hEr.alloc _).ext hE2;have hC2:=(hC.alloc _).ext hE2;have hown2:=(hown.alloc _).kept (gU hE2) (by simp);have HP2:=Z_ (LD.out.mono (Nat.le_trans (by simp) hE2.size) (fun b o x hb h=>gh.ext (((aB.refl _ _).alloc _).ext hE2) hb h));clear hown hC hE2 hEr hK;go_wp2_with fail
        go_ret
        exact⟨bY HT2.out.symm,nC⟩
       ·have RQ:¬ (5:Int)<(np:Int):=by omega
        have Ja:=Z_ (zN.out.trans (by rw [decide_eq_true (show np≤5 by omega)]));clear zN;cases lw
        ·have HT2:=Z_ (kH.out (by rw [Ja.out];rfl))
         go_wp2_with fail
         refine(Cf.out _ (FU.out _ (hEr.alloc _)) (tC.out _ (hEr.alloc _))).mono ?_
         rintro e w2 ⟨rfl,hE2⟩;have hK:=(aH.made _ _ _).ext hE2;have hKc:=hK.cell;have Kv:=hK.lt;have nC:=(hEr.alloc _).ext hE2;have hC2:=(hC.alloc _).ext hE2;have hown2:=(hown.alloc _).kept (gU hE2) (by simp);have HP2:=Z_ (LD.out.mono (Nat.le_trans (by simp) hE2.size) (fun b o x hb h=>gh.ext (((aB.refl _ _).alloc _).ext hE2) hb h));clear hown hC hE2 hEr hK;go_wp2_with (go_at_call 57;refine(dD _ _).mono ?_;rintro e w' ⟨rfl,rfl⟩;first|rw [XP.out]|rw [XQ.out])
         go_ret
         exact⟨bY HT2.out.symm,nC⟩
        ·cases lg
         ·have HT2:=Z_ (kH.out (by rw [Ja.out];rfl))
          go_wp2_with fail
          refine(Cf.out _ (FU.out _ (hEr.alloc _)) (tC.out _ (hEr.alloc _))).mono ?_
          rintro e w2 ⟨rfl,hE2⟩;have hK:=(aH.made _ _ _).ext hE2;have hKc:=hK.cell;have Kv:=hK.lt;have nC:=(hEr.alloc _).ext hE2;have hC2:=(hC.alloc _).ext hE2;have hown2:=(hown.alloc _).kept (gU hE2) (by simp);have HP2:=Z_ (LD.out.mono (Nat.le_trans (by simp) hE2.size) (fun b o x hb h=>gh.ext (((aB.refl _ _).alloc _).ext hE2) hb h));clear hown hC hE2 hEr hK;go_wp2_with (go_at_call 57;refine(dD _ _).mono ?_;rintro e w' ⟨rfl,rfl⟩;first|rw [XP.out]|rw [XQ.out])
          go_ret
          exact⟨bY HT2.out.symm,nC⟩
         ·have hgv:(pg || pv == 0)=false∨(pg || pv == 0)=true:=by cases (pg || pv == 0)<;>simp
          rcases hgv with hgv|hgv
          ·have HT2:=Z_ (kH.out (by rw [Ja.out,hgv];rfl))
           cases pg
           ·have hv0:(pv == 0)=false:=hgv
            have hv1:¬ pv=0:=by simpa using hv0
            have hv2:(pv != 0)=true:=by simpa using hv1
            clear hgv;go_wp2_with fail
            refine(Cf.out _ (FU.out _ (hEr.alloc _)) (tC.out _ (hEr.alloc _))).mono ?_
            rintro e w2 ⟨rfl,hE2⟩;have hK:=(aH.made _ _ _).ext hE2;have hKc:=hK.cell;have Kv:=hK.lt;have nC:=(hEr.alloc _).ext hE2;have hC2:=(hC.alloc _).ext hE2;have hown2:=(hown.alloc _).kept (gU hE2) (by simp);have HP2:=Z_ (LD.out.mono (Nat.le_trans (by simp) hE2.size) (fun b o x hb h=>gh.ext (((aB.refl _ _).alloc _).ext hE2) hb h));clear hown hC hE2 hEr hK;go_wp2_with (go_at_call 57;refine(dD _ _).mono ?_;rintro e w' ⟨rfl,rfl⟩;first|rw [XP.out]|rw [XQ.out])
            go_ret
            exact⟨bY HT2.out.symm,nC⟩
           ·cases hgv
          ·have Qa:=Z_ (Ja.out.trans (by rw [hgv];show (pl.all oL&&true)=_;rw [Bool.and_true]:_=pl.all oL))
           clear Ja
           have Ux:pg=true∨(pg=false∧pv=0):=by
            cases pg
            ·right;exact⟨rfl,by simpa using hgv⟩
            ·left;rfl
           have hkey:=keyOf_string_mk (P:=Tryz.prog) (k:=9) Tryz.underlying9 lz;clear hgv;rcases Ux with rfl|⟨rfl,rfl⟩
           all_goals
            go_wp2_with fail
            refine(Cf.out _ (FU.out _ (hEr.alloc _)) (tC.out _ (hEr.alloc _))).mono ?_
            rintro e w2 ⟨rfl,hE2⟩;have hK:=(aH.made _ _ _).ext hE2;have hKc:=hK.cell;have Kv:=hK.lt;have nC:=(hEr.alloc _).ext hE2;have hC2:=(hC.alloc _).ext hE2;have hown2:=(hown.alloc _).kept (gU hE2) (by simp);have HP2:=Z_ (LD.out.mono (Nat.le_trans (by simp) hE2.size) (fun b o x hb h=>gh.ext (((aB.refl _ _).alloc _).ext hE2) hb h));clear hown hC hE2 hEr hK;go_wp2_with (go_at_call 57;refine(dD _ _).mono ?_;rintro e w' ⟨rfl,rfl⟩;first|rw [XP.out]|rw [XQ.out])
            clear l0 l1 l2 l3 l4 l5;go_loop [96] (fun i=>∃ q:Nat,q≤np∧i=.int .i64 q∧Hid ((pl.take q).all oL=true)) (fun i=>np-(intOf i).toNat)
            case atStart=>exact⟨0,Nat.zero_le _,rfl,by simp [Hid]⟩
            case round=>
             obtain⟨q,hq,rfl,N9⟩:=hrel;by_cases hlt3:q<np
             ·have hqi:(q:Int)<(np:Int):=by omega
              have ZP:q<pl.length:=by rw [zV.out];exact hlt3
              obtain⟨bp,op,rfl,hbp,cp⟩:=HP2.out q ZP;unfold gh at cp;rw [Nat.mul_one] at cp;have hs:=vN oL pl q ZP;rw [N9.out,Bool.true_and] at hs;have HB2:=Z_ (fun h=>kH.out (Qa.out.trans (yZ ZP h)));generalize pl[q]=z at *;have HS2:=Z_ hs;obtain⟨lz,hlz⟩:∃ b,oL z=b:=⟨_,rfl⟩;have XR:=Z_ hlz;clear hs hlz;cases lz
              ·have HT2:=Z_ (HB2.out XR.out)
               go_wp2_with (go_at_call 57;refine(dD _ _).mono ?_;rintro e w' ⟨rfl,rfl⟩;rw [XR.out])
               go_ret
               exact⟨bY HT2.out.symm,nC⟩
              ·have HT2:=Z_ (HS2.out.trans XR.out)
               go_wp2_with (go_at_call 57;refine(dD _ _).mono ?_;rintro e w' ⟨rfl,rfl⟩;rw [XR.out])
               go_round
               case rel=>exact⟨q+1,by omega,by go_num,HT2.out⟩
               case measure=>simp [intOf];omega
             ·obtain rfl:q=np:=by omega
              have HT2:=Z_ (HS.out.trans (Qa.out.trans (sN zV.out N9.out)));clear HS kH Qa;have hkm:k+j<maxLen:=by omega
              go_wp2_with (first
              | (at_lookup;refine wpList_lookup_own_int _ rfl _ _ 126 rfl 9 3 .i64 sK Tryz.underlying126 Tryz.underlying3 (Ek _) (w.heap.size+1) (k+j) D rfl hown2 _ _ rfl hkey ?_;intro cc hat hwc)
              | (at_mapUpdate;refine wpList_mapUpdate_own _ rfl _ _ _ 126 rfl 9 3 sK Tryz.underlying126 _ (w.heap.size+1) (k+j) D rfl hown2 (by omega) _ _ _ rfl rfl hkey _ [] (plainElem_int Tryz.underlying3 (wrap64_wf _)) ?_;intro w3 hown3 hgrow3))
              have nB:=hC2.then (xJ hgrow3)
              have I_:=xK Kq.out (hown2.tidy sK) pn.data.toList (.lit (.int .i64 (wrap64 (cc+1))));rw [←HW.out] at I_;clear hgrow3 hown2;go_wp2_with fail
              go_roundw
              case rel=>exact⟨j+1,_,by omega,by go_num,hown3,I_,HT2.out,nB⟩
              case measure=>simp [intOf];omega
    ·obtain rfl:j=n2:=by omega
     have LG:=Z_ (GR.out (sN H2.out hrel.out));have hX:=rY.out;have x0:=hX.cell 0;have x1:=hX.cell 1;have x2:=hX.cell 2;have hxl:=hX.lt;simp at x0
     simp at x1
     simp at x2
     clear hX;obtain⟨_,_,hdis⟩:=Kq.out;have hKt:K.take (k+j)=K:=List.take_of_length_le (by rw [PX.out];exact Nat.le_refl _);rw [hKt,PX.out] at hdis;have HD:=Z_ hdis;clear hdis hKt;cases A1
     ·have HT2:=Z_ (show B=false by rw [LG.out];rfl)
      go_wp2_with fail
      refine(Za.out _ (FU.out _ hEr) (tC.out _ hEr)).mono ?_
      rintro e w2 ⟨rfl,hE2⟩;go_wp2_with fail
      go_ret
      exact⟨bY HT2.out.symm,hEr.ext hE2⟩
     ·go_wp2_with fail
      refine(Za.out _ (FU.out _ hEr) (tC.out _ hEr)).mono ?_
      rintro e w2 ⟨rfl,hE2⟩;have CH:=rY.out.ext hE2;have y1:=CH.cell 1;have y2:=CH.cell 2;have hyl:=CH.lt;simp at y1
      simp at y2
      have hown2:=hown.kept (gU hE2) (by simp);have hlen:=fun ty=>hown2.len (P:=Tryz.prog) Tryz.underlying126 ty
      have Rj:=Z_ (hEr.ext hE2);have ZH:(k:Int)+(j:Int)≤9223372036854775806:=by omega
      clear x0 x1 x2 CH hown hown2 hE2 hC hEr;by_cases h20:k+j≤20
      ·have ae6:((k+j:Nat):Int)≤20:=by omega
       have ZQ:(k:Int)+(j:Int)≤20:=by omega
       obtain⟨sz,hsz⟩:∃ n,Maps.size D=n:=⟨_,rfl⟩;rw [hsz] at HD hlen;by_cases hs:sz=k+j
       ·have HT2:=Z_ (show B=true by rw [LG.out,HD.out,decide_eq_true h20,decide_eq_true hs];rfl)
        subst hs;go_wp2_with fail
        go_ret
        exact⟨bY HT2.out.symm,Rj.out⟩
       ·have HT2:=Z_ (show B=false by rw [LG.out,HD.out,decide_eq_false hs,Bool.and_false])
        have hs1:¬ (sz:Int)=(k:Int)+(j:Int):=by omega
        have hs2:((sz:Int) == (k:Int)+(j:Int))=false:=by rw [beq_eq_false_iff_ne];exact hs1
        go_wp2_with fail
        go_ret
        exact⟨bY HT2.out.symm,Rj.out⟩
      ·have ZQ:¬ (k:Int)+(j:Int)≤20:=by omega
       have HT2:=Z_ (show B=false by rw [LG.out,decide_eq_false h20];rfl);go_wp2_with fail
       go_ret
       exact⟨bY HT2.out.symm,Rj.out⟩
end face
end Go.Proofs.YtpcihajmcejliacGreatDoor
