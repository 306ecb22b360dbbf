/- The walk of the checker's call: a call whose kids are done. -/
import Derived.Test.YtpcihajmcejliacGreatDoorSynCm
import Derived.Test.YtpcihajmcejliacGreatDoorChkVm
namespace Go.Proofs.YtpcihajmcejliacGreatDoor
open Go.RowKit
namespace chk
open bn dn
structure PrC (W:World) (p:aI) (p0 p1 p2 p3 p4 p5:Value):Prop where
 c0:p0=.string p.name
 c1:p1=.bool p.dX
 c2:∃ a c,p2=.slice a p.params.length c∧bW 1 gh W a p.params∧p.params.length≤c∧c≤maxLen
 c3:p3=.int .i64 p.writes
 c4:p4=.bool p.gives
 c5:p5=.int .i64 p.given
theorem EI {l:List aI} {s:ByteArray} {k:Nat} (h:k<l.length):nV (l.take (k+1)) s=if l[k].name=s then some l[k] else nV (l.take k) s:=by
 unfold nV;rw [List.take_succ_eq_append_getElem h,List.foldl_append];rfl
def SG (W u0 u:World) (X:Nat) (k0 m0:Int) (kv:Value) (ref:mG) (l0 ctx:Int) (o:Option aI):Prop:=
 aB (fun i=>i=X) u0 u∧∃ p0 p1 p2 p3 p4 p5,aH u X (jh k0 m0 kv ref p0 p1 p2 p3 p4 p5 l0 ctx) 345∧∀ p,o=some p→PrC W p p0 p1 p2 p3 p4 p5
def jr (w0:World) (z:Int) (ls:List Int) (n:Nat):List Value→World→Prop
 | [],u=>Ext w0 u
 | [v],u=>Ext w0 u∧∃ g,v=.slice (some ⟨g,0,none⟩) n n∧aH u g (ls.map (.int .i64)).toArray 3
 | _,u=>dQ z ls=true∧Ext w0 u
theorem jr.ext {w0:World} {z:Int} {ls:List Int} {n:Nat} {vs:List Value} {u:World} (h:jr w0 z ls n vs u):Ext w0 u:=by
 match vs,h with
 | [],h=>exact h
 | [_],h=>exact h.1
 | _::_::_,h=>exact h.2
theorem jZ {u:World} {g:Nat} {ls:List Int} {T:TypeId} (h:aH u g (ls.map (.int .i64)).toArray T):bW 1 gh u (some ⟨g,0,none⟩) ls:=fun j hj=>⟨g,0,rfl,h.lt,by
 unfold gh;rw [h.cell];simp [hj]⟩
theorem mY {w0 u:World} {z:Int} {ls:List Int} {n:Nat} {cs:Array Value} (h:Ext w0 u) (hc:cs=(ls.map (.int .i64)).toArray):jr w0 z ls n [.slice (some ⟨u.heap.size,0,none⟩) n n] (u.alloc (.cells cs 3)):=by
 subst hc;exact⟨h.alloc _,_,rfl,aH.made _ _ _⟩
def G0 (u:World) (X:Nat) (k0 m0:Int) (kv:Value) (ctx:Int) (T:Rz (mG×Int)) (e:Ending) (u':World):Prop:=aB (fun i=>i=X) u u'∧match T with
 | .bad c p=>e=.panicked (mJ c (p:Nat))
 | .ok r=>e=.returned (.tuple #[])∧uM r.1∧∃ p0 p1 p2 p3 p4 p5,aH u' X (jh k0 m0 kv r.1 p0 p1 p2 p3 p4 p5 r.2 ctx) 345
theorem EJ {ps:List Int} {ks:List Tr}:∀ {j:Nat} (h1:j<ps.length) (h2:j<ks.length),kU (ps.take (j+1)) (ks.take (j+1))=(kU (ps.take j) (ks.take j)&&dQ ps[j] [ks[j].lab]):=by
 induction ps generalizing ks with
 | nil=>intro j h;cases h
 | cons p r ih=>
  intro j h1 h2;cases ks with
  | nil=>cases h2
  | cons k q=>
   cases j with
   | zero=>simp [kU]
   | succ j=>
    simp only [List.take_succ_cons,kU,List.getElem_cons_succ];rw [ih (by simpa using h1) (by simpa using h2),Bool.and_assoc]
theorem G5 {ps:List Int} {ks:List Tr}:∀ {j:Nat} (h1:j<ps.length) (h2:j<ks.length),dQ ps[j] [ks[j].lab]=false→kU ps ks=false:=by
 induction ps generalizing ks with
 | nil=>intro j h;cases h
 | cons p r ih=>
  intro j h1 h2 hb;cases ks with
  | nil=>cases h2
  | cons k q=>
   cases j with
   | zero=>
    rw [kU];have hb':dQ p [k.lab]=false:=hb;rw [hb'];rfl
   | succ j=>
    rw [kU,ih (j:=j) (by simpa using h1) (by simpa using h2) (by simpa using hb),Bool.and_false]
set_option maxRecDepth 100000 in
set_option maxHeartbeats 8000000 in
theorem uN {W u:World} {C Mo D K P B:Nat} {E:dH} {vl:Value} {L:List Loc} {deep at_:Int} {cH dB:Value} {dc pc:Array Value} (h:CS W u C Mo D K P B E vl L deep at_ cH dB dc pc) (hmv:dw W) {X:Nat} {k0 m0 l0 ctx:Int} {ka:Option Addr} {kc:Nat} {ks:List Tr} {q0 q1 q2 q3 q4 q5:Value} {t:ByteArray} {n1:Int} {n2:Value} (alone:Bool) (p:Nat)
  (hX:aH u X (jh k0 m0 (.slice ka ks.length kc) gG q0 q1 q2 q3 q4 q5 l0 ctx) 345) (hks:bW 1 zS (hide (fun i=>decide (i=X)) u) ka ks) (hkc:ks.length≤kc) (hkn:ks.length≤1000) (ht:t.size≤10000) (hXW:W.heap.size≤X) (hXB:B≤X) (hn2:∃ a b c,n2=.slice a b c) :
  Calls Tryz.prog 338 #[.pointer (some ⟨C,0,none⟩),.agg #[.int .i64 18,.string t,.int .i64 n1,n2],.pointer (some ⟨X,0,none⟩),.int .i64 (p:Nat),.bool alone] u (G0 u X k0 m0 (.slice ka ks.length kc) ctx (qV E ctx alone t ks p)):=by
 obtain⟨T,hT⟩:∃ T,qV E ctx alone t ks p=T:=⟨_,rfl⟩;rw [hT];unfold qV at hT;obtain⟨na,nb,nc,rfl⟩:=hn2;have Ya:=Z_ hks;have tC:=Z_ hmv;obtain⟨nk,hnk⟩:∃ nk,ks.length=nk:=⟨_,rfl⟩;rw [hnk] at hX hkc hkn ⊢;have Yb:=Z_ hnk;have hE0:=(aB.refl (fun _=>False) u).alloc (.cells #[.int .i64 18,.string t,.int .i64 n1,.slice na nb nc] 24);have HC:=Z_ (h.extend hE0);have HN:=Z_ (aH.made u #[.int .i64 18,.string t,.int .i64 n1,.slice na nb nc] 24);have HX:=Z_ (hX.ext hE0);have HE:=Z_ hE0;have hXl:=hX.lt;obtain⟨N,hN⟩:∃ N,u.heap.size=N:=⟨_,rfl⟩;rw [hN] at HN hXl;clear hE0 h hX hks hmv hnk;go_enter Tryz.func338,Tryz.ntmps338
 go_upto_region 1 with (fail)
 try rw [hN]
 generalize u.alloc (.cells #[.int .i64 18,.string t,.int .i64 n1,.slice na nb nc] 24)=u1 at *;clear hN;have hnc:=HN.out.cell;go_wp2_with fail
 refine(zT HC.out tC.out t ht).mono ?_
 rintro e w2 ⟨fv,rfl,hfa,hE2⟩;obtain⟨Q,hQ⟩:∃ Q,j_ E t=Q:=⟨_,rfl⟩;have hns:=fun f s b e=>xw t ht (E:=E) (f:=f) (s:=s) (b:=b) (hQ.trans e)
 rw [hQ] at hfa hT ⊢;obtain⟨f,s,G6⟩:=Q;have lM:=Z_ (hns f s G6 rfl);replace hfa:eC W f fv:=hfa;obtain⟨a9,m9,c9,d9,rfl,-,hva,hms,-,-,hd9,hd8⟩:=hfa;simp only at hT;have HT:=Z_ hT;have qW:=hE2.alloc (.cells #[.string f.modn,.slice a9 f.vars.length m9,.slice c9 f.procs.length d9] 37);have HF:=Z_ (aH.made w2 #[.string f.modn,.slice a9 f.vars.length m9,.slice c9 f.procs.length d9] 37);have HV:=Z_ (fun (w:World) (hE:Ext W w)=>(hva.mono hE.size fun _ _ _ hb h=>dY.ext hE hb h:bW 6 dY w c9 f.procs));have HI:=Z_ hva;have wV:=Z_ (HC.out.extend qW);have Xj:=Z_ (HX.out.ext qW);have wR:=Z_ (HE.out.ext qW);have zU:=Z_ hms;obtain⟨F,hF⟩:∃ F,w2.heap.size=F:=⟨_,rfl⟩;rw [hF] at HF;have Yc:=Z_ (show X<F by have h1:=HX.out.lt;have h2:=hE2.size;omega)
 have HWX:=Z_ hXW;have GG:=Z_ hXB;clear hE2 qW hva hT hms hnc HC HN HX HE hQ hns;go_upto_region 2 with (fail)
 try rw [hF]
 generalize w2.alloc (.cells #[.string f.modn,.slice a9 f.vars.length m9,.slice c9 f.procs.length d9] 37)=u3 at *;clear hF;have hfc:=HF.out.cell;obtain⟨np,hnp⟩:∃ np,f.procs.length=np:=⟨_,rfl⟩;rw [hnp] at hfc hd9;have zV:=Z_ hnp;obtain⟨fm,hfm⟩:∃ fm,f.modn=fm:=⟨_,rfl⟩;rw [hfm] at hfc;have J0:=Z_ hfm;have ac6:np≤9223372036854775807:=by unfold maxLen at hd8;omega
 clear hnp hfm;go_wp2_with fail
 clear hfc;go_loopw [13,30] (fun fd i wr=>∃ (k:Nat) (o:Option aI),k≤np∧i=.int .i64 (k:Nat)∧fd=.bool o.isSome∧Hid ((if G6=true then nV (f.procs.take k) s else none)=o)∧Hid (SG W u3 wr X k0 m0 (.slice ka nk kc) gG l0 ctx o)) (fun _ i _=>np-(intOf i).toNat)
 case atStart=>exact⟨0,none,Nat.zero_le _,rfl,rfl,Z_ (by split<;>rfl),Z_ ⟨aB.refl _ _,_,_,_,_,_,_,Xj.out,fun p h=>by cases h⟩⟩
 case round=>
  obtain⟨k,o,hk,rfl,rfl,HO,DW⟩:=hrel;have SH:=Z_ (HF.out.aO DW.out.1 (by have:=Yc.out;omega));have HW4:=Z_ (wV.out.ext.trans DW.out.1 (fun i hi e=>by have:=HWX.out;omega));by_cases hlt:k<np
  ·have hki:(k:Int)<(np:Int):=by omega
   have hkd:decide ((k:Int)<(np:Int))=true:=by simpa using hki
   have hkl:k<f.procs.length:=by rw [zV.out];exact hlt
   obtain⟨b,o9,rfl,hb,hin⟩:=HI.out k hkl;obtain⟨b2,o2,e2,-,hin2⟩:=HV.out _ HW4.out k hkl;cases e2
   obtain⟨j0,j1,⟨pa,rX,j2,j6,j7,j8⟩,-⟩:=hin;obtain⟨l0',l1,⟨pa',zW,l2,-⟩,l3,l4,l5,-⟩:=hin2;have hpe:pa'=pa∧zW=rX:=by have:=(HW4.out.cell (p:=⟨b,o9+k*6+2,none⟩) hb id).symm.trans l2;rw [j2] at this;cases this;exact⟨rfl,rfl⟩
   obtain⟨rfl,rfl⟩:=hpe;have HST:=Z_ (EI (s:=s) hkl);have lS:=Z_ j6;generalize f.procs[k]=y at *;obtain⟨yn,yp,yl,yw,yg,yv⟩:=y;simp only at l0' l1 l2 l3 l4 l5 j6 j7;obtain⟨nl,hnl⟩:∃ nl,yl.length=nl:=⟨_,rfl⟩;rw [hnl] at l2;have Nv:=Z_ hnl;have HJ:=Z_ (And.intro j7 j8);clear j0 j1 j2 j6 j7 j8 hb hnl;obtain⟨G7,p0,p1,p2,p3,p4,p5,CQ,G8⟩:=DW.out;have Xk:=Z_ (aH.made wr #[.string yn,.bool yp,.slice pa' nl zW,.int .i64 yw,.bool yg,.int .i64 yv] 68);have Ce:=Z_ (CQ.alloc (.cells #[.string yn,.bool yp,.slice pa' nl zW,.int .i64 yw,.bool yg,.int .i64 yv] 68));have Nw:=Z_ (G7.alloc (.cells #[.string yn,.bool yp,.slice pa' nl zW,.int .i64 yw,.bool yg,.int .i64 yv] 68));have HO5:=Z_ G8;obtain⟨Pb,DX⟩:∃ Pb,wr.heap.size=Pb:=⟨_,rfl⟩
   rw [DX] at Xk;clear G7 CQ G8 DW;go_upto_region 6 with (fail)
   try rw [DX]
   generalize wr.alloc (.cells #[.string yn,.bool yp,.slice pa' nl zW,.int .i64 yw,.bool yg,.int .i64 yv] 68)=u5 at *;clear l0' l1 l2 l3 l4 l5 DX;have hpc:=Xk.out.cell;cases G6 with
   | false=>
    have Xl:=Z_ (show (none:Option aI)=o by have h:=HO.out;rw [if_neg (by decide)] at h;exact h);go_wp2_with fail
    go_roundw
    case rel=>exact⟨k+1,o,by omega,by go_num,rfl,Z_ (by first|exact Xl.out|(rw [if_neg (by decide)];exact Xl.out)),Z_ ⟨Nw.out,_,_,_,_,_,_,Ce.out,HO5.out⟩⟩
    case measure=>simp [intOf];omega
   | true=>
    have Xl:=Z_ (show nV (f.procs.take k) s=o by have h:=HO.out;rw [if_pos rfl] at h;exact h);by_cases hns:yn=s
    ·have hb1:(yn.toList == s.toList)=true:=by rw [hns];simp
     have Cf:=Z_ (show nV (f.procs.take (k+1)) s=some ⟨yn,yp,yl,yw,yg,yv⟩ by rw [HST.out,if_pos hns]);have Ci:=Ce.out.frozen;have hxl:=Ce.out.lt;have mW:=Ce.out.cell;unfold jh at mW;clear hns;go_wp2_with fail
     have kR:=Z_ ((((((Ce.out.set 8 (.string yn)).set 9 (.bool yp)).set 10 (.slice pa' nl zW)).set 11 (.int .i64 yw)).set 12 (.bool yg)).set 13 (.int .i64 yv));have J3:=Z_ (ak (ak (ak (ak (ak (ak Nw.out 8 (.string yn)) 9 (.bool yp)) 10 (.slice pa' nl zW)) 11 (.int .i64 yw)) 12 (.bool yg)) 13 (.int .i64 yv));go_roundw
     case rel=>exact⟨k+1,some ⟨yn,yp,yl,yw,yg,yv⟩,by omega,by go_num,rfl,Z_ (by first|exact Cf.out|(rw [if_pos rfl];exact Cf.out)),Z_ ⟨J3.out,_,_,_,_,_,_,kR.out,fun p h=>by cases h;exact⟨rfl,rfl,⟨pa',zW,by rw [Nv.out],lS.out,HJ.out.1,HJ.out.2⟩,rfl,rfl,rfl⟩⟩⟩
     case measure=>simp [intOf];omega
    ·have hb1:(yn.toList == s.toList)=false:=by rw [ByteArray.toList_eq,ByteArray.toList_eq];simpa using fun e=>hns (ByteArray.ext (Array.toList_inj.1 e))
     have Cf:=Z_ (show nV (f.procs.take (k+1)) s=o by rw [HST.out,if_neg hns];exact Xl.out);clear hns;go_wp2_with fail
     go_roundw
     case rel=>exact⟨k+1,o,by omega,by go_num,rfl,Z_ (by first|exact Cf.out|(rw [if_pos rfl];exact Cf.out)),Z_ ⟨Nw.out,_,_,_,_,_,_,Ce.out,HO5.out⟩⟩
     case measure=>simp [intOf];omega
  ·obtain rfl:k=np:=by omega
   have hkd:decide ((k:Int)<(k:Int))=false:=by simp
   have SI:=Z_ (show (if G6=true then nV f.procs s else none)=o by have h:=HO.out;rw [List.take_of_length_le (by rw [zV.out];exact Nat.le_refl _)] at h;exact h);have HT2:=Z_ (show DY fm s ctx alone ks p o=T by have h:=HT.out;rw [SI.out,J0.out] at h;exact h);have yA:=Z_ (fun (u':World) (hg:aB (fun i=>i=X) u3 u')=>(show aB (fun i=>i=X) u u' from(wR.out.weak fun _ _ e=>e.elim).then hg));clear HO HT SI HV HI;cases o with
   | none=>
    have pJ:=Z_ (show T=.bad 4 p from HT2.out.symm);have hg0:=yA.out _ DW.out.1;go_wp2_with fail
    refine(eY 4 (p:Nat) _).mono ?_
    rintro e w8 ⟨rfl,rfl⟩;go_wp2_with fail
    exact⟨rfl,hg0,by rw [pJ.out]⟩
   | some y=>
    obtain⟨G7,p0,p1,p2,p3,p4,p5,CQ,G8⟩:=DW.out;obtain⟨rfl,rfl,⟨pa,rX,rfl,hpi,hp1,hp2⟩,rfl,rfl,rfl⟩:=G8 _ rfl;obtain⟨yn,yp,yl,yw,yg,yv⟩:=y;simp only at hpi hp1 hp2 CQ;have lS:=Z_ (fun (w:World) (hE:Ext W w)=>(hpi.mono hE.size fun _ _ _ hb h=>gh.ext hE hb h:bW 1 gh w pa yl));obtain⟨nl,hnl⟩:∃ nl,yl.length=nl:=⟨_,rfl⟩;rw [hnl] at hp1 CQ;have Nv:=Z_ hnl;have HT3:=Z_ (show (if nl≠nk then (.bad 6 p:Rz (mG×Int)) else if (yg || alone)=false then .bad 3 p else if kU yl ks=false then .bad 7 p else if dQ yw [ctx]=false then .bad 7 p else .ok (⟨-1,fm,s,0,0⟩,yv))=T by have h:=HT2.out;unfold DY at h;simp only at h;rw [hnl,Yb.out] at h;exact h);have J4:=Z_ CQ;have OA:=Z_ G7;clear hpi hnl G7 CQ G8 HT2 DW;have mW:=J4.out.cell;have Ci:=J4.out.frozen
    have hxl:=J4.out.lt;unfold jh at mW;go_wp2_with fail
    refine(dK 4 (p:Nat) _).mono ?_
    rintro e w8 ⟨rfl,rfl⟩;have Yd:=Z_ (aH.made w8 #[.string yn,.bool yp,.slice pa nl rX,.int .i64 yw,.bool yg,.int .i64 yv] 68);have CU:=Z_ (J4.out.alloc (.cells #[.string yn,.bool yp,.slice pa nl rX,.int .i64 yw,.bool yg,.int .i64 yv] 68));have SJ:=Z_ (OA.out.alloc (.cells #[.string yn,.bool yp,.slice pa nl rX,.int .i64 yw,.bool yg,.int .i64 yv] 68));have OC:=Z_ (SH.out.alloc (.cells #[.string yn,.bool yp,.slice pa nl rX,.int .i64 yw,.bool yg,.int .i64 yv] 68));obtain⟨Pb,DX⟩:∃ Pb,w8.heap.size=Pb:=⟨_,rfl⟩;rw [DX] at Yd hxl;go_upto_region 11 with (fail)
    try rw [DX]
    generalize w8.alloc (.cells #[.string yn,.bool yp,.slice pa nl rX,.int .i64 yw,.bool yg,.int .i64 yv] 68)=u7 at *;clear mW Ci DX SH J4 OA;have HXP:=Z_ (show X<Pb from hxl);have Ci:=CU.out.frozen;have hx7:=CU.out.lt;have mW:=CU.out.cell;unfold jh at mW;have hfc:=OC.out.cell;rw [J0.out] at hfc;go_upto_region 12 with (fail)
    have Cj:=Z_ (((((CU.out.set 3 (.int .i64 (-1))).set 4 (.string fm)).set 5 (.string s)).set 6 (.int .i64 0)).set 7 (.int .i64 0));have Cj:=Z_ (show aH _ X (jh k0 m0 (.slice ka nk kc) ⟨-1,fm,s,0,0⟩ (.string yn) (.bool yp) (.slice pa nl rX) (.int .i64 yw) (.bool yg) (.int .i64 yv) l0 ctx) 345 from Cj.out);have QZ:=Z_ (ak (ak (ak (ak (ak SJ.out 3 (.int .i64 (-1))) 4 (.string fm)) 5 (.string s)) 6 (.int .i64 0)) 7 (.int .i64 0));have Ye:=Z_ (Yd.out.aO (ak (ak (ak (ak (ak (aB.refl (fun i=>i=X) u7) 3 (.int .i64 (-1))) 4 (.string fm)) 5 (.string s)) 6 (.int .i64 0)) 7 (.int .i64 0)) (by have:=HXP.out;omega));clear Ci hx7 mW hfc CU SJ Yd OC hxl;generalize ((((u7.setCell ⟨X,3,none⟩ (.int .i64 (-1))).setCell ⟨X,4,none⟩ (.string fm)).setCell ⟨X,5,none⟩ (.string s)).setCell ⟨X,6,none⟩ (.int .i64 0)).setCell ⟨X,7,none⟩ (.int .i64 0)=u8 at *
    have mW:=Cj.out.cell;unfold jh at mW;have hqc:=Ye.out.cell;by_cases hlk:nl=nk
    ·subst hlk
     have hle:((nl:Int) == (nl:Int))=true:=by simp
     have hle2:(nl == nl)=true:=by simp
     have HT4:=Z_ (show (if (yg || alone)=false then (.bad 3 p:Rz (mG×Int)) else if kU yl ks=false then .bad 7 p else if dQ yw [ctx]=false then .bad 7 p else .ok (⟨-1,fm,s,0,0⟩,yv))=T by have h:=HT3.out;rw [if_neg (fun h=>h rfl)] at h;exact h);clear HT3;go_still_tail 10,(by kernel_rfl)
     go_wp2_with fail
     refine(dK 6 (p:Nat) _).mono ?_
     rintro e w9 ⟨rfl,rfl⟩;have kR:=Z_ (show aH u8.drew X _ _ from Cj.out);have SK:=Z_ (show aH u8.drew Pb _ _ from Ye.out);have J3:=Z_ (QZ.out.drew);clear mW hqc Cj Ye QZ hle hle2;generalize u8.drew=u9 at *;by_cases hga:(yg || alone)=true
     ·have J5:=Z_ (show (if kU yl ks=false then (.bad 7 p:Rz (mG×Int)) else if dQ yw [ctx]=false then .bad 7 p else .ok (⟨-1,fm,s,0,0⟩,yv))=T by have h:=HT4.out;rw [if_neg (by rw [hga];decide)] at h;exact h)
      have hqc:=SK.out.cell;have mW:=kR.out.cell;unfold jh at mW;have hkey:yg=true∨(yg=false∧alone=true):=by cases yg<;>simp_all
      clear hga HT4;go_upto_region 13 with (fail)
      go_cut [] (fun w'=>w'=u9)
      case first=>
       rcases hkey with rfl|⟨rfl,rfl⟩
       all_goals
        go_wp2_with fail
        refine(dK 3 (p:Nat) _).mono ?_
        rintro e w9 ⟨rfl,rfl⟩;go_wp2_with fail
        go_meet
        exact rfl
      case rest=>
       clear hkey;generalize wc=w9 at *;subst hcut;go_wp2_with fail
       clear hqc mW;go_loopw [83] (fun i wr=>∃ j:Nat,j≤nl∧i=.int .i64 (j:Nat)∧Hid (kU (yl.take j) (ks.take j)=true)∧Hid (Ext w9 wr)) (fun i _=>nl-(intOf i).toNat)
       case atStart=>exact⟨0,Nat.zero_le _,rfl,Z_ (by simp [kU]),Z_ (aB.refl _ _)⟩
       case round=>
        obtain⟨j,hj,rfl,HA,HZ⟩:=hrel;have Ce:=Z_ (kR.out.ext HZ.out);have Nz:=Z_ (SK.out.ext HZ.out);by_cases hlt:j<nl
        ·have hji:(j:Int)<(nl:Int):=by omega
         have hjd:decide ((j:Int)<(nl:Int))=true:=by simpa using hji
         have h1:j<yl.length:=by rw [Nv.out];exact hlt
         have h2:j<ks.length:=by rw [Yb.out];exact hlt
         obtain⟨pb,po,rfl,hpb,zX⟩:=lS.out wr (wV.out.ext.trans (J3.out.ext HZ.out) (fun i hi e=>by have:=HWX.out;omega)) j h1;obtain⟨kb,ko,rfl,hkb,SL⟩:=Ya.out j h2;have NC:=jT (aC (M:=fun i=>decide (i=X)) (yA.out _ (J3.out.ext HZ.out)) fun i _ e=>by simp [e]) _ _ _ SL;obtain⟨v9,hv9,hta⟩:=jT (az _ _) _ _ _ NC;obtain⟨g2,a2,c2,r0,r1,r2,r3,r4,r5,rfl,hg2,hc2,-⟩:=mZ hta;have Yf:wr.cell? ⟨g2,14,none⟩=some (.int .i64 ks[j].lab):=hc2 14 (by decide);have tG:=Z_ (EJ h1 h2);have G9:=Z_ (G5 h1 h2);unfold gh at zX;rw [Nat.mul_one] at zX hv9;generalize yl[j]=y at zX tG G9;generalize ks[j].lab=z at Yf tG G9;clear hc2 hta SL NC h1 h2;go_upto_region 17 with (fail)
         refine ah [10,11] (fun i v _=>v=([.int .i64 (p:Nat),.pointer (some ⟨Pb,2,none⟩),.slice (some ⟨pb,po,none⟩) nl rX,.int .i64 (j:Nat),.pointer (some ⟨pb,po+j,none⟩),.int .i64 y,.pointer (some ⟨g2,0,none⟩),.pointer (some ⟨g2,0,none⟩),.pointer (some ⟨g2,14,none⟩),.int .i64 z,undef,undef]:List Value).getD i undef) (jr wr y [z] 1) (fun _ _=>True) (frame:=?Yg) (fun x=>?OD) bn.mixed (by kernel_rfl) (by kernel_rfl) (fun _ _ _ _ h _=>h) ?h0k ?stk ?OE
         case OD=>
          simp only [chain.aK,chain.fill,chain.bf,chain.aW,jJ,jK,jL,jM,jO,jP,jQ,jR,jS];exact rfl
         case h0k=>exact(aB.refl _ _).drew
         case stk=>
          iterate 12 (refine ai.cons (fun x vs u hF hm hb hd K' hK'=>?_) ?_;rotate_left)
          exact ai.nil
          ·have HF:=Z_ hF;clear hd hm hb hF;go_simp;exact hK'.out _ _ _ (rfl) trivial ⟨rfl,HF.out⟩
          ·have HF:=Z_ hF;clear hd hm hb hF;go_simp;exact hK'.out _ _ _ (rfl) trivial ⟨rfl,HF.out⟩
          ·have g_:=jr.ext hF;have hq:=(Nz.out.ext g_).cell;clear g_;have y0:x 89=.pointer (some ⟨Pb,2,none⟩):=(D_ hd 1 :);have HF:=Z_ hF;clear hd hm hb hF;go_simp;exact hK'.out _ _ _ (by simp only [y0];rfl) trivial ⟨rfl,HF.out⟩
          ·have HF:=Z_ hF;clear hd hm hb hF;go_simp;exact hK'.out _ _ _ (rfl) trivial ⟨rfl,HF.out⟩
          ·have y0:x 90=.slice (some ⟨pb,po,none⟩) nl rX:=(D_ hd 2 :);have y1:x 91=.int .i64 (j:Nat):=(D_ hd 3 :);have HF:=Z_ hF;clear hd hm hb hF;go_simp;exact hK'.out _ _ _ (by simp only [y0,y1];rfl) trivial ⟨rfl,HF.out⟩
          ·have g_:=jr.ext hF;have hq:=(g_.cell (p:=⟨pb,po+j,none⟩) hpb id).trans zX;clear g_;have y0:x 92=.pointer (some ⟨pb,po+j,none⟩):=(D_ hd 4 :);have HF:=Z_ hF;clear hd hm hb hF;go_simp;exact hK'.out _ _ _ (by simp only [y0];rfl) trivial ⟨rfl,HF.out⟩
          ·have HF:=Z_ hF;clear hd hm hb hF;go_simp;exact hK'.out _ _ _ (rfl) trivial ⟨rfl,HF.out⟩
          ·have y0:x 94=.pointer (some ⟨g2,0,none⟩):=(D_ hd 6 :);have HF:=Z_ hF;clear hd hm hb hF;go_simp;exact hK'.out _ _ _ (by simp only [y0];rfl) trivial ⟨rfl,HF.out⟩
          ·have y0:x 95=.pointer (some ⟨g2,0,none⟩):=(D_ hd 7 :);have HF:=Z_ hF;clear hd hm hb hF;go_simp;exact hK'.out _ _ _ (by simp only [y0];rfl) trivial ⟨rfl,HF.out⟩
          ·have g_:=jr.ext hF;have hq:=(g_.cell (p:=⟨g2,14,none⟩) hg2 id).trans Yf;clear g_;have y0:x 96=.pointer (some ⟨g2,14,none⟩):=(D_ hd 8 :);have HF:=Z_ hF;clear hd hm hb hF;go_simp;exact hK'.out _ _ _ (by simp only [y0];rfl) trivial ⟨rfl,HF.out⟩
          ·obtain rfl:=kF hm;have y0:x 97=.int .i64 z:=(D_ hd 9 :);have HF:=Z_ hF;clear hd hm hb hF;go_simp;exact hK'.out _ _ _ (by simp only [y0];rfl) trivial (mY HF.out rfl)
          ·obtain⟨v0,rfl⟩:=lK hm
           have y0:x 88=.int .i64 (p:Nat):=(D_ hd 0 :);have y1:x 93=.int .i64 y:=(D_ hd 5 :);have y2:x 98=v0:=((D_ hd 10) 98 (by kernel_rfl) :);obtain⟨kG,g9,rfl,uO⟩:=hF;have uy:=Z_ (show Calls Tryz.prog 283 #[.int .i64 (p:Nat),.int .i64 (y),.slice (some ⟨g9,0,none⟩) 1 1] u (ju (y) [z] (p:Nat) u) from jo (p:Nat) (y) (some ⟨g9,0,none⟩) 1 [z] u (jZ uO) (Nat.le_refl _) (by simp));have yB:=Z_ kG;clear hd hm hb kG uO;go_simp;refine uy.out.mono ?_
           rintro e u2 ⟨hy1,hy2,rfl⟩;cases hfl:dQ (y) [z] with
           | true=>
            obtain rfl:=hy1 hfl;exact hK'.out _ _ _ (by simp only [y0,y1,y2];rfl) trivial ⟨hfl,yB.out⟩
           | false=>
            obtain rfl:=hy2 hfl;go_wp2_with fail
            exact⟨rfl,(yA.out _ ((J3.out.ext HZ.out).ext yB.out)),by rw [←J5.out,if_pos (G9.out hfl)]⟩
         case OE=>
          intro x9 qj w9 hl hF hk9;obtain⟨v0,v1,rfl⟩:=CV hl
          obtain⟨hfl,kG⟩:=hF;have yB:=Z_ kG;have HAJ:=Z_ (show kU (yl.take (j+1)) (ks.take (j+1))=true by rw [tG.out,HA.out,hfl];rfl);clear hk9 hl hfl kG;go_wp2_with fail
          go_roundw
          case rel=>exact⟨j+1,by omega,by go_num,HAJ,Z_ (HZ.out.ext yB.out)⟩
          case measure=>simp [intOf];omega
        ·obtain rfl:j=nl:=by omega
         have hjd:decide ((j:Int)<(j:Int))=false:=by simp
         have Q3:=Z_ (show (if dQ yw [ctx]=false then (.bad 7 p:Rz (mG×Int)) else .ok (⟨-1,fm,s,0,0⟩,yv))=T by
          have h:=J5.out;have h3:=HA.out;rw [List.take_of_length_le (by rw [Nv.out];exact Nat.le_refl _),List.take_of_length_le (by rw [Yb.out];exact Nat.le_refl _)] at h3;rw [if_neg (by rw [h3];decide)] at h;exact h)
         go_upto_region 19 with (fail)
         refine ah [7,8] (fun i v _=>v=([.int .i64 (p:Nat),.pointer (some ⟨Pb,3,none⟩),.int .i64 yw,.pointer (some ⟨X,0,none⟩),.pointer (some ⟨X,0,none⟩),.pointer (some ⟨X,15,none⟩),.int .i64 ctx,undef,undef]:List Value).getD i undef) (jr wr yw [ctx] 1) (fun _ _=>True) (frame:=?Yh) (fun x=>?OG) bn.mixed (by kernel_rfl) (by kernel_rfl) (fun _ _ _ _ h _=>h) ?Yi ?Yj ?OH
         case OG=>
          simp only [chain.aK,chain.fill,chain.bf,chain.aW,jJ,jK,jL,jM,jO,jP,jQ,jR,jS];exact rfl
         case Yi=>exact(aB.refl _ _).drew
         case Yj=>
          iterate 9 (refine ai.cons (fun x vs u hF hm hb hd K' hK'=>?_) ?_;rotate_left)
          exact ai.nil
          ·have HF:=Z_ hF;clear hd hm hb hF;go_simp;exact hK'.out _ _ _ (rfl) trivial ⟨rfl,HF.out⟩
          ·have HF:=Z_ hF;clear hd hm hb hF;go_simp;exact hK'.out _ _ _ (rfl) trivial ⟨rfl,HF.out⟩
          ·have g_:=jr.ext hF;have hq:=(Nz.out.ext g_).cell;clear g_;have y0:x 102=.pointer (some ⟨Pb,3,none⟩):=(D_ hd 1 :);have HF:=Z_ hF;clear hd hm hb hF;go_simp;exact hK'.out _ _ _ (by simp only [y0];rfl) trivial ⟨rfl,HF.out⟩
          ·have HF:=Z_ hF;clear hd hm hb hF;go_simp;exact hK'.out _ _ _ (rfl) trivial ⟨rfl,HF.out⟩
          ·have y0:x 104=.pointer (some ⟨X,0,none⟩):=(D_ hd 3 :);have HF:=Z_ hF;clear hd hm hb hF;go_simp;exact hK'.out _ _ _ (by simp only [y0];rfl) trivial ⟨rfl,HF.out⟩
          ·have y0:x 105=.pointer (some ⟨X,0,none⟩):=(D_ hd 4 :);have HF:=Z_ hF;clear hd hm hb hF;go_simp;exact hK'.out _ _ _ (by simp only [y0];rfl) trivial ⟨rfl,HF.out⟩
          ·have g_:=jr.ext hF;have hq:=(Ce.out.ext g_).cell;unfold jh at hq;clear g_;have y0:x 106=.pointer (some ⟨X,15,none⟩):=(D_ hd 5 :);have HF:=Z_ hF;clear hd hm hb hF;go_simp;exact hK'.out _ _ _ (by simp only [y0];rfl) trivial ⟨rfl,HF.out⟩
          ·obtain rfl:=kF hm;have y0:x 107=.int .i64 ctx:=(D_ hd 6 :);have HF:=Z_ hF;clear hd hm hb hF;go_simp;exact hK'.out _ _ _ (by simp only [y0];rfl) trivial (mY HF.out rfl)
          ·obtain⟨v0,rfl⟩:=lK hm
           have y0:x 101=.int .i64 (p:Nat):=(D_ hd 0 :);have y1:x 103=.int .i64 yw:=(D_ hd 2 :);have y2:x 108=v0:=((D_ hd 7) 108 (by kernel_rfl) :);obtain⟨kG,g9,rfl,uO⟩:=hF;have uy:=Z_ (show Calls Tryz.prog 283 #[.int .i64 (p:Nat),.int .i64 (yw),.slice (some ⟨g9,0,none⟩) 1 1] u (ju (yw) [ctx] (p:Nat) u) from jo (p:Nat) (yw) (some ⟨g9,0,none⟩) 1 [ctx] u (jZ uO) (Nat.le_refl _) (by simp));have yB:=Z_ kG;clear hd hm hb kG uO;go_simp;refine uy.out.mono ?_
           rintro e u2 ⟨hy1,hy2,rfl⟩;cases hfl:dQ (yw) [ctx] with
           | true=>
            obtain rfl:=hy1 hfl;exact hK'.out _ _ _ (by simp only [y0,y1,y2];rfl) trivial ⟨hfl,yB.out⟩
           | false=>
            obtain rfl:=hy2 hfl;go_wp2_with fail
            exact⟨rfl,(yA.out _ ((J3.out.ext HZ.out).ext yB.out)),by rw [←Q3.out,if_pos hfl]⟩
         case OH=>
          intro x9 qj w9 hl hF hk9;obtain⟨v0,v1,rfl⟩:=CV hl
          obtain⟨hfl,kG⟩:=hF;have J4:=Z_ (Ce.out.ext kG);have OA:=Z_ (((J3.out.ext HZ.out).ext kG));have hqc:=(Nz.out.ext kG).cell;have Ci:=J4.out.frozen;have hxl:=J4.out.lt;have mW:=J4.out.cell;unfold jh at mW;have OI:=Z_ (show T=.ok (⟨-1,fm,s,0,0⟩,yv) by rw [←Q3.out,if_neg (by rw [hfl];decide)]);clear hk9 hl hfl kG;go_wp2_with fail
          go_end0
          have CU:=Z_ (J4.out.set 14 (.int .i64 yv));refine⟨yA.out _ (ak OA.out 14 (.int .i64 yv)),?_⟩
          rw [OI.out];exact⟨rfl,⟨by show fm.size≤maxLen;rw [←J0.out];exact zU.out,lM.out⟩,_,_,_,_,_,_,CU.out⟩
     ·obtain⟨rfl,rfl⟩:yg=false∧alone=false:=by cases yg<;>cases alone<;>simp_all
      have pJ:=Z_ (show T=.bad 3 p by have h:=HT4.out;first|exact h.symm|(rw [if_pos rfl] at h;exact h.symm)|(simp at h;exact h.symm));have hg0:=yA.out _ J3.out;have hqc:=SK.out.cell;clear HT4 hga;go_wp2_with fail
      refine(eY 3 (p:Nat) _).mono ?_
      rintro e w9 ⟨rfl,rfl⟩;go_wp2_with fail
      exact⟨rfl,hg0,by rw [pJ.out]⟩
    ·have hle:((nl:Int) == (nk:Int))=false:=beq_eq_false_iff_ne.2 (by omega)
     have hle2:(nl == nk)=false:=beq_eq_false_iff_ne.2 hlk;have pJ:=Z_ (show T=.bad 6 p by have h:=HT3.out;rw [if_pos hlk] at h;exact h.symm);have hg0:=yA.out _ QZ.out;clear HT3 hlk;go_still_tail 10,(by kernel_rfl)
     go_wp2_with fail
     refine(eY 6 (p:Nat) _).mono ?_
     rintro e w9 ⟨rfl,rfl⟩;go_wp2_with fail
     exact⟨rfl,hg0.drew,by rw [pJ.out]⟩
end chk
end Go.Proofs.YtpcihajmcejliacGreatDoor
