/- The walk of the checker's expr: expressions. The walk of the checker's make: a local more. What the walks of statements and blocks share. -/
import Derived.Deep.CutBlock
import Derived.Deep.DeepCutAuto
import Derived.Test.YtpcihajmcejliacGreatDoorChkCo
namespace Go.Proofs.YtpcihajmcejliacGreatDoor
open Go.RowKit
namespace chk
open bu cG
theorem CS.far {W u u':World} {C Mo D K P B:Nat} {E:dI} {vl:Value} {L:List Loc} {deep at_:Int} {cO dw:Value} {dc pc:Array Value} (h:CS W u C Mo D K P B E vl L deep at_ cO dw dc pc) {S:Nat→Prop} (hC:aB S u u') (hS:∀ i,S i→B≤i) (hL:∀ i,vl.ownBlock=some i→¬ S i):CS W u' C Mo D K P B E vl L deep at_ cO dw dc pc:=by
 obtain⟨n,hn,hk⟩:=h.k;have h1:=h.hC;have h2:=h.hM;have h3:=h.hK;have h4:=h.hP;have h5:=h.cB;have h6:=h.mB;have h7:=h.kB;have h8:=h.pB
 exact⟨h.ext.trans hC (fun i hi e=>by have:=hS i e;omega),h.c.aK hC (fun e=>by have:=hS _ e;omega),h.mo.aK hC (fun e=>by have:=hS _ e;omega),h.d,h.own,⟨n,hn,hk.aK hC (fun e=>by have:=hS _ e;omega)⟩,h.p.aK hC (fun e=>by have:=hS _ e;omega),kL h.loc FG hC hL,h1,h2,h3,h4,h5,h6,h7,h8,h.cM,h.cK,h.cP,h.mK,h.mP,h.kP,Nat.le_trans h.hu hC.size⟩
theorem zH {u:World} {X B:Nat} {k m:Int} {row:Value} {ks:List Tr} {r:nD} {p0 p1 p2 p3 p4 p5:Value} {lab ctx:Int} (hX:aC u X (jr k m row r p0 p1 p2 p3 p4 p5 lab ctx) 345) (hG:Grow 1 219 AK (X+1) u row ks) (hB:B≤X) (hr:vX r):qY (hide (below B) u) (.mk k m ks r lab ctx) (.pointer (some ⟨X,0,none⟩)):=by
 obtain⟨a,c,rfl,h1,h2,h3⟩:=hG.row bZ rW
 have hK:bV (hide (below (X+1)) u) (hide (below B) u):=aT (Nat.le_refl _) fun i hi hm=>by
  simp only [below,decide_eq_false_iff_not] at hm ⊢;exact⟨by omega,trivial⟩
 rw [vM];refine⟨hr,X,a,c,p0,p1,p2,p3,p4,p5,rfl,by rw [bT];exact hX.lt,fun i hi=>?_,h1,h2,h3.keeps hK (kK hK)⟩
 rw [gG _ _ _ (by simp [below];omega),hX.cell]
theorem NQ:(Tryz.prog.info? 219).map (fun i=>(i.zero,i.size,i.bytes))=some (some (.pointer none),1,8):=by kernel_rfl
def Rf (u:World) (C Mo K P:Nat) (vl:Value) (deep:Int) (T:Rz Tr) (at_:Nat) (kd:Int) (e:Ending) (u':World):Prop:=aB (fun i=>i=C) u u'∧match T with
 | .bad c p=>e=.panicked (nG c (p:Nat))
 | .ok t=>∃ g,e=.returned (.pointer (some ⟨g,0,none⟩))∧u.heap.size≤g∧qY (hide (below u.heap.size) u') t (.pointer (some ⟨g,0,none⟩))∧aC u' C (qK Mo K vl deep (at_:Nat) P) 221∧t.kd=kd
def uJ (v:Value) (P Q:World→Prop):List Value→World→Prop
 | [],u=>P u
 | [v0],u=>v0=v∧P u
 | _,u=>Q u
theorem uJ.P {v:Value} {P Q:World→Prop} {vs:List Value} {u:World} (h:uJ v P Q vs u) (hl:vs.length≤1):P u:=by
 match vs,hl,h with
 | [],_,h=>exact h
 | [_],_,h=>exact h.2
theorem GM (ks:List Tr) (y:Tr):joinL (ks ++ [y])=iM (joinL ks) y.lab:=by simp [joinL]
def zI (E:dI) (L:List Loc) (ctx:Int) (l:List Nd) (p:Nat) (ks:List Tr):Rz (List Tr):=(qZ E L ctx l p).bind fun ys=>.ok (ks++ys)
theorem JP {E:dI} {L:List Loc} {ctx:Int} {x:Nd} {r:List Nd} {p:Nat} {ks:List Tr}:zI E L ctx (x::r) p ks=match x_ E L ctx false x p with
 | .bad c q=>.bad c q
 | .ok y=>zI E L ctx r (p+fL x) (ks ++ [y]):=by
 unfold zI;rw [qZ];cases x_ E L ctx false x p with
 | bad c q=>rfl
 | ok y=>
  simp only [Rz.bind];cases qZ E L ctx r (p+fL x) with
  | bad c q=>rfl
  | ok ys=>simp
theorem Ea {k:Int} {t:ByteArray} {m:Int} {l:List Nd} (h:Form k t m l) (hk:mF k):∀ y∈l,mF y.kd:=by
 unfold mF at hk;cases h
 all_goals first
  | (exfalso;omega)
  | (intro y hy;exact absurd hy List.not_mem_nil)
  | assumption
  | (intro y hy;rw [List.mem_singleton] at hy;subst hy;assumption)
  | (intro y hy;simp only [List.mem_cons,List.not_mem_nil,or_false] at hy;rcases hy with rfl|rfl<;>assumption)
theorem oO (l:List Nd):l.length≤kV l:=by
 induction l with
 | nil=>exact Nat.le_refl _
 | cons x r ih=>have:=JQ x;simp only [List.length_cons,kV];omega
set_option maxRecDepth 100000 in
set_option maxHeartbeats 16000000 in
theorem wM {W:World} {C Mo D K P B:Nat} {E:dI} {vl:Value} {L:List Loc} {deep:Int} {cO dw:Value} {dc pc:Array Value} {ctx:Int} {H:Nat→Bool} (hmv:cE W) (hL:L.length≤1000):∀ (x:Nd),jw x→mF x.kd→∀ (v:Value) (alone:Bool) (u:World) (p:Nat),CS W u C Mo D K P B E vl L deep (p:Nat) cO dw dc pc→fN (hide H W) x v→p+fL x≤1000→
  Calls Tryz.prog 282 #[.pointer (some ⟨C,0,none⟩),v,.int .i64 ctx,.bool alone] u (Rf u C Mo K P vl deep (x_ E L ctx alone x p) (p+fL x) x.kd):=by
 refine rq fun k t m l ih=>?_
 intro his hkd v alone u p hCS hnd hsz;have hkids:=his.kids;have hform:=his.form;rw [dL] at hnd;obtain⟨a,cc,rfl,hl1,hl2,hl3,hl4⟩:=hnd;obtain⟨T,hT⟩:∃ T,x_ E L ctx alone (.mk k t m l) p=T:=⟨_,rfl⟩;rw [hT];rw [x_] at hT;have hke:=Ea hform hkd;have HIH:=Z_ (fun (y:Nd) (hy:y∈l)=>ih y hy (hkids y hy) (hke y hy));obtain⟨N,hN⟩:∃ N,l.length=N:=⟨_,rfl⟩;rw [hN] at hl1 ⊢;have HN:=Z_ hN;obtain⟨pe,hpe⟩:∃ pe,p+fL (.mk k t m l)=pe:=⟨_,rfl⟩;rw [hpe] at hsz ⊢;have Bd:p+1+kV l=pe:=by rw [←hpe];simp only [fL];omega
 have VE:=Z_ Bd;have HI:=Z_ (fun (u:World) (hE:Ext W u)=>hl4.keeps (aH hE fun i _ e=>e.elim) fun b o y=>g_ (aH hE fun i _ e=>e.elim) b o y);have uD:=Z_ hmv;have HT:=Z_ (show (zI E L ctx l (p+1) []).bind (fun ks=>ve E L ctx alone k t m ks p)=T by rw [←hT];unfold zI;cases qZ E L ctx l (p+1)<;>rfl);have JE:=Z_ (fun i e=>(bn hCS.loc i e).2);have HKD:=Z_ (show mF k from hkd);have Ux:=Z_ hL;have GG:=Z_ hCS.hu;have HCB:=Z_ hCS.cB;have HWC:=Z_ (show W.heap.size≤u.heap.size from hCS.ext.size);have hE0:=(aB.refl (fun _=>False) u).alloc (.cells #[.int .i64 k,.string t,.int .i64 m,.slice a N cc] 24);have HC:=Z_ (hCS.extend hE0);have HB:=Z_ (aC.made u #[.int .i64 k,.string t,.int .i64 m,.slice a N cc] 24)
 have HE:=Z_ (hE0.weak (S':=fun i=>i=C) fun _ _ e=>e.elim);obtain⟨Nb,hNb⟩:∃ Nb,u.heap.size=Nb:=⟨_,rfl⟩;have DW:=Z_ hNb;rw [hNb] at HB JE GG;have hNl:N≤1000:=by have h1:=oO l;omega
 have hp:p≤1000:=by omega
 clear hE0 hCS hl4 hT hkids hke ih his hkd hform hN hpe Bd hmv hL;go_enter Tryz.func282,Tryz.ntmps282
 go_upto_region 1 with (fail)
 try rw [hNb]
 generalize u.alloc (.cells #[.int .i64 k,.string t,.int .i64 m,.slice a N cc] 24)=u1 at *;go_wp2_with fail
 refine(next_any HC.out.c (by omega) (by omega)).mono ?_
 rintro e w2 ⟨rfl,hC2,hB2⟩;have HC2:=Z_ (HC.out.lQ hC2 hB2);have HB2:=Z_ (HB.out.aK hC2 (by have:=HCB.out;have:=GG.out;omega));have lG:=Z_ (HE.out.then hC2);clear hC2 hB2 HC HB HE;have hbc:=HB2.out.cell;go_upto_region 3 with (fail)
 have HX:=Z_ (show aC (w2.alloc (.cells #[.int .i64 k,.int .i64 m,.slice none 0 0,.int .i64 0,.string ⟨#[]⟩,.string ⟨#[]⟩,.int .i64 0,.int .i64 0,.string ⟨#[]⟩,.bool false,.slice none 0 0,.int .i64 0,.bool false,.int .i64 0,.int .i64 0,.int .i64 ctx] 345)) w2.heap.size #[.int .i64 k,.int .i64 m,.slice none 0 0,.int .i64 0,.string ⟨#[]⟩,.string ⟨#[]⟩,.int .i64 0,.int .i64 0,.string ⟨#[]⟩,.bool false,.slice none 0 0,.int .i64 0,.bool false,.int .i64 0,.int .i64 0,.int .i64 ctx] 345 from aC.made w2 _ _);have HB3:=Z_ (HB2.out.alloc (.cells #[.int .i64 k,.int .i64 m,.slice none 0 0,.int .i64 0,.string ⟨#[]⟩,.string ⟨#[]⟩,.int .i64 0,.int .i64 0,.string ⟨#[]⟩,.bool false,.slice none 0 0,.int .i64 0,.bool false,.int .i64 0,.int .i64 0,.int .i64 ctx] 345));have wu:=Z_ (HC2.out.extend ((aB.refl _ w2).alloc (.cells #[.int .i64 k,.int .i64 m,.slice none 0 0,.int .i64 0,.string ⟨#[]⟩,.string ⟨#[]⟩,.int .i64 0,.int .i64 0,.string ⟨#[]⟩,.bool false,.slice none 0 0,.int .i64 0,.bool false,.int .i64 0,.int .i64 0,.int .i64 ctx] 345)))
 have qW:=Z_ (lG.out.alloc (.cells #[.int .i64 k,.int .i64 m,.slice none 0 0,.int .i64 0,.string ⟨#[]⟩,.string ⟨#[]⟩,.int .i64 0,.int .i64 0,.string ⟨#[]⟩,.bool false,.slice none 0 0,.int .i64 0,.bool false,.int .i64 0,.int .i64 0,.int .i64 ctx] 345));have Eb:=lG.out.size;rw [hNb] at Eb;obtain⟨X,hX⟩:∃ X,w2.heap.size=X:=⟨_,rfl⟩;rw [hX] at HX Eb;have xU:Nb<X:=by have:=HB2.out.lt;omega
 have I8:=Z_ (show Grow 1 219 AK (X+1) (w2.alloc (.cells #[.int .i64 k,.int .i64 m,.slice none 0 0,.int .i64 0,.string ⟨#[]⟩,.string ⟨#[]⟩,.int .i64 0,.int .i64 0,.string ⟨#[]⟩,.bool false,.slice none 0 0,.int .i64 0,.bool false,.int .i64 0,.int .i64 0,.int .i64 ctx] 345)) (.slice none 0 0) [] from Grow.nil _ _ _ _ _)
 try rw [hX]
 clear hbc hX HC2 HB2 lG;generalize w2.alloc (.cells #[.int .i64 k,.int .i64 m,.slice none 0 0,.int .i64 0,.string ⟨#[]⟩,.string ⟨#[]⟩,.int .i64 0,.int .i64 0,.string ⟨#[]⟩,.bool false,.slice none 0 0,.int .i64 0,.bool false,.int .i64 0,.int .i64 0,.int .i64 ctx] 345)=u3 at *;have HX:=Z_ (show aC u3 X (jr k m (.slice none 0 0) gq (.string ⟨#[]⟩) (.bool false) (.slice none 0 0) (.int .i64 0) (.bool false) (.int .i64 0) (joinL []) ctx) 345 from HX.out);have hbc:=HB3.out.cell;have Fz:=Z_ (show C<X by have:=HCB.out;have:=GG.out;omega);have I4:=Z_ (show B≤X by have:=GG.out;omega);have I9:=Z_ xU;have HXU:=Z_ Eb;go_wp2_with fail
 clear hbc;go_loopw [26] (fun i wr=>∃ (j q:Nat) (row:Value) (ks:List Tr),j≤N∧i=.int .i64 (j:Nat)∧Hid (ks.length=j)∧Hid (q+kV (l.drop j)=pe)∧Hid ((zI E L ctx (l.drop j) q ks).bind (fun ks=>ve E L ctx alone k t m ks p)=T)∧Hid (CS W wr C Mo D K P B E vl L deep (q:Nat) cO dw dc pc∧aC wr Nb #[.int .i64 k,.string t,.int .i64 m,.slice a N cc] 24∧aC wr X (jr k m row gq (.string ⟨#[]⟩) (.bool false) (.slice none 0 0) (.int .i64 0) (.bool false) (.int .i64 0) (joinL ks) ctx) 345∧Grow 1 219 AK (X+1) wr row ks∧aB (fun i=>i=C) u wr)) (fun i _=>N-(intOf i).toNat)
 case atStart=>exact⟨0,p+1,.slice none 0 0,[],Nat.zero_le _,rfl,Z_ rfl,Z_ (by have:=VE.out;rw [List.drop_zero];exact this),HT,Z_ ⟨wu.out,HB3.out,HX.out,I8.out,qW.out⟩⟩
 clear wu HB3 HX I8 qW HT
 case round=>
  obtain⟨j,q,row,ks,hj,rfl,qL,HQ,HT,HS⟩:=hrel;by_cases hlt:j<N
  ·have hji:(j:Int)<(N:Int):=by omega
   have hjd:decide ((j:Int)<(N:Int))=true:=by simpa using hji
   have hjl:j<l.length:=by rw [HN.out];exact hlt
   obtain⟨b,o,rfl,hb,uv,hu,hus,hcl⟩:=HI.out W (aB.refl _ _) j hjl;rw [bT] at hb;have hE:=HS.out.1.ext;have hbl:=Nat.lt_of_lt_of_le hb hE.size;have NJ:=Z_ (HIH.out l[j] (List.getElem_mem hjl));have hT:=HT.out;rw [List.drop_eq_getElem_cons hjl,JP] at hT;have hQ:=HQ.out;rw [List.drop_eq_getElem_cons hjl] at hQ;simp only [kV] at hQ;generalize l[j]=y at hu hT hQ NJ;have HU:=Z_ hu;obtain⟨k1,t1,m1,a1,N1,c1,rfl⟩:=cH hu;have q0:wr.cell? ⟨b,o+j*4,none⟩=some (.int .i64 k1):=(hE.cell (p:=⟨b,o+j*4,none⟩) hb id).trans ((ah _ W).2 _ _ ((hcl 0 (by decide)).trans rfl));have q1:wr.cell? ⟨b,o+j*4+1,none⟩=some (.string t1):=(hE.cell (p:=⟨b,o+j*4+1,none⟩) hb id).trans ((ah _ W).2 _ _ ((hcl 1 (by decide)).trans rfl));have q2:wr.cell? ⟨b,o+j*4+2,none⟩=some (.int .i64 m1):=(hE.cell (p:=⟨b,o+j*4+2,none⟩) hb id).trans ((ah _ W).2 _ _ ((hcl 2 (by decide)).trans rfl))
   have q3:wr.cell? ⟨b,o+j*4+3,none⟩=some (.slice a1 N1 c1):=(hE.cell (p:=⟨b,o+j*4+3,none⟩) hb id).trans ((ah _ W).2 _ _ ((hcl 3 (by decide)).trans rfl));have I_:=(aB.refl (fun _=>False) wr).alloc (.cells #[.int .i64 k1,.string t1,.int .i64 m1,.slice a1 N1 c1] 24);have HK:=Z_ (aC.made wr #[.int .i64 k1,.string t1,.int .i64 m1,.slice a1 N1 c1] 24);have wL:=Z_ (show CS W _ C Mo D K P B E vl L deep (q:Nat) cO dw dc pc∧aC _ Nb #[.int .i64 k,.string t,.int .i64 m,.slice (some ⟨b,o,none⟩) N cc] 24∧aC _ X (jr k m row gq (.string ⟨#[]⟩) (.bool false) (.slice none 0 0) (.int .i64 0) (.bool false) (.int .i64 0) (joinL ks) ctx) 345∧Grow 1 219 AK (X+1) _ row ks∧aB (fun i=>i=C) u _ from⟨HS.out.1.extend I_,HS.out.2.1.ext I_,HS.out.2.2.1.ext I_,HS.out.2.2.2.1.aK bZ I_ (fun _ e=>e.elim),HS.out.2.2.2.2.ext I_⟩)
   have hw5:=HS.out.2.2.1.lt;have Ec:=Z_ (fun i e=>(bn HS.out.2.2.2.1 i e).2);obtain⟨Kb,hKb⟩:∃ Kb,wr.heap.size=Kb:=⟨_,rfl⟩;rw [hKb] at HK Ec hw5;have DC:=Z_ hw5;have HT2:=Z_ hT;have pI:=Z_ hQ;clear I_ hT hQ HT HQ hcl hus hu hw5 HS hE;go_upto_region 6 with (fail)
   try rw [hKb]
   have VP:(wr.alloc (.cells #[.int .i64 k1,.string t1,.int .i64 m1,.slice a1 N1 c1] 24)).heap.size=Kb+1:=by simp [hKb]
   generalize wr.alloc (.cells #[.int .i64 k1,.string t1,.int .i64 m1,.slice a1 N1 c1] 24)=u5 at *;have aa7:=Z_ VP;clear q0 q1 q2 q3 hKb VP;have hkc:=HK.out.cell;go_wp2_with fail
   refine(NJ.out _ false u5 q wL.out.1 HU.out (by have:=pI.out;omega)).mono ?_
   rintro e w6 ⟨zJ,Rh⟩;obtain⟨R6,hR6⟩:∃ R6,x_ E L ctx false y q=R6:=⟨_,rfl⟩;have hT2:=HT2.out;rw [hR6] at hT2 Rh;clear HT2 hR6 hkc;cases R6 with
   | bad c9 p9=>
    have qp:=Z_ (show T=.bad c9 p9 from hT2.symm);have iV:=wL.out.2.2.2.2.then zJ
    obtain rfl:e=_:=Rh;clear hT2;go_wp2_with fail
    refine⟨rfl,?_⟩
    rw [qp.out];exact⟨iV,rfl⟩
   | ok t6=>
    obtain⟨g6,rfl,PU,u_,hc6,GK⟩:=Rh;rw [aa7.out] at u_ PU;have zK:=Z_ (show CS W w6 C Mo D K P B E vl L deep ((q+fL y):Nat) cO dw dc pc∧aC w6 Nb #[.int .i64 k,.string t,.int .i64 m,.slice (some ⟨b,o,none⟩) N cc] 24∧aC w6 X (jr k m row gq (.string ⟨#[]⟩) (.bool false) (.slice none 0 0) (.int .i64 0) (.bool false) (.int .i64 0) (joinL ks) ctx) 345∧Grow 1 219 AK (X+1) w6 row ks∧aB (fun i=>i=C) u w6 from⟨wL.out.1.lQ zJ hc6,wL.out.2.1.aK zJ (by have:=HCB.out;have:=GG.out;omega),wL.out.2.2.1.aK zJ (by have:=Fz.out;omega),wL.out.2.2.2.1.aK bZ zJ (fun i e=>by have:=Fz.out;omega),wL.out.2.2.2.2.then zJ⟩)
    have Ri:=Z_ (show AK t6 (.pointer (some ⟨g6,0,none⟩)) (hide (bg (X+1) row) w6) from⟨fV (aT (Nat.le_refl _) fun i hi hm=>by
     simp only [below,decide_eq_false_iff_not] at hm;refine⟨?_,rfl⟩
     simp only [bg,Bool.or_eq_false_iff,decide_eq_false_iff_not];refine⟨by have:=DC.out;omega,fun e=>?_⟩
     have:=Ec.out i e;omega) _ _ u_,g6,rfl⟩)
    have MN:=Z_ (show (zI E L ctx (l.drop (j+1)) (q+fL y) (ks ++ [t6])).bind (fun ks=>ve E L ctx alone k t m ks p)=T from hT2);have QL:=Z_ PU;clear zJ u_ hc6 GK hT2 PU wL HK;obtain⟨ra,rc,hrow,-,-⟩:=dZ zK.out.2.2.2.1;rw [qL.out] at hrow;subst hrow;obtain⟨us,hu1,ho,hu3⟩:=zK.out.2.2.2.1.ex;rw [qL.out] at ho;have HO:=Z_ ho;have I5:=Z_ (And.intro hu1 hu3);obtain⟨iW,iY,hz0,hz1,hz2⟩:=aW NQ;clear ho hu1 hu3;have mg:=zK.out.2.2.1.cell;have Dw:=zK.out.2.2.1.frozen;have hxl:=zK.out.2.2.1.lt;unfold jr at mg;go_upto_region 8 with (at_builtin;refine wpList_append_lies _ rfl _ _ 341 rfl (X+1) 219 iW (.pointer none) 1 8 Tryz.underlying341 iY hz0 hz1 hz2 rfl (by decide) (.slice ra j rc) j (us.flatMap fun u=>u.cells.toList) rfl (HO.out.alloc _) ⟨w6.heap.size,0,none⟩ 1 1 [.pointer (some ⟨g6,0,none⟩)] rfl rfl (by intro j z_ hj;have e:(⟨w6.heap.size,0,none⟩:Addr).add j=⟨w6.heap.size,j,none⟩:=(by unfold Addr.add;split<;>simp_all);rw [e,(aC.made w6 _ _).cell];simpa using hj) (by intro z_ mN;simp only [List.mem_cons,List.not_mem_nil,or_false] at mN;subst mN;rfl) (by decide) (by unfold maxLen;omega) (by omega) (by simp;omega) (w6.heap.size+1) (by simp) ?_;intro g c' w9 hown hgrow hat hlt1;have qH:=Z_ (oM bZ I5.out.1 I5.out.2 (x:=t6) (v:=.pointer (some ⟨g6,0,none⟩)) Ri.out rfl (by rw [qL.out];exact hown) hgrow hat);have kO:=Z_ (zK.out.2.2.1.aK qH.out.2 (fun e=>by have:=Ec.out _ e;have h2:=bn zK.out.2.2.2.1 _ e;omega));have q1:=kO.out.cell;have PS:=kO.out.frozen;have PT:=kO.out.lt;unfold jr at q1;clear hown hgrow hat mg Dw hxl)
    rw [qL.out] at qH;have hgr:=qH.out.1;have hgc:=qH.out.2;have JR:=ai (S:=X) (aB.refl _ w9) 2 (.slice (some ⟨g,0,none⟩) (j+1) c');have hrl:∀ i,(Value.slice ra j rc).ownBlock=some i→X+1≤i:=fun i e=>(bn zK.out.2.2.2.1 i e).1
    have MQ:=Z_ (show CS W _ C Mo D K P B E vl L deep ((q+fL y):Nat) cO dw dc pc∧aC _ Nb #[.int .i64 k,.string t,.int .i64 m,.slice (some ⟨b,o,none⟩) N cc] 24∧aC _ X (jr k m (.slice (some ⟨g,0,none⟩) (j+1) c') gq (.string ⟨#[]⟩) (.bool false) (.slice none 0 0) (.int .i64 0) (.bool false) (.int .i64 0) (joinL ks) ctx) 345∧Grow 1 219 AK (X+1) _ (.slice (some ⟨g,0,none⟩) (j+1) c') (ks ++ [t6])∧aB (fun i=>i=C) u _ from⟨(zK.out.1.far hgc (fun i e=>by have:=hrl i e;have:=I4.out;omega) (fun i e e2=>by have:=JE.out i e;have:=hrl i e2;have:=I9.out;omega)).far JR (fun i e=>by have:=I4.out;omega) (fun i e e2=>by have:=JE.out i e;have:=I9.out;omega),(zK.out.2.1.aK hgc (fun e=>by have:=hrl _ e;have:=I9.out;omega)).aK JR (by have:=I9.out;omega),kO.out.set 2 _,hgr.aK bZ JR (fun i e=>by omega),(zK.out.2.2.2.2.trans hgc (fun i hi e=>by have:=hrl i e;have:=HXU.out;omega)).trans JR (fun i hi e=>by have:=HXU.out;omega)⟩)
    have hKy:bV (hide (bg (X+1) (.slice ra j rc)) w6) (hide (bg (X+1) (.slice ra j rc)) (w9.setCell ⟨X,2,none⟩ (.slice (some ⟨g,0,none⟩) (j+1) c'))):=(aH hgc fun i _ e=>by simp [bg,e]).trans (aH JR fun i _ e=>by simp [bg,e]);have HY9:=Z_ (fV (ah _ _) _ _ (fV hKy _ _ Ri.out.1));clear q1 PS PT qH kO hgr hgc JR hrl zK Ri hKy I5 HO;generalize w9.setCell ⟨X,2,none⟩ (.slice (some ⟨g,0,none⟩) (j+1) c')=w8 at *;obtain⟨g7,ya,yb,s0,s1,s2,s3,s4,s5,e9,hy9,Rj,-⟩:=nR HY9.out;cases e9
    have VQ:w8.cell? ⟨g6,14,none⟩=some (.int .i64 t6.lab):=Rj 14 (by decide);have Vt:=Z_ (GM ks t6);obtain⟨z6,hz6⟩:∃ z6,t6.lab=z6:=⟨_,rfl⟩;rw [hz6] at VQ Vt;obtain⟨z5,VR⟩:∃ z5,joinL ks=z5:=⟨_,rfl⟩;rw [VR] at MQ Vt;clear Rj hz6 VR;refine aj [9,12] (fun i v _=>v=([.pointer (some ⟨X,0,none⟩),.pointer (some ⟨X,0,none⟩),.pointer (some ⟨X,0,none⟩),.pointer (some ⟨X,14,none⟩),.int .i64 z5,.pointer (some ⟨g6,0,none⟩),.pointer (some ⟨g6,0,none⟩),.pointer (some ⟨g6,14,none⟩),.int .i64 z6,undef,.pointer (some ⟨X,0,none⟩),.pointer (some ⟨X,14,none⟩),undef]:List Value).getD i undef) (uJ (.int .i64 (iM z5 z6)) (fun u9=>Ext w8 u9) (fun u9=>aC u9 X (jr k m (.slice (some ⟨g,0,none⟩) (j+1) c') gq (.string ⟨#[]⟩) (.bool false) (.slice none 0 0) (.int .i64 0) (.bool false) (.int .i64 0) (iM z5 z6) ctx) 345∧aB (fun i=>i=X) w8 u9)) (fun _ _=>True) (frame:=?ai5) (fun x=>?aa_) bu.mixed (by kernel_rfl) (by kernel_rfl) (fun _ _ _ _ h _=>h) ?h0j ?stj ?ab1
    case aa_=>
     simp only [chain.aN,chain.fill,chain.bf,chain.aY,jW,jX,jY,jZ,kz,kC,kD,kE,kF];exact rfl
    case h0j=>exact(aB.refl _ _).drew
    case stj=>
     iterate 13 (refine ak.cons (fun x vs u hF hm hb hd K' hK'=>?_) ?_;rotate_left)
     exact ak.nil
     ·have HF:=Z_ hF;clear hd hm hb hF;go_simp;exact hK'.out _ _ _ (rfl) trivial ⟨rfl,HF.out⟩
     ·have HF:=Z_ hF;clear hd hm hb hF;go_simp;exact hK'.out _ _ _ (rfl) trivial ⟨rfl,HF.out⟩
     ·have y0:x 45=.pointer (some ⟨X,0,none⟩):=(D_ hd 1 :);have HF:=Z_ hF;clear hd hm hb hF;go_simp;exact hK'.out _ _ _ (by simp only [y0];rfl) trivial ⟨rfl,HF.out⟩
     ·have y0:x 46=.pointer (some ⟨X,0,none⟩):=(D_ hd 2 :);have HF:=Z_ hF;clear hd hm hb hF;go_simp;exact hK'.out _ _ _ (by simp only [y0];rfl) trivial ⟨rfl,HF.out⟩
     ·have fU:=uJ.P hF (by have:=hb 0 _ (by decide) rfl (by kernel_rfl);omega);have hq:=(MQ.out.2.2.1.ext fU).cell;unfold jr at hq;clear fU;have y0:x 47=.pointer (some ⟨X,14,none⟩):=(D_ hd 3 :);have HF:=Z_ hF;clear hd hm hb hF;go_simp;exact hK'.out _ _ _ (by simp only [y0];rfl) trivial ⟨rfl,HF.out⟩
     ·have HF:=Z_ hF;clear hd hm hb hF;go_simp;exact hK'.out _ _ _ (rfl) trivial ⟨rfl,HF.out⟩
     ·have y0:x 49=.pointer (some ⟨g6,0,none⟩):=(D_ hd 5 :);have HF:=Z_ hF;clear hd hm hb hF;go_simp;exact hK'.out _ _ _ (by simp only [y0];rfl) trivial ⟨rfl,HF.out⟩
     ·have y0:x 50=.pointer (some ⟨g6,0,none⟩):=(D_ hd 6 :);have HF:=Z_ hF;clear hd hm hb hF;go_simp;exact hK'.out _ _ _ (by simp only [y0];rfl) trivial ⟨rfl,HF.out⟩
     ·have fU:=uJ.P hF (by have:=hb 0 _ (by decide) rfl (by kernel_rfl);omega);have hq:=(fU.cell (p:=⟨g6,14,none⟩) hy9 id).trans VQ;clear fU;have y0:x 51=.pointer (some ⟨g6,14,none⟩):=(D_ hd 7 :);have HF:=Z_ hF;clear hd hm hb hF;go_simp;exact hK'.out _ _ _ (by simp only [y0];rfl) trivial ⟨rfl,HF.out⟩
     ·obtain rfl:=kS hm;have y0:x 48=.int .i64 z5:=(D_ hd 4 :);have y1:x 52=.int .i64 z6:=(D_ hd 8 :);have HF:=Z_ hF;clear hd hm hb hF;go_simp;refine(wG _ _ _).mono ?_
      rintro e u2 ⟨rfl,rfl⟩;exact hK'.out _ _ _ (by simp only [y0,y1];rfl) trivial ⟨rfl,HF.out⟩
     ·have y0:x 44=.pointer (some ⟨X,0,none⟩):=(D_ hd 0 :);have HF:=Z_ hF;clear hd hm hb hF;go_simp;exact hK'.out _ _ _ (by simp only [y0];rfl) trivial ⟨rfl,HF.out⟩
     ·have y0:x 54=.pointer (some ⟨X,0,none⟩):=(D_ hd 10 :);have HF:=Z_ hF;clear hd hm hb hF;go_simp;exact hK'.out _ _ _ (by simp only [y0];rfl) trivial ⟨rfl,HF.out⟩
     ·obtain⟨v0,rfl⟩:=mD hm
      have y0:x 55=.pointer (some ⟨X,14,none⟩):=(D_ hd 11 :);have y1:x 53=v0:=((D_ hd 9) 53 (by kernel_rfl) :);obtain⟨rfl,nS⟩:=hF;have hq:=(MQ.out.2.2.1.ext nS).cell;have AL:=(MQ.out.2.2.1.ext nS).frozen;have kW:=(MQ.out.2.2.1.ext nS).lt;unfold jr at hq;have HF:=Z_ nS;clear hd hm hb nS;go_simp;exact hK'.out _ _ undef (by simp only [y0,y1];rfl) trivial ⟨(MQ.out.2.2.1.ext HF.out).set 14 _,ai (HF.out.weak fun _ _ e=>e.elim) 14 _⟩
    case ab1=>
     intro x9 qX w7 hl hF hk9;obtain⟨v0,v1,rfl⟩:=DT hl
     obtain⟨VS,DD⟩:=hF;have HS7:=Z_ (show CS W w7 C Mo D K P B E vl L deep ((q+fL y):Nat) cO dw dc pc∧aC w7 Nb #[.int .i64 k,.string t,.int .i64 m,.slice (some ⟨b,o,none⟩) N cc] 24∧aC w7 X (jr k m (.slice (some ⟨g,0,none⟩) (j+1) c') gq (.string ⟨#[]⟩) (.bool false) (.slice none 0 0) (.int .i64 0) (.bool false) (.int .i64 0) (joinL (ks ++ [t6])) ctx) 345∧Grow 1 219 AK (X+1) w7 (.slice (some ⟨g,0,none⟩) (j+1) c') (ks ++ [t6])∧aB (fun i=>i=C) u w7 from⟨MQ.out.1.far DD (fun i e=>by have:=I4.out;omega) (fun i e e2=>by have:=JE.out i e;have:=I9.out;omega),MQ.out.2.1.aK DD (by have:=I9.out;omega),by rw [Vt.out];exact VS,MQ.out.2.2.2.1.aK bZ DD (fun i e=>by omega),MQ.out.2.2.2.2.trans DD (fun i hi e=>by have:=HXU.out;omega)⟩);clear hk9 hl VS DD;go_wp2_with fail
     go_roundw
     case rel=>exact⟨j+1,q+fL y,_,ks ++ [t6],by omega,by go_num,Z_ (by rw [List.length_append,qL.out];rfl),Z_ (by have:=pI.out;omega),MN,HS7⟩
     case measure=>simp [intOf];omega
  ·obtain rfl:j=N:=by omega
   have hjd:decide ((j:Int)<(j:Int))=false:=by simp
   have hT:=HT.out;have hQ:=HQ.out;rw [List.drop_of_length_le (by rw [HN.out];exact Nat.le_refl _)] at hT hQ;have hR0:zI E L ctx [] q ks=.ok ks:=by unfold zI;simp [qZ,Rz.bind]
   rw [hR0] at hT;obtain rfl:q=pe:=hQ;have MR:=Z_ (show ve E L ctx alone k t m ks p=T from hT);obtain⟨ra,rc,hrow,hr1,hr2,hr3⟩:=HS.out.2.2.2.1.row bZ rW;have HKR:=Z_ hr3;have VT:u.heap.size≤X:=by have:=DW.out;have:=I9.out;omega
   have zu:=Z_ VT;clear hT hR0 HT HQ hr3 VT HIH HI;subst hrow;have hbc:=HS.out.2.1.cell;by_cases h67:k=16∨k=17
   ·have Zt:=Z_ (show ((vY E L t p).bind fun r=>if decide (0<r.size)=decide (k=17) then (.ok (.mk k m ks r (iM (joinL ks) r.label) ctx):Rz Tr) else .bad 3 p)=T by have h:=MR.out;unfold ve at h;rw [if_pos h67] at h;exact h)
    have HV:=Z_ (zq HS.out.1 uD.out t hl3 Ux.out p);obtain⟨RV,VU⟩:∃ RV,vY E L t p=RV:=⟨_,rfl⟩;rw [VU] at Zt HV;have H67:=Z_ h67;clear VU MR h67;go_upto_if 59 with (fail)
    go_cut [59] (fun s w'=>s=.bool true∧w'=wr)
    case first=>
     rcases H67.out with rfl|rfl
     all_goals
      go_wp2_with fail
      go_meet
      exact⟨rfl,rfl⟩
    case rest=>
     obtain⟨rfl,hwc⟩:=hcut;subst hwc;go_wp2_with fail
     refine HV.out.mono ?_
     rintro e w7 ⟨vO,h7⟩;cases RV with
     | bad c9 p9=>
      have qp:=Z_ (show T=.bad c9 p9 from Zt.out.symm);obtain rfl:e=_:=h7;have iV:=HS.out.2.2.2.2.trans vO (fun i hi e=>e.elim);go_wp2_with fail
      refine⟨rfl,?_⟩
      rw [qp.out];exact⟨iV,rfl⟩
     | ok r=>
      obtain⟨rfl,hro⟩:=h7;have HRO:=Z_ hro;obtain⟨r0,r1,r2,r3,r4⟩:=r;unfold Vp;have Zu:=Z_ (show (if decide (0<r4)=decide (k=17) then (.ok (.mk k m ks ⟨r0,r1,r2,r3,r4⟩ (iM (joinL ks) r3) ctx):Rz Tr) else .bad 3 p)=T from Zt.out);have AA:=Z_ (HS.out.2.2.1.ext vO);have Zv:=Z_ (HS.out.2.1.ext vO);have ML:=Z_ (HS.out.2.2.2.1.aK bZ vO (fun _ e=>e.elim));have HC7:=Z_ (HS.out.1.extend vO);have Rk:=Z_ (HS.out.2.2.2.2.ext vO);clear hro Zt HV vO hbc HS;have mg:=AA.out.cell;have Dw:=AA.out.frozen;have hxl:=AA.out.lt;unfold jr at mg;go_upto_region 14 with (fail)
      have DD:=ai (ai (ai (ai (ai (S:=X) (aB.refl _ w7) 3 (.int .i64 r0)) 4 (.string r1)) 5 (.string r2)) 6 (.int .i64 r3)) 7 (.int .i64 r4);have Dy:=Z_ (((((AA.out.set 3 (.int .i64 r0)).set 4 (.string r1)).set 5 (.string r2)).set 6 (.int .i64 r3)).set 7 (.int .i64 r4));replace Dy:=Z_ (show aC _ X (jr k m (.slice ra ks.length rc) ⟨r0,r1,r2,r3,r4⟩ (.string ⟨#[]⟩) (.bool false) (.slice none 0 0) (.int .i64 0) (.bool false) (.int .i64 0) (joinL ks) ctx) 345 from Dy.out);have HB8:=Z_ (Zv.out.aK DD (by have:=I9.out;omega));have Uw:=Z_ (ML.out.aK bZ DD (fun i e=>by omega));have HC8:=Z_ (HC7.out.far DD (fun i e=>by have:=I4.out;omega) (fun i e e2=>by have:=JE.out i e;have:=I9.out;omega));have HE8:=Z_ (Rk.out.trans DD (fun i hi e=>by have:=zu.out;omega))
      clear mg Dw hxl DD AA Zv ML HC7 Rk;generalize ((((w7.setCell ⟨X,3,none⟩ (.int .i64 r0)).setCell ⟨X,4,none⟩ (.string r1)).setCell ⟨X,5,none⟩ (.string r2)).setCell ⟨X,6,none⟩ (.int .i64 r3)).setCell ⟨X,7,none⟩ (.int .i64 r4)=w8 at *;have mg:=Dy.out.cell;unfold jr at mg;have hbc:=HB8.out.cell;obtain⟨b1,hb1⟩:∃ b1,decide (0<r4)=b1:=⟨_,rfl⟩;obtain⟨b2,hb2⟩:∃ b2,(k == 17)=b2:=⟨_,rfl⟩;have Uz:=Z_ (show decide (0<r4)=b1∧decide (k=17)=b2 from⟨hb1,by rw [←hb2];by_cases e:k=17<;>simp [e]⟩);by_cases hbb:b1=b2
      ·subst hbb
       have hbe:(b1 == b1)=true:=by simp
       have qp:=Z_ (show T=.ok (.mk k m ks ⟨r0,r1,r2,r3,r4⟩ (iM (joinL ks) r3) ctx) by have h:=Zu.out;rw [Uz.out.1,Uz.out.2,if_pos rfl] at h;exact h.symm);clear Zu Uz;go_still_tail 11,(by kernel_rfl)
       go_wp2_with fail
       refine(bM 3 (p:Nat) _).mono ?_
       rintro e w9 ⟨rfl,rfl⟩;have kO:=Z_ Dy.out.drew;have Dx:=Z_ (Uw.out.aK bZ (aB.refl (fun _=>False) w8).drew (fun _ e=>e.elim));have Rl:=Z_ (HC8.out.extend (aB.refl _ w8).drew);have Gw:=Z_ HE8.out.drew;clear mg hbc hb1 hb2 hbe Dy Uw HC8 HE8 HB8;generalize w8.drew=w9 at *;obtain⟨z5,VR⟩:∃ z5,joinL ks=z5:=⟨_,rfl⟩;rw [VR] at kO qp;clear VR;go_upto_region 15 with (fail)
       refine aj [10,13] (fun i v _=>v=([.pointer (some ⟨X,0,none⟩),.pointer (some ⟨X,0,none⟩),.pointer (some ⟨X,0,none⟩),.pointer (some ⟨X,14,none⟩),.int .i64 z5,.pointer (some ⟨X,0,none⟩),.pointer (some ⟨X,0,none⟩),.pointer (some ⟨X,3,none⟩),.pointer (some ⟨X,6,none⟩),.int .i64 r3,undef,.pointer (some ⟨X,0,none⟩),.pointer (some ⟨X,14,none⟩),undef]:List Value).getD i undef) (uJ (.int .i64 (iM z5 r3)) (fun u9=>Ext w9 u9) (fun u9=>aC u9 X (jr k m (.slice ra ks.length rc) ⟨r0,r1,r2,r3,r4⟩ (.string ⟨#[]⟩) (.bool false) (.slice none 0 0) (.int .i64 0) (.bool false) (.int .i64 0) (iM z5 r3) ctx) 345∧aB (fun i=>i=X) w9 u9)) (fun _ _=>True) (frame:=?ab2) (fun x=>?Rn) bu.mixed (by kernel_rfl) (by kernel_rfl) (fun _ _ _ _ h _=>h) ?h0n ?stn ?Ro
       case Rn=>
        simp only [chain.aN,chain.fill,chain.bf,chain.aY,jW,jX,jY,jZ,kz,kC,kD,kE,kF];exact rfl
       case h0n=>exact(aB.refl _ _).drew
       case stn=>
        iterate 14 (refine ak.cons (fun x vs u hF hm hb hd K' hK'=>?_) ?_;rotate_left)
        exact ak.nil
        ·have HF:=Z_ hF;clear hd hm hb hF;go_simp;exact hK'.out _ _ _ (rfl) trivial ⟨rfl,HF.out⟩
        ·have HF:=Z_ hF;clear hd hm hb hF;go_simp;exact hK'.out _ _ _ (rfl) trivial ⟨rfl,HF.out⟩
        ·have y0:x 83=.pointer (some ⟨X,0,none⟩):=(D_ hd 1 :);have HF:=Z_ hF;clear hd hm hb hF;go_simp;exact hK'.out _ _ _ (by simp only [y0];rfl) trivial ⟨rfl,HF.out⟩
        ·have y0:x 84=.pointer (some ⟨X,0,none⟩):=(D_ hd 2 :);have HF:=Z_ hF;clear hd hm hb hF;go_simp;exact hK'.out _ _ _ (by simp only [y0];rfl) trivial ⟨rfl,HF.out⟩
        ·have fU:=uJ.P hF (by have:=hb 0 _ (by decide) rfl (by kernel_rfl);omega);have hq:=(kO.out.ext fU).cell;unfold jr at hq;clear fU;have y0:x 85=.pointer (some ⟨X,14,none⟩):=(D_ hd 3 :);have HF:=Z_ hF;clear hd hm hb hF;go_simp;exact hK'.out _ _ _ (by simp only [y0];rfl) trivial ⟨rfl,HF.out⟩
        ·have HF:=Z_ hF;clear hd hm hb hF;go_simp;exact hK'.out _ _ _ (rfl) trivial ⟨rfl,HF.out⟩
        ·have y0:x 87=.pointer (some ⟨X,0,none⟩):=(D_ hd 5 :);have HF:=Z_ hF;clear hd hm hb hF;go_simp;exact hK'.out _ _ _ (by simp only [y0];rfl) trivial ⟨rfl,HF.out⟩
        ·have y0:x 88=.pointer (some ⟨X,0,none⟩):=(D_ hd 6 :);have HF:=Z_ hF;clear hd hm hb hF;go_simp;exact hK'.out _ _ _ (by simp only [y0];rfl) trivial ⟨rfl,HF.out⟩
        ·have y0:x 89=.pointer (some ⟨X,3,none⟩):=(D_ hd 7 :);have HF:=Z_ hF;clear hd hm hb hF;go_simp;exact hK'.out _ _ _ (by simp only [y0];rfl) trivial ⟨rfl,HF.out⟩
        ·have fU:=uJ.P hF (by have:=hb 0 _ (by decide) rfl (by kernel_rfl);omega);have hq:=(kO.out.ext fU).cell;unfold jr at hq;clear fU;have y0:x 90=.pointer (some ⟨X,6,none⟩):=(D_ hd 8 :);have HF:=Z_ hF;clear hd hm hb hF;go_simp;exact hK'.out _ _ _ (by simp only [y0];rfl) trivial ⟨rfl,HF.out⟩
        ·obtain rfl:=kS hm;have y0:x 86=.int .i64 z5:=(D_ hd 4 :);have y1:x 91=.int .i64 r3:=(D_ hd 9 :);have HF:=Z_ hF;clear hd hm hb hF;go_simp;refine(wG _ _ _).mono ?_
         rintro e u2 ⟨rfl,rfl⟩;exact hK'.out _ _ _ (by simp only [y0,y1];rfl) trivial ⟨rfl,HF.out⟩
        ·have y0:x 82=.pointer (some ⟨X,0,none⟩):=(D_ hd 0 :);have HF:=Z_ hF;clear hd hm hb hF;go_simp;exact hK'.out _ _ _ (by simp only [y0];rfl) trivial ⟨rfl,HF.out⟩
        ·have y0:x 93=.pointer (some ⟨X,0,none⟩):=(D_ hd 11 :);have HF:=Z_ hF;clear hd hm hb hF;go_simp;exact hK'.out _ _ _ (by simp only [y0];rfl) trivial ⟨rfl,HF.out⟩
        ·obtain⟨v0,rfl⟩:=mD hm
         have y0:x 94=.pointer (some ⟨X,14,none⟩):=(D_ hd 12 :);have y1:x 92=v0:=((D_ hd 10) 92 (by kernel_rfl) :);obtain⟨rfl,nS⟩:=hF;have hq:=(kO.out.ext nS).cell;have AL:=(kO.out.ext nS).frozen;have kW:=(kO.out.ext nS).lt;unfold jr at hq;have HF:=Z_ nS;clear hd hm hb nS;go_simp;exact hK'.out _ _ undef (by simp only [y0,y1];rfl) trivial ⟨(kO.out.ext HF.out).set 14 _,ai (HF.out.weak fun _ _ e=>e.elim) 14 _⟩
       case Ro=>
        intro x9 qX w7 hl hF hk9;obtain⟨v0,v1,rfl⟩:=DT hl
        obtain⟨VS,DD⟩:=hF;have htr:=zH VS (Dx.out.aK bZ DD (fun i e=>by omega)) zu.out HRO.out;have hcb:=Rl.out.c.aK DD (by have:=Fz.out;omega);have iV:=Gw.out.trans DD (fun i hi e=>by have:=zu.out;omega);have GL:=Z_ (And.intro htr (And.intro hcb iV));clear hk9 hl VS DD htr hcb iV;go_wp2_with fail
        go_ret
        rw [qp.out];exact⟨GL.out.2.2,X,rfl,zu.out,GL.out.1,GL.out.2.1,rfl⟩
      ·have hbe:(b1 == b2)=false:=beq_eq_false_iff_ne.2 hbb
       have qp:=Z_ (show T=.bad 3 p by have h:=Zu.out;rw [Uz.out.1,Uz.out.2,if_neg hbb] at h;exact h.symm);clear Zu Uz hbb;go_still_tail 11,(by kernel_rfl)
       go_wp2_with fail
       refine(bY 3 (p:Nat) _).mono ?_
       rintro e w9 ⟨rfl,rfl⟩;go_wp2_with fail
       refine⟨rfl,?_⟩
       rw [qp.out];exact⟨HE8.out.drew,rfl⟩
   ·have h16:(k == 16)=false:=beq_eq_false_iff_ne.2 (by omega)
    have h17:(k == 17)=false:=beq_eq_false_iff_ne.2 (by omega);by_cases h18:k=18
    ·subst h18
     have VV:=Z_ (show ((rV E ctx alone t ks p).bind fun r=>(.ok (.mk 18 m ks r.1 r.2 ctx):Rz Tr))=T by have h:=MR.out;unfold ve at h;rw [if_neg (by decide),if_pos rfl] at h;exact h)
     have hK:bV (hide (below (X+1)) wr) (hide (fun i=>decide (i=X)) wr):=aT (Nat.le_refl _) fun i hi hm=>by
      simp only [below,decide_eq_false_iff_not] at hm ⊢;exact⟨by omega,trivial⟩
     have PV:=Z_ (v_ HS.out.1 uD.out (X:=X) (k0:=18) (m0:=m) (l0:=joinL ks) (ctx:=ctx) (t:=t) (n1:=m) (n2:=.slice a j cc) alone p HS.out.2.2.1 (HKR.out.keeps hK (kK hK)) hr1 (by rw [qL.out];omega) hl3 (by have:=HWC.out;have:=zu.out;omega) I4.out ⟨_,_,_,rfl⟩);obtain⟨RC,hRC⟩:∃ RC,rV E ctx alone t ks p=RC:=⟨_,rfl⟩;rw [hRC] at VV PV;clear hRC MR h67 hK;go_wp2_with fail
     refine PV.out.mono ?_
     rintro e w7 ⟨Rq,h7⟩;cases RC with
     | bad c9 p9=>
      have qp:=Z_ (show T=.bad c9 p9 from VV.out.symm);obtain rfl:e=_:=h7;have iV:=HS.out.2.2.2.2.trans Rq (fun i hi e=>by have:=zu.out;omega);go_wp2_with fail
      refine⟨rfl,?_⟩
      rw [qp.out];exact⟨iV,rfl⟩
     | ok r=>
      obtain⟨rfl,hro,y0,y1,y2,y3,y4,y5,hX7⟩:=h7;have qp:=Z_ (show T=.ok (.mk 18 m ks r.1 r.2 ctx) from VV.out.symm);have iV:=HS.out.2.2.2.2.trans Rq (fun i hi e=>by have:=zu.out;omega);have htr:=zH hX7 (HS.out.2.2.2.1.aK bZ Rq (fun i e=>by omega)) zu.out hro;have hcb:=HS.out.1.c.aK Rq (by have:=Fz.out;omega);go_wp2_with fail
      go_ret
      rw [qp.out];exact⟨iV,X,rfl,zu.out,htr,hcb,rfl⟩
    ·have ai6:(k == 18)=false:=beq_eq_false_iff_ne.2 h18
     have qp:=Z_ (show T=.ok (.mk k m ks gq (joinL ks) ctx) by have h:=MR.out;unfold ve at h;rw [if_neg h67,if_neg h18] at h;exact h.symm);clear h67 h18 MR;go_wp2_with fail
     go_ret
     rw [qp.out];exact⟨HS.out.2.2.2.2,X,rfl,zu.out,zH HS.out.2.2.1 HS.out.2.2.2.1 zu.out (by constructor<;>decide),HS.out.1.c,rfl⟩
end chk
end Go.Proofs.YtpcihajmcejliacGreatDoor
namespace Go.Proofs.YtpcihajmcejliacGreatDoor
open Go.RowKit
namespace cG
theorem JS:(Tryz.prog.info? 340).map (fun i=>(i.zero,i.size,i.bytes))=some (some (.agg #[.string ⟨#[]⟩,.int .i64 0,.int .i64 0]),3,32):=by kernel_rfl
theorem qx:(Tryz.prog.info? 219).map (fun i=>(i.zero,i.size,i.bytes))=some (some (.pointer none),1,8):=by kernel_rfl
end cG
namespace chk
open bu cG
def LS (C P:Nat) (vl:Value):Nat→Prop:=fun i=>i=C∨i=P∨vl.ownBlock=some i
def zA (pr:aI) (pc:Array Value):Prop:=∃ p1 p2 p3 b mo,pc=#[.string pr.name,p1,p2,p3,.bool pr.gives,.int .i64 pr.given,b,.int .i64 mo]∧0≤mo∧mo≤1000
theorem CS.JK {W u u':World} {C Mo D K P B:Nat} {E:dI} {vl AO:Value} {L L':List Loc} {deep at_ deep' at':Int} {cO dw:Value} {dc pc pc':Array Value} (h:CS W u C Mo D K P B E vl L deep at_ cO dw dc pc) (hC:aB (LS C P vl) u u') (hc:aC u' C (qK Mo K AO deep' at' P) 221) (hp:aC u' P pc' 297) (hl:Grow 3 340 xX B u' AO L'):CS W u' C Mo D K P B E AO L' deep' at' cO dw dc pc':=by
 obtain⟨n,hn,hk⟩:=h.k;have h1:=h.hC;have h2:=h.hP;have h3:=h.cM;have h4:=h.cK;have h5:=h.mP;have h6:=h.kP;have h7:=h.mB;have h8:=h.kB;have h9:=h.hu;have h10:=h.ext.size;have h11:=h.cB
 have ho:=bn h.loc
 have hW:∀ i,LS C P vl i→W.heap.size≤i:=fun i e=>by
  rcases e with e|e|e
  ·omega
  ·omega
  ·have:=ho i e;omega
 exact⟨h.ext.trans hC (fun i hi e=>by have:=hW i e;omega),hc,h.mo.aK hC (fun e=>by
   rcases e with e|e|e
   ·omega
   ·omega
   ·have:=ho _ e;omega),h.d,h.own,⟨n,hn,hk.aK hC (fun e=>by
   rcases e with e|e|e
   ·omega
   ·omega
   ·have:=ho _ e;omega)⟩,hp,hl,h1,h.hM,h.hK,h2,h11,h7,h8,h.pB,h3,h4,h.cP,h.mK,h5,h6,Nat.le_trans h9 hC.size⟩
theorem zL {α : Type} {k:Nat} {E:TypeId} {V:α→Value→World→Prop} {B:Nat} {w:World} {row:Value} {acc:List α} (h:jk (fun _=>false) k E V B w row acc):Grow k E V B w row acc:=by
 obtain⟨us,h1,h2,h3⟩:=h.ex;exact⟨us,h1,h2,fun j hj hj'=>by have h4:=h3 j hj hj';simpa using h4⟩
def MK (u0 u:World) (C Mo K P B:Nat) (vl:Value) (deep at_:Int) (rN r:Value) (lq:List Loc):Prop:=
 aB (fun i=>i=C∨vl.ownBlock=some i) u0 u∧aC u C (qK Mo K rN deep at_ P) 221∧jk (fun _=>false) 3 340 xX B u r lq∧(∀ i,r.ownBlock=some i→vl.ownBlock=some i∨u0.heap.size≤i)
def JU (W u:World) (C Mo D K P B:Nat) (E:dI) (vl:Value) (L L':List Loc) (deep at_:Int) (cO dw:Value) (dc:Array Value) (pr:aI) (e:Ending) (u':World):Prop:=∃ AO pc',e=.returned (.int .i64 (L.length:Nat))∧aB (LS C P vl) u u'∧CS W u' C Mo D K P B E AO L' deep at_ cO dw dc pc'∧zA pr pc'∧(∀ i,AO.ownBlock=some i→vl.ownBlock=some i∨u.heap.size≤i)
set_option maxRecDepth 100000 in
set_option maxHeartbeats 8000000 in
theorem Bg {W u:World} {C Mo D K P B:Nat} {E:dI} {vl:Value} {L:List Loc} {deep at_:Int} {cO dw:Value} {dc pc:Array Value} {pr:aI} (h:CS W u C Mo D K P B E vl L deep at_ cO dw dc pc) (hpc:zA pr pc) (hL:L.length≤100) (t:ByteArray) (ht:t.size≤10000) (lb:Int) :
  Calls Tryz.prog 186 #[.pointer (some ⟨C,0,none⟩),.string t,.int .i64 lb] u (JU W u C Mo D K P B E vl L (L ++ [⟨t,lb,deep⟩]) deep at_ cO dw dc pr):=by
 obtain⟨p1,p2,p3,bl,mo,rfl,hm0,hm1⟩:=hpc;have HC:=Z_ h;obtain⟨ra,rc,hvl,hr1,hr2⟩:=dZ h.loc;have hr9:=bn h.loc;rw [hvl] at hr9;obtain⟨n,hn⟩:∃ n,L.length=n:=⟨_,rfl⟩;have HN:=Z_ hn;have yJ:=Z_ hL;rw [hn] at hvl hL hr1;have hBu:=h.hu;subst hvl;have Bh:=hr9;rw [hn] at Bh;have HOW:=Z_ Bh;have hcP:=h.cP;have hcB:=h.cB;have hpB:=h.pB
 have HD:=Z_ (And.intro hcP (And.intro hcB (And.intro hpB hBu)));clear h hn hr9 Bh hcP hcB hpB;go_enter Tryz.func186,Tryz.ntmps186
 go_upto_region 1 with (fail)
 refine aj [12,13,16] (fun i v _=>v=([.pointer (some ⟨C,0,none⟩),.pointer (some ⟨C,0,none⟩),.pointer (some ⟨C,0,none⟩),.pointer (some ⟨C,2,none⟩),.slice ra n rc,.string t,.int .i64 lb,.pointer (some ⟨C,0,none⟩),.pointer (some ⟨C,0,none⟩),.pointer (some ⟨C,3,none⟩),.int .i64 deep,.agg #[.string t,.int .i64 lb,.int .i64 deep],undef,undef,.pointer (some ⟨C,0,none⟩),.pointer (some ⟨C,2,none⟩),undef]:List Value).getD i undef) (cG.eF (fun w rN r lq=>MK u w C Mo K P B (.slice ra n rc) deep at_ rN r lq) (fun _=>false) xX (B) 340 (.slice ra n rc) L ⟨t,lb,deep⟩ (.agg #[.string t,.int .i64 lb,.int .i64 deep])) (fun _ _=>True) (frame:=?ab3) (fun x=>?Rt) bu.mixed (by kernel_rfl) (by kernel_rfl) (fun _ _ _ _ h _=>h) ?h0m ?stm ?Ru
 case Rt=>
  simp only [chain.aN,chain.fill,chain.bf,chain.aY,jW,jX,jY,jZ,kz,kC,kD,kE,kF];exact rfl
 case h0m=>exact⟨⟨(aB.refl _ _).drew,HC.out.c.drew,eH (nJ HC.out.loc FG (fun _=>false)) gz (aB.refl (fun _=>False) u).drew (fun i e=>e.elim) (fun i e e2=>e2.elim) (fun i e=>by cases e),fun i e=>.inl e⟩,rfl,ht⟩
 case stm=>
  iterate 17 (refine ak.cons (fun x vs u hF hm hb hd K' hK'=>?_) ?_;rotate_left)
  exact ak.nil
  ·have HF:=Z_ hF;clear hd hm hb hF;go_simp;exact hK'.out _ _ _ (rfl) trivial ⟨rfl,HF.out⟩
  ·have HF:=Z_ hF;clear hd hm hb hF;go_simp;exact hK'.out _ _ _ (rfl) trivial ⟨rfl,HF.out⟩
  ·have y0:x 8=.pointer (some ⟨C,0,none⟩):=(D_ hd 1 :);have HF:=Z_ hF;clear hd hm hb hF;go_simp;exact hK'.out _ _ _ (by simp only [y0];rfl) trivial ⟨rfl,HF.out⟩
  ·have y0:x 9=.pointer (some ⟨C,0,none⟩):=(D_ hd 2 :);have HF:=Z_ hF;clear hd hm hb hF;go_simp;exact hK'.out _ _ _ (by simp only [y0];rfl) trivial ⟨rfl,HF.out⟩
  ·have aO:=cG.eF.B hF (by have:=hb 1 _ (by decide) rfl (by kernel_rfl);omega);have hq:=aO.2.1.cell;unfold qK at hq;clear aO;have y0:x 10=.pointer (some ⟨C,2,none⟩):=(D_ hd 3 :);have HF:=Z_ hF;clear hd hm hb hF;go_simp;exact hK'.out _ _ _ (by simp only [y0];rfl) trivial ⟨rfl,HF.out⟩
  ·have HF:=Z_ hF;clear hd hm hb hF;go_simp;exact hK'.out _ _ _ (rfl) trivial ⟨rfl,HF.out⟩
  ·have HF:=Z_ hF;clear hd hm hb hF;go_simp;exact hK'.out _ _ _ (rfl) trivial ⟨rfl,HF.out⟩
  ·have HF:=Z_ hF;clear hd hm hb hF;go_simp;exact hK'.out _ _ _ (rfl) trivial ⟨rfl,HF.out⟩
  ·have y0:x 14=.pointer (some ⟨C,0,none⟩):=(D_ hd 7 :);have HF:=Z_ hF;clear hd hm hb hF;go_simp;exact hK'.out _ _ _ (by simp only [y0];rfl) trivial ⟨rfl,HF.out⟩
  ·have y0:x 15=.pointer (some ⟨C,0,none⟩):=(D_ hd 8 :);have HF:=Z_ hF;clear hd hm hb hF;go_simp;exact hK'.out _ _ _ (by simp only [y0];rfl) trivial ⟨rfl,HF.out⟩
  ·obtain⟨_,_,_,aO⟩:=cG.eF.any hF;have hq:=aO.2.1.cell;unfold qK at hq;clear aO;have y0:x 16=.pointer (some ⟨C,3,none⟩):=(D_ hd 9 :);have HF:=Z_ hF;clear hd hm hb hF;go_simp;exact hK'.out _ _ _ (by simp only [y0];rfl) trivial ⟨rfl,HF.out⟩
  ·have y0:x 12=.string t:=(D_ hd 5 :);have y1:x 13=.int .i64 lb:=(D_ hd 6 :);have y2:x 17=.int .i64 deep:=(D_ hd 10 :);have HF:=Z_ hF;clear hd hm hb hF;go_simp;exact hK'.out _ _ _ (by simp only [y0,y1,y2];rfl) trivial ⟨rfl,HF.out⟩
  ·obtain rfl:=kS hm;have y0:x 18=.agg #[.string t,.int .i64 lb,.int .i64 deep]:=(D_ hd 11 :);have aO:=hF.1;have HG:=Z_ (cG.bH (aO.2.2.1));have HF:=Z_ hF;clear hd hm hb hF aO;go_simp;exact hK'.out _ _ _ (by simp only [y0];rfl) trivial (cG.fF chk.gz (fun u' hE=>⟨HF.out.1.1.ext hE,HF.out.1.2.1.ext hE,eH HF.out.1.2.2.1 gz hE (fun i e=>e.elim) (fun i e e2=>e2.elim) (fun i e=>by cases e),HF.out.1.2.2.2⟩) (fun i e=>(HG.out i e).2) HF.out rfl)
  ·obtain⟨v0,rfl⟩:=mD hm
   have y0:x 11=.slice ra n rc:=(D_ hd 4 :);have y1:x 19=v0:=((D_ hd 12) 19 (by kernel_rfl) :);have hF2:=hF;obtain⟨aO,hxx,gg,rfl,hgb,hgr⟩:=hF2;obtain⟨us,hu1,ho,hu3⟩:=(aO.2.2.1).ex;obtain⟨iW,iY,hz0,hz1,hz2⟩:=bu.aW cG.JS;have hbz:B≤u.heap.size:=by have:=HD.out.2.2.2;have:=aO.1.size;omega
   refine wp_append_lies _ _ _ 217 rfl (B) 340 iW (.agg #[.string ⟨#[]⟩,.int .i64 0,.int .i64 0]) 3 32 Tryz.underlying217 iY hz0 hz1 hz2 rfl (by decide) (.slice ra n rc) L.length (us.flatMap fun u=>u.cells.toList) y0 ho ⟨gg,0,none⟩ 1 1 [.string t,.int .i64 lb,.int .i64 deep] y1 rfl ?_ (by intro z_ mN;simp only [List.mem_cons,List.not_mem_nil,or_false] at mN;rcases mN with rfl|rfl|rfl<;>rfl) (by decide) (by unfold maxLen;have:=yJ.out;omega) (by have:=yJ.out;omega) hbz u.heap.size rfl ?_
   ·intro j q hj;have e:(⟨gg,0,none⟩:Addr).add j=⟨gg,j,none⟩:=(by unfold Addr.add;split<;>simp_all);rw [e,hgb.cell];simpa [Value.cells] using hj
   ·intro g9 c9 w9 ju iZ kU uI
    exact hK'.out _ _ _ rfl trivial (cG.eG chk.gz hF hu1 hu3 rfl (fun r tY hG hC ha=>⟨aO.1.trans hC (fun i hi e=>.inr e),aO.2.1.aK hC (fun e=>by have:=HOW.out _ e;have:=HD.out.2.1;omega),hG,fun i e=>by rcases ha i e with h9|h9;exact .inl h9;exact .inr (by have:=aO.1.size;omega)⟩) ju iZ kU)
  ·have y0:x 7=.pointer (some ⟨C,0,none⟩):=(D_ hd 0 :);have HF:=Z_ hF;clear hd hm hb hF;go_simp;exact hK'.out _ _ _ (by simp only [y0];rfl) trivial ⟨rfl,HF.out⟩
  ·have y0:x 21=.pointer (some ⟨C,0,none⟩):=(D_ hd 14 :);have HF:=Z_ hF;clear hd hm hb hF;go_simp;exact hK'.out _ _ _ (by simp only [y0];rfl) trivial ⟨rfl,HF.out⟩
  ·obtain⟨v0,v1,rfl⟩:=tN hm
   have y0:x 22=.pointer (some ⟨C,2,none⟩):=(D_ hd 15 :);have y1:x 20=v1:=((D_ hd 13) 20 (by kernel_rfl) :);have hF2:=hF;obtain⟨aO,gg,cc,rfl⟩:=hF2;have hq:=aO.2.1.cell;have AL:=aO.2.1.frozen;have kW:=aO.2.1.lt;unfold qK at hq;have HF:=Z_ hF;clear hd hm hb hF aO;go_simp;exact hK'.out _ _ undef (by simp only [y0,y1];rfl) trivial (cG.fG (z:=undef) HF.out (fun h=>⟨h.1.setCell (p:=⟨C,2,none⟩) (fun _=>.inl rfl) _,h.2.1.set 2 _,eH h.2.2.1 gz (ai (S:=C) (aB.refl _ _) 2 _) (fun i e=>.inl (by have:=HD.out.2.1;omega)) (fun i e e2=>by have:=bH h.2.2.1 i e;have:=HD.out.2.1;omega) (fun i e=>by cases e),h.2.2.2⟩))
 case Ru=>
  intro x9 qX w9 hl hF hk9;obtain⟨v0,v1,v2,rfl⟩:=NR hl
  clear hk9 hl;obtain⟨iV,xZ,iZ,ju⟩:=(show MK _ _ _ _ _ _ _ _ _ _ _ _ _ from hF);obtain⟨ga,gc,hv1,-⟩:=cG.mO iZ;rw [List.length_append,List.length_singleton,HN.out] at hv1;subst hv1;have hpb:=HC.out.p.aK iV (fun e=>by rcases e with e|e;exact HD.out.1 e.symm;have:=HOW.out _ e;have:=HD.out.2.2.1;omega);have kO:=Z_ (And.intro iV (And.intro xZ (And.intro iZ ju)));have jy:=Z_ hpb;have hcc:=xZ.cell;unfold qK at hcc;have hpc:=hpb.cell;have hpf:=hpb.frozen;have hpl:=hpb.lt;obtain⟨mm,hmm⟩:∃ mm,max mo ((n:Int)+1)=mm:=⟨_,rfl⟩;have ai7:(if mo≤(n:Int)+1 then (n:Int)+1 else mo)=mm:=by rw [←hmm];rfl
  have HMM:=Z_ (show 0≤mm∧mm≤1000 by have h8:=yJ.out;have h9:=HN.out;rw [←hmm];omega);have hw1:IntKind.i64.wrap (((n+1:Nat):Int)-1)=(n:Int):=by rw [IntWalk.i64_in _ (by have h8:=yJ.out;have h9:=HN.out;omega)];omega
  have hw2:((n+1:Nat):Int)-1=(n:Int):=by omega
  clear iV xZ iZ ju hpb;go_wp2_with fail
  go_still_tail 19,(by kernel_rfl)
  go_wp2_with fail
  go_ret
  have hCp:=(ai (S:=P) (aB.refl _ w9) 7 (.int .i64 mm)).drew;have iV:=(kO.out.1.weak (S':=LS C P (.slice ra n rc)) fun i _ e=>by rcases e with e|e;exact .inl e;exact .inr (.inr e)).trans hCp (fun i hi e=>.inr (.inl e));refine⟨.slice ga (n+1) gc,#[.string pr.name,p1,p2,p3,.bool pr.gives,.int .i64 pr.given,bl,.int .i64 mm],by rw [HN.out];first|rfl|rw [hw2],iV,HC.out.JK iV (kO.out.2.1.aK hCp HD.out.1) ((jy.out.set 7 _).drew) ?_,⟨_,_,_,_,_,rfl,HMM.out⟩,kO.out.2.2.2⟩
  exact(zL kO.out.2.2.1).aK gz hCp (fun i e=>by have:=HD.out.2.2.1;omega)
end chk
end Go.Proofs.YtpcihajmcejliacGreatDoor
namespace Go.Proofs.YtpcihajmcejliacGreatDoor
open Go.RowKit
namespace chk
open bu cG
theorem D8 {α : Type} {k:Nat} {E:TypeId} {V:α→Value→World→Prop} {B:Nat} {w:World} {a:Option Addr} {n c:Nat} {l m:List α} (h:Grow k E V B w (.slice a n c) (l++m)):Grow k E V B w (.slice a l.length c) l:=by
 obtain⟨us,h1,⟨h2,h2b⟩,h3⟩:=h.ex;rw [List.length_append] at h1 h2 h2b
 have hall:∀ u∈us,u.cells.size=k:=fun u hu=>by
  obtain⟨q,hq,rfl⟩:=List.getElem_of_mem hu;exact(h3 q (by rw [List.length_append];omega) hq).2
 have VW:∀ (us:List Value) (n:Nat),(∀ u∈us,u.cells.size=k)→(us.take n).flatMap (fun u=>u.cells.toList)=(us.flatMap fun u=>u.cells.toList).take (n*k):=by
  intro us;induction us with
  | nil=>intro n _;simp
  | cons u r ih=>
   intro n hu;have hu0:u.cells.toList.length=k:=by rw [Array.length_toList];exact hu u (by simp)
   cases n with
   | zero=>simp
   | succ n=>
    rw [List.take_succ_cons,List.flatMap_cons,List.flatMap_cons,ih n (fun u hu'=>hu u (by simp [hu'])),Nat.succ_mul,List.take_append,hu0];rw [List.take_of_length_le (by omega:u.cells.toList.length≤n*k+k),show n*k+k-k=n*k by omega]
 refine⟨us.take l.length,by rw [List.length_take];omega,⟨?_,?_⟩,fun j hj hj'=>?_⟩
 ·rw [List.length_flatMap] at h2 ⊢
  have e:∀ (us:List Value),(∀ u∈us,u.cells.size=k)→(us.map fun u=>u.cells.toList.length).sum=us.length*k:=by
   intro us hu;induction us with
   | nil=>simp
   | cons u r ih=>rw [List.map_cons,List.sum_cons,ih (fun u hu'=>hu u (by simp [hu'])),Array.length_toList,hu u (by simp),List.length_cons,Nat.succ_mul];omega
  rw [e _ (fun u hu=>hall u (List.mem_of_mem_take hu)),List.length_take];rw [Nat.min_eq_left (by omega)]
 ·rcases h2b with ⟨e,h0⟩|⟨g,cap,cur,hv,hB,hg,hc1,hc2,hc3,hc4⟩
  ·injection e with e1 e2 e3
   left
   have:l.length=0:=by omega
   exact⟨by rw [e1,e3,this],this⟩
  ·injection hv with e1 e2 e3
   subst e1 e3;refine .inr ⟨g,c,cur,rfl,hB,hg,by omega,hc2,hc3,?_⟩
   rw [VW us _ hall,←hc4,List.take_take];rw [Nat.min_eq_left (Nat.mul_le_mul_right _ (by omega))]
 ·have hj2:j<(l++m).length:=by rw [List.length_append];omega
  have hj3:j<us.length:=by rw [List.length_take] at hj';omega
  have:=h3 j hj2 hj3;rw [List.getElem_append_left hj] at this;rw [List.getElem_take]
  have hV:∀ {M M':Nat→Bool},(∀ i,M i=M' i)→hide M w=hide M' w:=fun h=>by
   have:(_:Nat→Bool)=_:=funext h;rw [this]
  rw [hV (M:=bg B (.slice a l.length c)) (M':=bg B (.slice a n c)) (fun i=>by unfold bg Value.ownBlock;cases a with
   | none=>rfl
   | some p=>rfl)]
  exact this
end chk
end Go.Proofs.YtpcihajmcejliacGreatDoor
