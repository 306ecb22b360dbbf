/- The walk of the checker's expr: expressions. The walk of the checker's make: a local more. What the walks of statements and blocks share. -/
import Derived.Deep.CutBlock
import Derived.Deep.DeepCutAuto
import Derived.Test.YtpcihajmcejliacGreatDoorChkCm
namespace Go.Proofs.YtpcihajmcejliacGreatDoor
open Go.RowKit
namespace chk
open bn dn
theorem CS.far {W u u':World} {C Mo D K P B:Nat} {E:dH} {vl:Value} {L:List Loc} {deep at_:Int} {cH dB:Value} {dc pc:Array Value} (h:CS W u C Mo D K P B E vl L deep at_ cH dB dc pc) {S:Nat→Prop} (hC:aB S u u') (hS:∀ i,S i→B≤i) (hL:∀ i,vl.ownBlock=some i→¬ S i):CS W u' C Mo D K P B E vl L deep at_ cH dB dc pc:=by
 obtain⟨n,hn,hk⟩:=h.k;have h1:=h.hC;have h2:=h.hM;have h3:=h.hK;have h4:=h.hP;have h5:=h.cB;have h6:=h.mB;have h7:=h.kB;have h8:=h.pB
 exact⟨h.ext.trans hC (fun i hi e=>by have:=hS i e;omega),h.c.aO hC (fun e=>by have:=hS _ e;omega),h.mo.aO hC (fun e=>by have:=hS _ e;omega),h.d,h.own,⟨n,hn,hk.aO hC (fun e=>by have:=hS _ e;omega)⟩,h.p.aO hC (fun e=>by have:=hS _ e;omega),jV h.loc D9 hC hL,h1,h2,h3,h4,h5,h6,h7,h8,h.cM,h.cK,h.cP,h.mK,h.mP,h.kP,Nat.le_trans h.hu hC.size⟩
theorem yO {u:World} {X B:Nat} {k m:Int} {row:Value} {ks:List Tr} {r:mG} {p0 p1 p2 p3 p4 p5:Value} {lab ctx:Int} (hX:aH u X (jh k m row r p0 p1 p2 p3 p4 p5 lab ctx) 345) (hG:Grow 1 219 zH (X+1) u row ks) (hB:B≤X) (hr:uM r):qH (hide (below B) u) (.mk k m ks r lab ctx) (.pointer (some ⟨X,0,none⟩)):=by
 obtain⟨a,c,rfl,h1,h2,h3⟩:=hG.row b_ qZ
 have hK:bZ (hide (below (X+1)) u) (hide (below B) u):=aZ (Nat.le_refl _) fun i hi hm=>by
  simp only [below,decide_eq_false_iff_not] at hm ⊢;exact⟨by omega,trivial⟩
 rw [uC];refine⟨hr,X,a,c,p0,p1,p2,p3,p4,p5,rfl,by rw [bK];exact hX.lt,fun i hi=>?_,h1,h2,h3.keeps hK (jT hK)⟩
 rw [fU _ _ _ (by simp [below];omega),hX.cell]
theorem KZ:(Tryz.prog.info? 219).map (fun i=>(i.zero,i.size,i.bytes))=some (some (.pointer none),1,8):=by kernel_rfl
def O9 (u:World) (C Mo K P:Nat) (vl:Value) (deep:Int) (T:Rz Tr) (at_:Nat) (kd:Int) (e:Ending) (u':World):Prop:=aB (fun i=>i=C) u u'∧match T with
 | .bad c p=>e=.panicked (mJ c (p:Nat))
 | .ok t=>∃ g,e=.returned (.pointer (some ⟨g,0,none⟩))∧u.heap.size≤g∧qH (hide (below u.heap.size) u') t (.pointer (some ⟨g,0,none⟩))∧aH u' C (qw Mo K vl deep (at_:Nat) P) 221∧t.kd=kd
def tK (v:Value) (P Q:World→Prop):List Value→World→Prop
 | [],u=>P u
 | [v0],u=>v0=v∧P u
 | _,u=>Q u
theorem tK.P {v:Value} {P Q:World→Prop} {vs:List Value} {u:World} (h:tK v P Q vs u) (hl:vs.length≤1):P u:=by
 match vs,hl,h with
 | [],_,h=>exact h
 | [_],_,h=>exact h.2
theorem EY (ks:List Tr) (y:Tr):joinL (ks ++ [y])=iM (joinL ks) y.lab:=by simp [joinL]
def yP (E:dH) (L:List Loc) (ctx:Int) (l:List Nd) (p:Nat) (ks:List Tr):Rz (List Tr):=(qG E L ctx l p).bind fun ys=>.ok (ks++ys)
theorem Ib {E:dH} {L:List Loc} {ctx:Int} {x:Nd} {r:List Nd} {p:Nat} {ks:List Tr}:yP E L ctx (x::r) p ks=match wY E L ctx false x p with
 | .bad c q=>.bad c q
 | .ok y=>yP E L ctx r (p+fP x) (ks ++ [y]):=by
 unfold yP;rw [qG];cases wY E L ctx false x p with
 | bad c q=>rfl
 | ok y=>
  simp only [Rz.bind];cases qG E L ctx r (p+fP x) with
  | bad c q=>rfl
  | ok ys=>simp
theorem Dc {k:Int} {t:ByteArray} {m:Int} {l:List Nd} (h:Form k t m l) (hk:lN k):∀ y∈l,lN y.kd:=by
 unfold lN at hk;cases h
 all_goals first
  | (exfalso;omega)
  | (intro y hy;exact absurd hy List.not_mem_nil)
  | assumption
  | (intro y hy;rw [List.mem_singleton] at hy;subst hy;assumption)
  | (intro y hy;simp only [List.mem_cons,List.not_mem_nil,or_false] at hy;rcases hy with rfl|rfl<;>assumption)
theorem nX (l:List Nd):l.length≤kJ l:=by
 induction l with
 | nil=>exact Nat.le_refl _
 | cons x r ih=>have:=Ic x;simp only [List.length_cons,kJ];omega
set_option maxRecDepth 100000 in
set_option maxHeartbeats 16000000 in
theorem uY {W:World} {C Mo D K P B:Nat} {E:dH} {vl:Value} {L:List Loc} {deep:Int} {cH dB:Value} {dc pc:Array Value} {ctx:Int} {H:Nat→Bool} (hmv:dw W) (hL:L.length≤1000):∀ (x:Nd),jk x→lN x.kd→∀ (v:Value) (alone:Bool) (u:World) (p:Nat),CS W u C Mo D K P B E vl L deep (p:Nat) cH dB dc pc→fE (hide H W) x v→p+fP x≤1000→
  Calls Tryz.prog 282 #[.pointer (some ⟨C,0,none⟩),v,.int .i64 ctx,.bool alone] u (O9 u C Mo K P vl deep (wY E L ctx alone x p) (p+fP x) x.kd):=by
 refine oP fun k t m l ih=>?_
 intro his hkd v alone u p hCS hnd hsz;have hkids:=his.kids;have hform:=his.form;rw [cG] at hnd;obtain⟨a,cc,rfl,hl1,hl2,hl3,hl4⟩:=hnd;obtain⟨T,hT⟩:∃ T,wY E L ctx alone (.mk k t m l) p=T:=⟨_,rfl⟩;rw [hT];rw [wY] at hT;have hke:=Dc hform hkd;have HIH:=Z_ (fun (y:Nd) (hy:y∈l)=>ih y hy (hkids y hy) (hke y hy));obtain⟨N,hN⟩:∃ N,l.length=N:=⟨_,rfl⟩;rw [hN] at hl1 ⊢;have HN:=Z_ hN;obtain⟨pe,hpe⟩:∃ pe,p+fP (.mk k t m l)=pe:=⟨_,rfl⟩;rw [hpe] at hsz ⊢;have zY:p+1+kJ l=pe:=by rw [←hpe];simp only [fP];omega
 have SQ:=Z_ zY;have HI:=Z_ (fun (u:World) (hE:Ext W u)=>hl4.keeps (aC hE fun i _ e=>e.elim) fun b o y=>fL (aC hE fun i _ e=>e.elim) b o y);have tC:=Z_ hmv;have HT:=Z_ (show (yP E L ctx l (p+1) []).bind (fun ks=>ug E L ctx alone k t m ks p)=T by rw [←hT];unfold yP;cases qG E L ctx l (p+1)<;>rfl);have Hf:=Z_ (fun i e=>(bh hCS.loc i e).2);have O_:=Z_ (show lN k from hkd);have Q4:=Z_ hL;have EL:=Z_ hCS.hu;have Yy:=Z_ hCS.cB;have HWC:=Z_ (show W.heap.size≤u.heap.size from hCS.ext.size);have hE0:=(aB.refl (fun _=>False) u).alloc (.cells #[.int .i64 k,.string t,.int .i64 m,.slice a N cc] 24);have HC:=Z_ (hCS.extend hE0);have HB:=Z_ (aH.made u #[.int .i64 k,.string t,.int .i64 m,.slice a N cc] 24)
 have HE:=Z_ (hE0.weak (S':=fun i=>i=C) fun _ _ e=>e.elim);obtain⟨Nb,hNb⟩:∃ Nb,u.heap.size=Nb:=⟨_,rfl⟩;have yG:=Z_ hNb;rw [hNb] at HB Hf EL;have hNl:N≤1000:=by have h1:=nX l;omega
 have hp:p≤1000:=by omega
 clear hE0 hCS hl4 hT hkids hke ih his hkd hform hN hpe zY hmv hL;go_enter Tryz.func282,Tryz.ntmps282
 go_upto_region 1 with (fail)
 try rw [hNb]
 generalize u.alloc (.cells #[.int .i64 k,.string t,.int .i64 m,.slice a N cc] 24)=u1 at *;go_wp2_with fail
 refine(next_any HC.out.c (by omega) (by omega)).mono ?_
 rintro e w2 ⟨rfl,hC2,hB2⟩;have HC2:=Z_ (HC.out.kV hC2 hB2);have HB2:=Z_ (HB.out.aO hC2 (by have:=Yy.out;have:=EL.out;omega));have nY:=Z_ (HE.out.then hC2);clear hC2 hB2 HC HB HE;have hbc:=HB2.out.cell;go_upto_region 3 with (fail)
 have HX:=Z_ (show aH (w2.alloc (.cells #[.int .i64 k,.int .i64 m,.slice none 0 0,.int .i64 0,.string ⟨#[]⟩,.string ⟨#[]⟩,.int .i64 0,.int .i64 0,.string ⟨#[]⟩,.bool false,.slice none 0 0,.int .i64 0,.bool false,.int .i64 0,.int .i64 0,.int .i64 ctx] 345)) w2.heap.size #[.int .i64 k,.int .i64 m,.slice none 0 0,.int .i64 0,.string ⟨#[]⟩,.string ⟨#[]⟩,.int .i64 0,.int .i64 0,.string ⟨#[]⟩,.bool false,.slice none 0 0,.int .i64 0,.bool false,.int .i64 0,.int .i64 0,.int .i64 ctx] 345 from aH.made w2 _ _);have HB3:=Z_ (HB2.out.alloc (.cells #[.int .i64 k,.int .i64 m,.slice none 0 0,.int .i64 0,.string ⟨#[]⟩,.string ⟨#[]⟩,.int .i64 0,.int .i64 0,.string ⟨#[]⟩,.bool false,.slice none 0 0,.int .i64 0,.bool false,.int .i64 0,.int .i64 0,.int .i64 ctx] 345));have wV:=Z_ (HC2.out.extend ((aB.refl _ w2).alloc (.cells #[.int .i64 k,.int .i64 m,.slice none 0 0,.int .i64 0,.string ⟨#[]⟩,.string ⟨#[]⟩,.int .i64 0,.int .i64 0,.string ⟨#[]⟩,.bool false,.slice none 0 0,.int .i64 0,.bool false,.int .i64 0,.int .i64 0,.int .i64 ctx] 345)))
 have wR:=Z_ (nY.out.alloc (.cells #[.int .i64 k,.int .i64 m,.slice none 0 0,.int .i64 0,.string ⟨#[]⟩,.string ⟨#[]⟩,.int .i64 0,.int .i64 0,.string ⟨#[]⟩,.bool false,.slice none 0 0,.int .i64 0,.bool false,.int .i64 0,.int .i64 0,.int .i64 ctx] 345));have Df:=nY.out.size;rw [hNb] at Df;obtain⟨X,hX⟩:∃ X,w2.heap.size=X:=⟨_,rfl⟩;rw [hX] at HX Df;have wS:Nb<X:=by have:=HB2.out.lt;omega
 have Rk:=Z_ (show Grow 1 219 zH (X+1) (w2.alloc (.cells #[.int .i64 k,.int .i64 m,.slice none 0 0,.int .i64 0,.string ⟨#[]⟩,.string ⟨#[]⟩,.int .i64 0,.int .i64 0,.string ⟨#[]⟩,.bool false,.slice none 0 0,.int .i64 0,.bool false,.int .i64 0,.int .i64 0,.int .i64 ctx] 345)) (.slice none 0 0) [] from Grow.nil _ _ _ _ _)
 try rw [hX]
 clear hbc hX HC2 HB2 nY;generalize w2.alloc (.cells #[.int .i64 k,.int .i64 m,.slice none 0 0,.int .i64 0,.string ⟨#[]⟩,.string ⟨#[]⟩,.int .i64 0,.int .i64 0,.string ⟨#[]⟩,.bool false,.slice none 0 0,.int .i64 0,.bool false,.int .i64 0,.int .i64 0,.int .i64 ctx] 345)=u3 at *;have HX:=Z_ (show aH u3 X (jh k m (.slice none 0 0) gG (.string ⟨#[]⟩) (.bool false) (.slice none 0 0) (.int .i64 0) (.bool false) (.int .i64 0) (joinL []) ctx) 345 from HX.out);have hbc:=HB3.out.cell;have DW:=Z_ (show C<X by have:=Yy.out;have:=EL.out;omega);have GG:=Z_ (show B≤X by have:=EL.out;omega);have GM:=Z_ wS;have Yz:=Z_ Df;go_wp2_with fail
 clear hbc;go_loopw [26] (fun i wr=>∃ (j q:Nat) (row:Value) (ks:List Tr),j≤N∧i=.int .i64 (j:Nat)∧Hid (ks.length=j)∧Hid (q+kJ (l.drop j)=pe)∧Hid ((yP E L ctx (l.drop j) q ks).bind (fun ks=>ug E L ctx alone k t m ks p)=T)∧Hid (CS W wr C Mo D K P B E vl L deep (q:Nat) cH dB dc pc∧aH wr Nb #[.int .i64 k,.string t,.int .i64 m,.slice a N cc] 24∧aH wr X (jh k m row gG (.string ⟨#[]⟩) (.bool false) (.slice none 0 0) (.int .i64 0) (.bool false) (.int .i64 0) (joinL ks) ctx) 345∧Grow 1 219 zH (X+1) wr row ks∧aB (fun i=>i=C) u wr)) (fun i _=>N-(intOf i).toNat)
 case atStart=>exact⟨0,p+1,.slice none 0 0,[],Nat.zero_le _,rfl,Z_ rfl,Z_ (by have:=SQ.out;rw [List.drop_zero];exact this),HT,Z_ ⟨wV.out,HB3.out,HX.out,Rk.out,wR.out⟩⟩
 clear wV HB3 HX Rk wR HT
 case round=>
  obtain⟨j,q,row,ks,hj,rfl,qx,HQ,HT,HS⟩:=hrel;by_cases hlt:j<N
  ·have hji:(j:Int)<(N:Int):=by omega
   have hjd:decide ((j:Int)<(N:Int))=true:=by simpa using hji
   have hjl:j<l.length:=by rw [HN.out];exact hlt
   obtain⟨b,o,rfl,hb,uv,hu,hus,hcl⟩:=HI.out W (aB.refl _ _) j hjl;rw [bK] at hb;have hE:=HS.out.1.ext;have hbl:=Nat.lt_of_lt_of_le hb hE.size;have KD:=Z_ (HIH.out l[j] (List.getElem_mem hjl));have hT:=HT.out;rw [List.drop_eq_getElem_cons hjl,Ib] at hT;have hQ:=HQ.out;rw [List.drop_eq_getElem_cons hjl] at hQ;simp only [kJ] at hQ;generalize l[j]=y at hu hT hQ KD;have HU:=Z_ hu;obtain⟨k1,t1,m1,a1,N1,c1,rfl⟩:=bU hu;have q0:wr.cell? ⟨b,o+j*4,none⟩=some (.int .i64 k1):=(hE.cell (p:=⟨b,o+j*4,none⟩) hb id).trans ((az _ W).2 _ _ ((hcl 0 (by decide)).trans rfl));have q1:wr.cell? ⟨b,o+j*4+1,none⟩=some (.string t1):=(hE.cell (p:=⟨b,o+j*4+1,none⟩) hb id).trans ((az _ W).2 _ _ ((hcl 1 (by decide)).trans rfl));have q2:wr.cell? ⟨b,o+j*4+2,none⟩=some (.int .i64 m1):=(hE.cell (p:=⟨b,o+j*4+2,none⟩) hb id).trans ((az _ W).2 _ _ ((hcl 2 (by decide)).trans rfl))
   have q3:wr.cell? ⟨b,o+j*4+3,none⟩=some (.slice a1 N1 c1):=(hE.cell (p:=⟨b,o+j*4+3,none⟩) hb id).trans ((az _ W).2 _ _ ((hcl 3 (by decide)).trans rfl));have Rl:=(aB.refl (fun _=>False) wr).alloc (.cells #[.int .i64 k1,.string t1,.int .i64 m1,.slice a1 N1 c1] 24);have HK:=Z_ (aH.made wr #[.int .i64 k1,.string t1,.int .i64 m1,.slice a1 N1 c1] 24);have uT:=Z_ (show CS W _ C Mo D K P B E vl L deep (q:Nat) cH dB dc pc∧aH _ Nb #[.int .i64 k,.string t,.int .i64 m,.slice (some ⟨b,o,none⟩) N cc] 24∧aH _ X (jh k m row gG (.string ⟨#[]⟩) (.bool false) (.slice none 0 0) (.int .i64 0) (.bool false) (.int .i64 0) (joinL ks) ctx) 345∧Grow 1 219 zH (X+1) _ row ks∧aB (fun i=>i=C) u _ from⟨HS.out.1.extend Rl,HS.out.2.1.ext Rl,HS.out.2.2.1.ext Rl,HS.out.2.2.2.1.aO b_ Rl (fun _ e=>e.elim),HS.out.2.2.2.2.ext Rl⟩)
   have hw5:=HS.out.2.2.1.lt;have C_:=Z_ (fun i e=>(bh HS.out.2.2.2.1 i e).2);obtain⟨Kb,hKb⟩:∃ Kb,wr.heap.size=Kb:=⟨_,rfl⟩;rw [hKb] at HK C_ hw5;have Cm:=Z_ hw5;have HT2:=Z_ hT;have oK:=Z_ hQ;clear Rl hT hQ HT HQ hcl hus hu hw5 HS hE;go_upto_region 6 with (fail)
   try rw [hKb]
   have Tm:(wr.alloc (.cells #[.int .i64 k1,.string t1,.int .i64 m1,.slice a1 N1 c1] 24)).heap.size=Kb+1:=by simp [hKb]
   generalize wr.alloc (.cells #[.int .i64 k1,.string t1,.int .i64 m1,.slice a1 N1 c1] 24)=u5 at *;have YA:=Z_ Tm;clear q0 q1 q2 q3 hKb Tm;have hkc:=HK.out.cell;go_wp2_with fail
   refine(KD.out _ false u5 q uT.out.1 HU.out (by have:=oK.out;omega)).mono ?_
   rintro e w6 ⟨yQ,Pe⟩;obtain⟨R6,hR6⟩:∃ R6,wY E L ctx false y q=R6:=⟨_,rfl⟩;have hT2:=HT2.out;rw [hR6] at hT2 Pe;clear HT2 hR6 hkc;cases R6 with
   | bad c9 p9=>
    have pJ:=Z_ (show T=.bad c9 p9 from hT2.symm);have iU:=uT.out.2.2.2.2.then yQ
    obtain rfl:e=_:=Pe;clear hT2;go_wp2_with fail
    refine⟨rfl,?_⟩
    rw [pJ.out];exact⟨iU,rfl⟩
   | ok t6=>
    obtain⟨g6,rfl,ND,uf,hc6,EO⟩:=Pe;rw [YA.out] at uf ND;have yR:=Z_ (show CS W w6 C Mo D K P B E vl L deep ((q+fP y):Nat) cH dB dc pc∧aH w6 Nb #[.int .i64 k,.string t,.int .i64 m,.slice (some ⟨b,o,none⟩) N cc] 24∧aH w6 X (jh k m row gG (.string ⟨#[]⟩) (.bool false) (.slice none 0 0) (.int .i64 0) (.bool false) (.int .i64 0) (joinL ks) ctx) 345∧Grow 1 219 zH (X+1) w6 row ks∧aB (fun i=>i=C) u w6 from⟨uT.out.1.kV yQ hc6,uT.out.2.1.aO yQ (by have:=Yy.out;have:=EL.out;omega),uT.out.2.2.1.aO yQ (by have:=DW.out;omega),uT.out.2.2.2.1.aO b_ yQ (fun i e=>by have:=DW.out;omega),uT.out.2.2.2.2.then yQ⟩)
    have YB:=Z_ (show zH t6 (.pointer (some ⟨g6,0,none⟩)) (hide (bM (X+1) row) w6) from⟨gm (aZ (Nat.le_refl _) fun i hi hm=>by
     simp only [below,decide_eq_false_iff_not] at hm;refine⟨?_,rfl⟩
     simp only [bM,Bool.or_eq_false_iff,decide_eq_false_iff_not];refine⟨by have:=Cm.out;omega,fun e=>?_⟩
     have:=C_.out i e;omega) _ _ uf,g6,rfl⟩)
    have Q3:=Z_ (show (yP E L ctx (l.drop (j+1)) (q+fP y) (ks ++ [t6])).bind (fun ks=>ug E L ctx alone k t m ks p)=T from hT2);have OA:=Z_ ND;clear yQ uf hc6 EO hT2 ND uT HK;obtain⟨ra,rc,hrow,-,-⟩:=dV yR.out.2.2.2.1;rw [qx.out] at hrow;subst hrow;obtain⟨us,hu1,ho,hu3⟩:=yR.out.2.2.2.1.ex;rw [qx.out] at ho;have HO:=Z_ ho;have GN:=Z_ (And.intro hu1 hu3);obtain⟨jc,jd,hz0,hz1,hz2⟩:=aX KZ;clear ho hu1 hu3;have mW:=yR.out.2.2.1.cell;have Ci:=yR.out.2.2.1.frozen;have hxl:=yR.out.2.2.1.lt;unfold jh at mW;go_upto_region 8 with (at_builtin;refine wpList_append_lies _ rfl _ _ 341 rfl (X+1) 219 jc (.pointer none) 1 8 Tryz.underlying341 jd hz0 hz1 hz2 rfl (by decide) (.slice ra j rc) j (us.flatMap fun u=>u.cells.toList) rfl (HO.out.alloc _) ⟨w6.heap.size,0,none⟩ 1 1 [.pointer (some ⟨g6,0,none⟩)] rfl rfl (by intro j z_ hj;have e:(⟨w6.heap.size,0,none⟩:Addr).add j=⟨w6.heap.size,j,none⟩:=(by unfold Addr.add;split<;>simp_all);rw [e,(aH.made w6 _ _).cell];simpa using hj) (by intro z_ kW;simp only [List.mem_cons,List.not_mem_nil,or_false] at kW;subst kW;rfl) (by decide) (by unfold maxLen;omega) (by omega) (by simp;omega) (w6.heap.size+1) (by simp) ?_;intro g c' w9 hown hgrow hat hlt1;have Ak:=Z_ (uD b_ GN.out.1 GN.out.2 (x:=t6) (v:=.pointer (some ⟨g6,0,none⟩)) YB.out rfl (by rw [qx.out];exact hown) hgrow hat);have kR:=Z_ (yR.out.2.2.1.aO Ak.out.2 (fun e=>by have:=C_.out _ e;have h2:=bh yR.out.2.2.2.1 _ e;omega));have q1:=kR.out.cell;have Pg:=kR.out.frozen;have Ph:=kR.out.lt;unfold jh at q1;clear hown hgrow hat mW Ci hxl)
    rw [qx.out] at Ak;have hgr:=Ak.out.1;have hgc:=Ak.out.2;have Rn:=ak (S:=X) (aB.refl _ w9) 2 (.slice (some ⟨g,0,none⟩) (j+1) c');have hrl:∀ i,(Value.slice ra j rc).ownBlock=some i→X+1≤i:=fun i e=>(bh yR.out.2.2.2.1 i e).1
    have J6:=Z_ (show CS W _ C Mo D K P B E vl L deep ((q+fP y):Nat) cH dB dc pc∧aH _ Nb #[.int .i64 k,.string t,.int .i64 m,.slice (some ⟨b,o,none⟩) N cc] 24∧aH _ X (jh k m (.slice (some ⟨g,0,none⟩) (j+1) c') gG (.string ⟨#[]⟩) (.bool false) (.slice none 0 0) (.int .i64 0) (.bool false) (.int .i64 0) (joinL ks) ctx) 345∧Grow 1 219 zH (X+1) _ (.slice (some ⟨g,0,none⟩) (j+1) c') (ks ++ [t6])∧aB (fun i=>i=C) u _ from⟨(yR.out.1.far hgc (fun i e=>by have:=hrl i e;have:=GG.out;omega) (fun i e e2=>by have:=Hf.out i e;have:=hrl i e2;have:=GM.out;omega)).far Rn (fun i e=>by have:=GG.out;omega) (fun i e e2=>by have:=Hf.out i e;have:=GM.out;omega),(yR.out.2.1.aO hgc (fun e=>by have:=hrl _ e;have:=GM.out;omega)).aO Rn (by have:=GM.out;omega),kR.out.set 2 _,hgr.aO b_ Rn (fun i e=>by omega),(yR.out.2.2.2.2.trans hgc (fun i hi e=>by have:=hrl i e;have:=Yz.out;omega)).trans Rn (fun i hi e=>by have:=Yz.out;omega)⟩)
    have hKy:bZ (hide (bM (X+1) (.slice ra j rc)) w6) (hide (bM (X+1) (.slice ra j rc)) (w9.setCell ⟨X,2,none⟩ (.slice (some ⟨g,0,none⟩) (j+1) c'))):=(aC hgc fun i _ e=>by simp [bM,e]).trans (aC Rn fun i _ e=>by simp [bM,e]);have HY9:=Z_ (gm (az _ _) _ _ (gm hKy _ _ YB.out.1));clear q1 Pg Ph Ak kR hgr hgc Rn hrl yR YB hKy GN HO;generalize w9.setCell ⟨X,2,none⟩ (.slice (some ⟨g,0,none⟩) (j+1) c')=w8 at *;obtain⟨g7,ya,yb,s0,s1,s2,s3,s4,s5,e9,hy9,Pj,-⟩:=mZ HY9.out;cases e9
    have Tn:w8.cell? ⟨g6,14,none⟩=some (.int .i64 t6.lab):=Pj 14 (by decide);have Tq:=Z_ (EY ks t6);obtain⟨z6,hz6⟩:∃ z6,t6.lab=z6:=⟨_,rfl⟩;rw [hz6] at Tn Tq;obtain⟨z5,Tt⟩:∃ z5,joinL ks=z5:=⟨_,rfl⟩;rw [Tt] at J6 Tq;clear Pj hz6 Tt;refine ah [9,12] (fun i v _=>v=([.pointer (some ⟨X,0,none⟩),.pointer (some ⟨X,0,none⟩),.pointer (some ⟨X,0,none⟩),.pointer (some ⟨X,14,none⟩),.int .i64 z5,.pointer (some ⟨g6,0,none⟩),.pointer (some ⟨g6,0,none⟩),.pointer (some ⟨g6,14,none⟩),.int .i64 z6,undef,.pointer (some ⟨X,0,none⟩),.pointer (some ⟨X,14,none⟩),undef]:List Value).getD i undef) (tK (.int .i64 (iM z5 z6)) (fun u9=>Ext w8 u9) (fun u9=>aH u9 X (jh k m (.slice (some ⟨g,0,none⟩) (j+1) c') gG (.string ⟨#[]⟩) (.bool false) (.slice none 0 0) (.int .i64 0) (.bool false) (.int .i64 0) (iM z5 z6) ctx) 345∧aB (fun i=>i=X) w8 u9)) (fun _ _=>True) (frame:=?ad1) (fun x=>?YC) bn.mixed (by kernel_rfl) (by kernel_rfl) (fun _ _ _ _ h _=>h) ?h0j ?stj ?YD
    case YC=>
     simp only [chain.aK,chain.fill,chain.bf,chain.aW,jJ,jK,jL,jM,jO,jP,jQ,jR,jS];exact rfl
    case h0j=>exact(aB.refl _ _).drew
    case stj=>
     iterate 13 (refine ai.cons (fun x vs u hF hm hb hd K' hK'=>?_) ?_;rotate_left)
     exact ai.nil
     ·have HF:=Z_ hF;clear hd hm hb hF;go_simp;exact hK'.out _ _ _ (rfl) trivial ⟨rfl,HF.out⟩
     ·have HF:=Z_ hF;clear hd hm hb hF;go_simp;exact hK'.out _ _ _ (rfl) trivial ⟨rfl,HF.out⟩
     ·have y0:x 45=.pointer (some ⟨X,0,none⟩):=(D_ hd 1 :);have HF:=Z_ hF;clear hd hm hb hF;go_simp;exact hK'.out _ _ _ (by simp only [y0];rfl) trivial ⟨rfl,HF.out⟩
     ·have y0:x 46=.pointer (some ⟨X,0,none⟩):=(D_ hd 2 :);have HF:=Z_ hF;clear hd hm hb hF;go_simp;exact hK'.out _ _ _ (by simp only [y0];rfl) trivial ⟨rfl,HF.out⟩
     ·have g_:=tK.P hF (by have:=hb 0 _ (by decide) rfl (by kernel_rfl);omega);have hq:=(J6.out.2.2.1.ext g_).cell;unfold jh at hq;clear g_;have y0:x 47=.pointer (some ⟨X,14,none⟩):=(D_ hd 3 :);have HF:=Z_ hF;clear hd hm hb hF;go_simp;exact hK'.out _ _ _ (by simp only [y0];rfl) trivial ⟨rfl,HF.out⟩
     ·have HF:=Z_ hF;clear hd hm hb hF;go_simp;exact hK'.out _ _ _ (rfl) trivial ⟨rfl,HF.out⟩
     ·have y0:x 49=.pointer (some ⟨g6,0,none⟩):=(D_ hd 5 :);have HF:=Z_ hF;clear hd hm hb hF;go_simp;exact hK'.out _ _ _ (by simp only [y0];rfl) trivial ⟨rfl,HF.out⟩
     ·have y0:x 50=.pointer (some ⟨g6,0,none⟩):=(D_ hd 6 :);have HF:=Z_ hF;clear hd hm hb hF;go_simp;exact hK'.out _ _ _ (by simp only [y0];rfl) trivial ⟨rfl,HF.out⟩
     ·have g_:=tK.P hF (by have:=hb 0 _ (by decide) rfl (by kernel_rfl);omega);have hq:=(g_.cell (p:=⟨g6,14,none⟩) hy9 id).trans Tn;clear g_;have y0:x 51=.pointer (some ⟨g6,14,none⟩):=(D_ hd 7 :);have HF:=Z_ hF;clear hd hm hb hF;go_simp;exact hK'.out _ _ _ (by simp only [y0];rfl) trivial ⟨rfl,HF.out⟩
     ·obtain rfl:=kF hm;have y0:x 48=.int .i64 z5:=(D_ hd 4 :);have y1:x 52=.int .i64 z6:=(D_ hd 8 :);have HF:=Z_ hF;clear hd hm hb hF;go_simp;refine(uZ _ _ _).mono ?_
      rintro e u2 ⟨rfl,rfl⟩;exact hK'.out _ _ _ (by simp only [y0,y1];rfl) trivial ⟨rfl,HF.out⟩
     ·have y0:x 44=.pointer (some ⟨X,0,none⟩):=(D_ hd 0 :);have HF:=Z_ hF;clear hd hm hb hF;go_simp;exact hK'.out _ _ _ (by simp only [y0];rfl) trivial ⟨rfl,HF.out⟩
     ·have y0:x 54=.pointer (some ⟨X,0,none⟩):=(D_ hd 10 :);have HF:=Z_ hF;clear hd hm hb hF;go_simp;exact hK'.out _ _ _ (by simp only [y0];rfl) trivial ⟨rfl,HF.out⟩
     ·obtain⟨v0,rfl⟩:=lK hm
      have y0:x 55=.pointer (some ⟨X,14,none⟩):=(D_ hd 11 :);have y1:x 53=v0:=((D_ hd 9) 53 (by kernel_rfl) :);obtain⟨rfl,kG⟩:=hF;have hq:=(J6.out.2.2.1.ext kG).cell;have yI:=(J6.out.2.2.1.ext kG).frozen;have kN:=(J6.out.2.2.1.ext kG).lt;unfold jh at hq;have HF:=Z_ kG;clear hd hm hb kG;go_simp;exact hK'.out _ _ undef (by simp only [y0,y1];rfl) trivial ⟨(J6.out.2.2.1.ext HF.out).set 14 _,ak (HF.out.weak fun _ _ e=>e.elim) 14 _⟩
    case YD=>
     intro x9 qj w7 hl hF hk9;obtain⟨v0,v1,rfl⟩:=CV hl
     obtain⟨Tu,CB⟩:=hF;have HS7:=Z_ (show CS W w7 C Mo D K P B E vl L deep ((q+fP y):Nat) cH dB dc pc∧aH w7 Nb #[.int .i64 k,.string t,.int .i64 m,.slice (some ⟨b,o,none⟩) N cc] 24∧aH w7 X (jh k m (.slice (some ⟨g,0,none⟩) (j+1) c') gG (.string ⟨#[]⟩) (.bool false) (.slice none 0 0) (.int .i64 0) (.bool false) (.int .i64 0) (joinL (ks ++ [t6])) ctx) 345∧Grow 1 219 zH (X+1) w7 (.slice (some ⟨g,0,none⟩) (j+1) c') (ks ++ [t6])∧aB (fun i=>i=C) u w7 from⟨J6.out.1.far CB (fun i e=>by have:=GG.out;omega) (fun i e e2=>by have:=Hf.out i e;have:=GM.out;omega),J6.out.2.1.aO CB (by have:=GM.out;omega),by rw [Tq.out];exact Tu,J6.out.2.2.2.1.aO b_ CB (fun i e=>by omega),J6.out.2.2.2.2.trans CB (fun i hi e=>by have:=Yz.out;omega)⟩);clear hk9 hl Tu CB;go_wp2_with fail
     go_roundw
     case rel=>exact⟨j+1,q+fP y,_,ks ++ [t6],by omega,by go_num,Z_ (by rw [List.length_append,qx.out];rfl),Z_ (by have:=oK.out;omega),Q3,HS7⟩
     case measure=>simp [intOf];omega
  ·obtain rfl:j=N:=by omega
   have hjd:decide ((j:Int)<(j:Int))=false:=by simp
   have hT:=HT.out;have hQ:=HQ.out;rw [List.drop_of_length_le (by rw [HN.out];exact Nat.le_refl _)] at hT hQ;have hR0:yP E L ctx [] q ks=.ok ks:=by unfold yP;simp [qG,Rz.bind]
   rw [hR0] at hT;obtain rfl:q=pe:=hQ;have Ro:=Z_ (show ug E L ctx alone k t m ks p=T from hT);obtain⟨ra,rc,hrow,hr1,hr2,hr3⟩:=HS.out.2.2.2.1.row b_ qZ;have HKR:=Z_ hr3;have Tv:u.heap.size≤X:=by have:=yG.out;have:=GM.out;omega
   have yA:=Z_ Tv;clear hT hR0 HT HQ hr3 Tv HIH HI;subst hrow;have hbc:=HS.out.2.1.cell;by_cases h67:k=16∨k=17
   ·have Xr:=Z_ (show ((uU E L t p).bind fun r=>if decide (0<r.size)=decide (k=17) then (.ok (.mk k m ks r (iM (joinL ks) r.label) ctx):Rz Tr) else .bad 3 p)=T by have h:=Ro.out;unfold ug at h;rw [if_pos h67] at h;exact h)
    have HV:=Z_ (yS HS.out.1 tC.out t hl3 Q4.out p);obtain⟨RV,Tz⟩:∃ RV,uU E L t p=RV:=⟨_,rfl⟩;rw [Tz] at Xr HV;have H67:=Z_ h67;clear Tz Ro h67;go_upto_if 59 with (fail)
    go_cut [59] (fun s w'=>s=.bool true∧w'=wr)
    case first=>
     rcases H67.out with rfl|rfl
     all_goals
      go_wp2_with fail
      go_meet
      exact⟨rfl,rfl⟩
    case rest=>
     obtain⟨rfl,hwc⟩:=hcut;subst hwc;go_wp2_with fail
     refine HV.out.mono ?_
     rintro e w7 ⟨Ie,h7⟩;cases RV with
     | bad c9 p9=>
      have pJ:=Z_ (show T=.bad c9 p9 from Xr.out.symm);obtain rfl:e=_:=h7;have iU:=HS.out.2.2.2.2.trans Ie (fun i hi e=>e.elim);go_wp2_with fail
      refine⟨rfl,?_⟩
      rw [pJ.out];exact⟨iU,rfl⟩
     | ok r=>
      obtain⟨rfl,hro⟩:=h7;have HRO:=Z_ hro;obtain⟨r0,r1,r2,r3,r4⟩:=r;unfold TA;have Xt:=Z_ (show (if decide (0<r4)=decide (k=17) then (.ok (.mk k m ks ⟨r0,r1,r2,r3,r4⟩ (iM (joinL ks) r3) ctx):Rz Tr) else .bad 3 p)=T from Xr.out);have CU:=Z_ (HS.out.2.2.1.ext Ie);have HB7:=Z_ (HS.out.2.1.ext Ie);have SJ:=Z_ (HS.out.2.2.2.1.aO b_ Ie (fun _ e=>e.elim));have HC7:=Z_ (HS.out.1.extend Ie);have HE7:=Z_ (HS.out.2.2.2.2.ext Ie);clear hro Xr HV Ie hbc HS;have mW:=CU.out.cell;have Ci:=CU.out.frozen;have hxl:=CU.out.lt;unfold jh at mW;go_upto_region 14 with (fail)
      have CB:=ak (ak (ak (ak (ak (S:=X) (aB.refl _ w7) 3 (.int .i64 r0)) 4 (.string r1)) 5 (.string r2)) 6 (.int .i64 r3)) 7 (.int .i64 r4);have Cj:=Z_ (((((CU.out.set 3 (.int .i64 r0)).set 4 (.string r1)).set 5 (.string r2)).set 6 (.int .i64 r3)).set 7 (.int .i64 r4));replace Cj:=Z_ (show aH _ X (jh k m (.slice ra ks.length rc) ⟨r0,r1,r2,r3,r4⟩ (.string ⟨#[]⟩) (.bool false) (.slice none 0 0) (.int .i64 0) (.bool false) (.int .i64 0) (joinL ks) ctx) 345 from Cj.out);have HB8:=Z_ (HB7.out.aO CB (by have:=GM.out;omega));have QZ:=Z_ (SJ.out.aO b_ CB (fun i e=>by omega));have HC8:=Z_ (HC7.out.far CB (fun i e=>by have:=GG.out;omega) (fun i e e2=>by have:=Hf.out i e;have:=GM.out;omega));have YE:=Z_ (HE7.out.trans CB (fun i hi e=>by have:=yA.out;omega))
      clear mW Ci hxl CB CU HB7 SJ HC7 HE7;generalize ((((w7.setCell ⟨X,3,none⟩ (.int .i64 r0)).setCell ⟨X,4,none⟩ (.string r1)).setCell ⟨X,5,none⟩ (.string r2)).setCell ⟨X,6,none⟩ (.int .i64 r3)).setCell ⟨X,7,none⟩ (.int .i64 r4)=w8 at *;have mW:=Cj.out.cell;unfold jh at mW;have hbc:=HB8.out.cell;obtain⟨b1,hb1⟩:∃ b1,decide (0<r4)=b1:=⟨_,rfl⟩;obtain⟨b2,hb2⟩:∃ b2,(k == 17)=b2:=⟨_,rfl⟩;have Rq:=Z_ (show decide (0<r4)=b1∧decide (k=17)=b2 from⟨hb1,by rw [←hb2];by_cases e:k=17<;>simp [e]⟩);by_cases hbb:b1=b2
      ·subst hbb
       have hbe:(b1 == b1)=true:=by simp
       have pJ:=Z_ (show T=.ok (.mk k m ks ⟨r0,r1,r2,r3,r4⟩ (iM (joinL ks) r3) ctx) by have h:=Xt.out;rw [Rq.out.1,Rq.out.2,if_pos rfl] at h;exact h.symm);clear Xt Rq;go_still_tail 11,(by kernel_rfl)
       go_wp2_with fail
       refine(dK 3 (p:Nat) _).mono ?_
       rintro e w9 ⟨rfl,rfl⟩;have kR:=Z_ Cj.out.drew;have J3:=Z_ (QZ.out.aO b_ (aB.refl (fun _=>False) w8).drew (fun _ e=>e.elim));have Pm:=Z_ (HC8.out.extend (aB.refl _ w8).drew);have yB:=Z_ YE.out.drew;clear mW hbc hb1 hb2 hbe Cj QZ HC8 YE HB8;generalize w8.drew=w9 at *;obtain⟨z5,Tt⟩:∃ z5,joinL ks=z5:=⟨_,rfl⟩;rw [Tt] at kR pJ;clear Tt;go_upto_region 15 with (fail)
       refine ah [10,13] (fun i v _=>v=([.pointer (some ⟨X,0,none⟩),.pointer (some ⟨X,0,none⟩),.pointer (some ⟨X,0,none⟩),.pointer (some ⟨X,14,none⟩),.int .i64 z5,.pointer (some ⟨X,0,none⟩),.pointer (some ⟨X,0,none⟩),.pointer (some ⟨X,3,none⟩),.pointer (some ⟨X,6,none⟩),.int .i64 r3,undef,.pointer (some ⟨X,0,none⟩),.pointer (some ⟨X,14,none⟩),undef]:List Value).getD i undef) (tK (.int .i64 (iM z5 r3)) (fun u9=>Ext w9 u9) (fun u9=>aH u9 X (jh k m (.slice ra ks.length rc) ⟨r0,r1,r2,r3,r4⟩ (.string ⟨#[]⟩) (.bool false) (.slice none 0 0) (.int .i64 0) (.bool false) (.int .i64 0) (iM z5 r3) ctx) 345∧aB (fun i=>i=X) w9 u9)) (fun _ _=>True) (frame:=?ad2) (fun x=>?YF) bn.mixed (by kernel_rfl) (by kernel_rfl) (fun _ _ _ _ h _=>h) ?h0n ?stn ?YG
       case YF=>
        simp only [chain.aK,chain.fill,chain.bf,chain.aW,jJ,jK,jL,jM,jO,jP,jQ,jR,jS];exact rfl
       case h0n=>exact(aB.refl _ _).drew
       case stn=>
        iterate 14 (refine ai.cons (fun x vs u hF hm hb hd K' hK'=>?_) ?_;rotate_left)
        exact ai.nil
        ·have HF:=Z_ hF;clear hd hm hb hF;go_simp;exact hK'.out _ _ _ (rfl) trivial ⟨rfl,HF.out⟩
        ·have HF:=Z_ hF;clear hd hm hb hF;go_simp;exact hK'.out _ _ _ (rfl) trivial ⟨rfl,HF.out⟩
        ·have y0:x 83=.pointer (some ⟨X,0,none⟩):=(D_ hd 1 :);have HF:=Z_ hF;clear hd hm hb hF;go_simp;exact hK'.out _ _ _ (by simp only [y0];rfl) trivial ⟨rfl,HF.out⟩
        ·have y0:x 84=.pointer (some ⟨X,0,none⟩):=(D_ hd 2 :);have HF:=Z_ hF;clear hd hm hb hF;go_simp;exact hK'.out _ _ _ (by simp only [y0];rfl) trivial ⟨rfl,HF.out⟩
        ·have g_:=tK.P hF (by have:=hb 0 _ (by decide) rfl (by kernel_rfl);omega);have hq:=(kR.out.ext g_).cell;unfold jh at hq;clear g_;have y0:x 85=.pointer (some ⟨X,14,none⟩):=(D_ hd 3 :);have HF:=Z_ hF;clear hd hm hb hF;go_simp;exact hK'.out _ _ _ (by simp only [y0];rfl) trivial ⟨rfl,HF.out⟩
        ·have HF:=Z_ hF;clear hd hm hb hF;go_simp;exact hK'.out _ _ _ (rfl) trivial ⟨rfl,HF.out⟩
        ·have y0:x 87=.pointer (some ⟨X,0,none⟩):=(D_ hd 5 :);have HF:=Z_ hF;clear hd hm hb hF;go_simp;exact hK'.out _ _ _ (by simp only [y0];rfl) trivial ⟨rfl,HF.out⟩
        ·have y0:x 88=.pointer (some ⟨X,0,none⟩):=(D_ hd 6 :);have HF:=Z_ hF;clear hd hm hb hF;go_simp;exact hK'.out _ _ _ (by simp only [y0];rfl) trivial ⟨rfl,HF.out⟩
        ·have y0:x 89=.pointer (some ⟨X,3,none⟩):=(D_ hd 7 :);have HF:=Z_ hF;clear hd hm hb hF;go_simp;exact hK'.out _ _ _ (by simp only [y0];rfl) trivial ⟨rfl,HF.out⟩
        ·have g_:=tK.P hF (by have:=hb 0 _ (by decide) rfl (by kernel_rfl);omega);have hq:=(kR.out.ext g_).cell;unfold jh at hq;clear g_;have y0:x 90=.pointer (some ⟨X,6,none⟩):=(D_ hd 8 :);have HF:=Z_ hF;clear hd hm hb hF;go_simp;exact hK'.out _ _ _ (by simp only [y0];rfl) trivial ⟨rfl,HF.out⟩
        ·obtain rfl:=kF hm;have y0:x 86=.int .i64 z5:=(D_ hd 4 :);have y1:x 91=.int .i64 r3:=(D_ hd 9 :);have HF:=Z_ hF;clear hd hm hb hF;go_simp;refine(uZ _ _ _).mono ?_
         rintro e u2 ⟨rfl,rfl⟩;exact hK'.out _ _ _ (by simp only [y0,y1];rfl) trivial ⟨rfl,HF.out⟩
        ·have y0:x 82=.pointer (some ⟨X,0,none⟩):=(D_ hd 0 :);have HF:=Z_ hF;clear hd hm hb hF;go_simp;exact hK'.out _ _ _ (by simp only [y0];rfl) trivial ⟨rfl,HF.out⟩
        ·have y0:x 93=.pointer (some ⟨X,0,none⟩):=(D_ hd 11 :);have HF:=Z_ hF;clear hd hm hb hF;go_simp;exact hK'.out _ _ _ (by simp only [y0];rfl) trivial ⟨rfl,HF.out⟩
        ·obtain⟨v0,rfl⟩:=lK hm
         have y0:x 94=.pointer (some ⟨X,14,none⟩):=(D_ hd 12 :);have y1:x 92=v0:=((D_ hd 10) 92 (by kernel_rfl) :);obtain⟨rfl,kG⟩:=hF;have hq:=(kR.out.ext kG).cell;have yI:=(kR.out.ext kG).frozen;have kN:=(kR.out.ext kG).lt;unfold jh at hq;have HF:=Z_ kG;clear hd hm hb kG;go_simp;exact hK'.out _ _ undef (by simp only [y0,y1];rfl) trivial ⟨(kR.out.ext HF.out).set 14 _,ak (HF.out.weak fun _ _ e=>e.elim) 14 _⟩
       case YG=>
        intro x9 qj w7 hl hF hk9;obtain⟨v0,v1,rfl⟩:=CV hl
        obtain⟨Tu,CB⟩:=hF;have htr:=yO Tu (J3.out.aO b_ CB (fun i e=>by omega)) yA.out HRO.out;have hcb:=Pm.out.c.aO CB (by have:=DW.out;omega);have iU:=yB.out.trans CB (fun i hi e=>by have:=yA.out;omega);have EP:=Z_ (And.intro htr (And.intro hcb iU));clear hk9 hl Tu CB htr hcb iU;go_wp2_with fail
        go_ret
        rw [pJ.out];exact⟨EP.out.2.2,X,rfl,yA.out,EP.out.1,EP.out.2.1,rfl⟩
      ·have hbe:(b1 == b2)=false:=beq_eq_false_iff_ne.2 hbb
       have pJ:=Z_ (show T=.bad 3 p by have h:=Xt.out;rw [Rq.out.1,Rq.out.2,if_neg hbb] at h;exact h.symm);clear Xt Rq hbb;go_still_tail 11,(by kernel_rfl)
       go_wp2_with fail
       refine(eY 3 (p:Nat) _).mono ?_
       rintro e w9 ⟨rfl,rfl⟩;go_wp2_with fail
       refine⟨rfl,?_⟩
       rw [pJ.out];exact⟨YE.out.drew,rfl⟩
   ·have h16:(k == 16)=false:=beq_eq_false_iff_ne.2 (by omega)
    have h17:(k == 17)=false:=beq_eq_false_iff_ne.2 (by omega);by_cases h18:k=18
    ·subst h18
     have YH:=Z_ (show ((qV E ctx alone t ks p).bind fun r=>(.ok (.mk 18 m ks r.1 r.2 ctx):Rz Tr))=T by have h:=Ro.out;unfold ug at h;rw [if_neg (by decide),if_pos rfl] at h;exact h)
     have hK:bZ (hide (below (X+1)) wr) (hide (fun i=>decide (i=X)) wr):=aZ (Nat.le_refl _) fun i hi hm=>by
      simp only [below,decide_eq_false_iff_not] at hm ⊢;exact⟨by omega,trivial⟩
     have NF:=Z_ (uN HS.out.1 tC.out (X:=X) (k0:=18) (m0:=m) (l0:=joinL ks) (ctx:=ctx) (t:=t) (n1:=m) (n2:=.slice a j cc) alone p HS.out.2.2.1 (HKR.out.keeps hK (jT hK)) hr1 (by rw [qx.out];omega) hl3 (by have:=HWC.out;have:=yA.out;omega) GG.out ⟨_,_,_,rfl⟩);obtain⟨RC,hRC⟩:∃ RC,qV E ctx alone t ks p=RC:=⟨_,rfl⟩;rw [hRC] at YH NF;clear hRC Ro h67 hK;go_wp2_with fail
     refine NF.out.mono ?_
     rintro e w7 ⟨O4,h7⟩;cases RC with
     | bad c9 p9=>
      have pJ:=Z_ (show T=.bad c9 p9 from YH.out.symm);obtain rfl:e=_:=h7;have iU:=HS.out.2.2.2.2.trans O4 (fun i hi e=>by have:=yA.out;omega);go_wp2_with fail
      refine⟨rfl,?_⟩
      rw [pJ.out];exact⟨iU,rfl⟩
     | ok r=>
      obtain⟨rfl,hro,y0,y1,y2,y3,y4,y5,hX7⟩:=h7;have pJ:=Z_ (show T=.ok (.mk 18 m ks r.1 r.2 ctx) from YH.out.symm);have iU:=HS.out.2.2.2.2.trans O4 (fun i hi e=>by have:=yA.out;omega);have htr:=yO hX7 (HS.out.2.2.2.1.aO b_ O4 (fun i e=>by omega)) yA.out hro;have hcb:=HS.out.1.c.aO O4 (by have:=DW.out;omega);go_wp2_with fail
      go_ret
      rw [pJ.out];exact⟨iU,X,rfl,yA.out,htr,hcb,rfl⟩
    ·have ad3:(k == 18)=false:=beq_eq_false_iff_ne.2 h18
     have pJ:=Z_ (show T=.ok (.mk k m ks gG (joinL ks) ctx) by have h:=Ro.out;unfold ug at h;rw [if_neg h67,if_neg h18] at h;exact h.symm);clear h67 h18 Ro;go_wp2_with fail
     go_ret
     rw [pJ.out];exact⟨HS.out.2.2.2.2,X,rfl,yA.out,yO HS.out.2.2.1 HS.out.2.2.2.1 yA.out (by constructor<;>decide),HS.out.1.c,rfl⟩
end chk
end Go.Proofs.YtpcihajmcejliacGreatDoor
namespace Go.Proofs.YtpcihajmcejliacGreatDoor
open Go.RowKit
namespace dn
theorem Ig:(Tryz.prog.info? 340).map (fun i=>(i.zero,i.size,i.bytes))=some (some (.agg #[.string ⟨#[]⟩,.int .i64 0,.int .i64 0]),3,32):=by kernel_rfl
theorem pK:(Tryz.prog.info? 219).map (fun i=>(i.zero,i.size,i.bytes))=some (some (.pointer none),1,8):=by kernel_rfl
end dn
namespace chk
open bn dn
def LS (C P:Nat) (vl:Value):Nat→Prop:=fun i=>i=C∨i=P∨vl.ownBlock=some i
def yC (pr:aI) (pc:Array Value):Prop:=∃ p1 p2 p3 b mo,pc=#[.string pr.name,p1,p2,p3,.bool pr.gives,.int .i64 pr.given,b,.int .i64 mo]∧0≤mo∧mo≤1000
theorem CS.Hl {W u u':World} {C Mo D K P B:Nat} {E:dH} {vl zI:Value} {L L':List Loc} {deep at_ deep' at':Int} {cH dB:Value} {dc pc pc':Array Value} (h:CS W u C Mo D K P B E vl L deep at_ cH dB dc pc) (hC:aB (LS C P vl) u u') (hc:aH u' C (qw Mo K zI deep' at' P) 221) (hp:aH u' P pc' 297) (hl:Grow 3 340 wX B u' zI L'):CS W u' C Mo D K P B E zI L' deep' at' cH dB dc pc':=by
 obtain⟨n,hn,hk⟩:=h.k;have h1:=h.hC;have h2:=h.hP;have h3:=h.cM;have h4:=h.cK;have h5:=h.mP;have h6:=h.kP;have h7:=h.mB;have h8:=h.kB;have h9:=h.hu;have h10:=h.ext.size;have h11:=h.cB
 have ho:=bh h.loc
 have hW:∀ i,LS C P vl i→W.heap.size≤i:=fun i e=>by
  rcases e with e|e|e
  ·omega
  ·omega
  ·have:=ho i e;omega
 exact⟨h.ext.trans hC (fun i hi e=>by have:=hW i e;omega),hc,h.mo.aO hC (fun e=>by
   rcases e with e|e|e
   ·omega
   ·omega
   ·have:=ho _ e;omega),h.d,h.own,⟨n,hn,hk.aO hC (fun e=>by
   rcases e with e|e|e
   ·omega
   ·omega
   ·have:=ho _ e;omega)⟩,hp,hl,h1,h.hM,h.hK,h2,h11,h7,h8,h.pB,h3,h4,h.cP,h.mK,h5,h6,Nat.le_trans h9 hC.size⟩
theorem yM {α : Type} {k:Nat} {E:TypeId} {V:α→Value→World→Prop} {B:Nat} {w:World} {row:Value} {acc:List α} (h:je (fun _=>false) k E V B w row acc):Grow k E V B w row acc:=by
 obtain⟨us,h1,h2,h3⟩:=h.ex;exact⟨us,h1,h2,fun j hj hj'=>by have h4:=h3 j hj hj';simpa using h4⟩
def MK (u0 u:World) (C Mo K P B:Nat) (vl:Value) (deep at_:Int) (rN r:Value) (lq:List Loc):Prop:=
 aB (fun i=>i=C∨vl.ownBlock=some i) u0 u∧aH u C (qw Mo K rN deep at_ P) 221∧je (fun _=>false) 3 340 wX B u r lq∧(∀ i,r.ownBlock=some i→vl.ownBlock=some i∨u0.heap.size≤i)
def Ih (W u:World) (C Mo D K P B:Nat) (E:dH) (vl:Value) (L L':List Loc) (deep at_:Int) (cH dB:Value) (dc:Array Value) (pr:aI) (e:Ending) (u':World):Prop:=∃ zI pc',e=.returned (.int .i64 (L.length:Nat))∧aB (LS C P vl) u u'∧CS W u' C Mo D K P B E zI L' deep at_ cH dB dc pc'∧yC pr pc'∧(∀ i,zI.ownBlock=some i→vl.ownBlock=some i∨u.heap.size≤i)
set_option maxRecDepth 100000 in
set_option maxHeartbeats 8000000 in
theorem Ag {W u:World} {C Mo D K P B:Nat} {E:dH} {vl:Value} {L:List Loc} {deep at_:Int} {cH dB:Value} {dc pc:Array Value} {pr:aI} (h:CS W u C Mo D K P B E vl L deep at_ cH dB dc pc) (hpc:yC pr pc) (hL:L.length≤100) (t:ByteArray) (ht:t.size≤10000) (lb:Int) :
  Calls Tryz.prog 186 #[.pointer (some ⟨C,0,none⟩),.string t,.int .i64 lb] u (Ih W u C Mo D K P B E vl L (L ++ [⟨t,lb,deep⟩]) deep at_ cH dB dc pr):=by
 obtain⟨p1,p2,p3,bl,mo,rfl,hm0,hm1⟩:=hpc;have HC:=Z_ h;obtain⟨ra,rc,hvl,hr1,hr2⟩:=dV h.loc;have YI:=bh h.loc;rw [hvl] at YI;obtain⟨n,hn⟩:∃ n,L.length=n:=⟨_,rfl⟩;have HN:=Z_ hn;have xx:=Z_ hL;rw [hn] at hvl hL hr1;have hBu:=h.hu;subst hvl;have Am:=YI;rw [hn] at Am;have HOW:=Z_ Am;have hcP:=h.cP;have hcB:=h.cB;have hpB:=h.pB
 have HD:=Z_ (And.intro hcP (And.intro hcB (And.intro hpB hBu)));clear h hn YI Am hcP hcB hpB;go_enter Tryz.func186,Tryz.ntmps186
 go_upto_region 1 with (fail)
 refine ah [12,13,16] (fun i v _=>v=([.pointer (some ⟨C,0,none⟩),.pointer (some ⟨C,0,none⟩),.pointer (some ⟨C,0,none⟩),.pointer (some ⟨C,2,none⟩),.slice ra n rc,.string t,.int .i64 lb,.pointer (some ⟨C,0,none⟩),.pointer (some ⟨C,0,none⟩),.pointer (some ⟨C,3,none⟩),.int .i64 deep,.agg #[.string t,.int .i64 lb,.int .i64 deep],undef,undef,.pointer (some ⟨C,0,none⟩),.pointer (some ⟨C,2,none⟩),undef]:List Value).getD i undef) (dn.eu (fun w rN r lq=>MK u w C Mo K P B (.slice ra n rc) deep at_ rN r lq) (fun _=>false) wX (B) 340 (.slice ra n rc) L ⟨t,lb,deep⟩ (.agg #[.string t,.int .i64 lb,.int .i64 deep])) (fun _ _=>True) (frame:=?YJ) (fun x=>?Pn) bn.mixed (by kernel_rfl) (by kernel_rfl) (fun _ _ _ _ h _=>h) ?YK ?YL ?Po
 case Pn=>
  simp only [chain.aK,chain.fill,chain.bf,chain.aW,jJ,jK,jL,jM,jO,jP,jQ,jR,jS];exact rfl
 case YK=>exact⟨⟨(aB.refl _ _).drew,HC.out.c.drew,eG (mM HC.out.loc D9 (fun _=>false)) gJ (aB.refl (fun _=>False) u).drew (fun i e=>e.elim) (fun i e e2=>e2.elim) (fun i e=>by cases e),fun i e=>.inl e⟩,rfl,ht⟩
 case YL=>
  iterate 17 (refine ai.cons (fun x vs u hF hm hb hd K' hK'=>?_) ?_;rotate_left)
  exact ai.nil
  ·have HF:=Z_ hF;clear hd hm hb hF;go_simp;exact hK'.out _ _ _ (rfl) trivial ⟨rfl,HF.out⟩
  ·have HF:=Z_ hF;clear hd hm hb hF;go_simp;exact hK'.out _ _ _ (rfl) trivial ⟨rfl,HF.out⟩
  ·have y0:x 8=.pointer (some ⟨C,0,none⟩):=(D_ hd 1 :);have HF:=Z_ hF;clear hd hm hb hF;go_simp;exact hK'.out _ _ _ (by simp only [y0];rfl) trivial ⟨rfl,HF.out⟩
  ·have y0:x 9=.pointer (some ⟨C,0,none⟩):=(D_ hd 2 :);have HF:=Z_ hF;clear hd hm hb hF;go_simp;exact hK'.out _ _ _ (by simp only [y0];rfl) trivial ⟨rfl,HF.out⟩
  ·have aP:=dn.eu.B hF (by have:=hb 1 _ (by decide) rfl (by kernel_rfl);omega);have hq:=aP.2.1.cell;unfold qw at hq;clear aP;have y0:x 10=.pointer (some ⟨C,2,none⟩):=(D_ hd 3 :);have HF:=Z_ hF;clear hd hm hb hF;go_simp;exact hK'.out _ _ _ (by simp only [y0];rfl) trivial ⟨rfl,HF.out⟩
  ·have HF:=Z_ hF;clear hd hm hb hF;go_simp;exact hK'.out _ _ _ (rfl) trivial ⟨rfl,HF.out⟩
  ·have HF:=Z_ hF;clear hd hm hb hF;go_simp;exact hK'.out _ _ _ (rfl) trivial ⟨rfl,HF.out⟩
  ·have HF:=Z_ hF;clear hd hm hb hF;go_simp;exact hK'.out _ _ _ (rfl) trivial ⟨rfl,HF.out⟩
  ·have y0:x 14=.pointer (some ⟨C,0,none⟩):=(D_ hd 7 :);have HF:=Z_ hF;clear hd hm hb hF;go_simp;exact hK'.out _ _ _ (by simp only [y0];rfl) trivial ⟨rfl,HF.out⟩
  ·have y0:x 15=.pointer (some ⟨C,0,none⟩):=(D_ hd 8 :);have HF:=Z_ hF;clear hd hm hb hF;go_simp;exact hK'.out _ _ _ (by simp only [y0];rfl) trivial ⟨rfl,HF.out⟩
  ·obtain⟨_,_,_,aP⟩:=dn.eu.any hF;have hq:=aP.2.1.cell;unfold qw at hq;clear aP;have y0:x 16=.pointer (some ⟨C,3,none⟩):=(D_ hd 9 :);have HF:=Z_ hF;clear hd hm hb hF;go_simp;exact hK'.out _ _ _ (by simp only [y0];rfl) trivial ⟨rfl,HF.out⟩
  ·have y0:x 12=.string t:=(D_ hd 5 :);have y1:x 13=.int .i64 lb:=(D_ hd 6 :);have y2:x 17=.int .i64 deep:=(D_ hd 10 :);have HF:=Z_ hF;clear hd hm hb hF;go_simp;exact hK'.out _ _ _ (by simp only [y0,y1,y2];rfl) trivial ⟨rfl,HF.out⟩
  ·obtain rfl:=kF hm;have y0:x 18=.agg #[.string t,.int .i64 lb,.int .i64 deep]:=(D_ hd 11 :);have aP:=hF.1;have HG:=Z_ (dn.bH (aP.2.2.1));have HF:=Z_ hF;clear hd hm hb hF aP;go_simp;exact hK'.out _ _ _ (by simp only [y0];rfl) trivial (dn.fF chk.gJ (fun u' hE=>⟨HF.out.1.1.ext hE,HF.out.1.2.1.ext hE,eG HF.out.1.2.2.1 gJ hE (fun i e=>e.elim) (fun i e e2=>e2.elim) (fun i e=>by cases e),HF.out.1.2.2.2⟩) (fun i e=>(HG.out i e).2) HF.out rfl)
  ·obtain⟨v0,rfl⟩:=lK hm
   have y0:x 11=.slice ra n rc:=(D_ hd 4 :);have y1:x 19=v0:=((D_ hd 12) 19 (by kernel_rfl) :);have hF2:=hF;obtain⟨aP,hxx,gg,rfl,hgb,hgr⟩:=hF2;obtain⟨us,hu1,ho,hu3⟩:=(aP.2.2.1).ex;obtain⟨jc,jd,hz0,hz1,hz2⟩:=bn.aX dn.Ig;have hbz:B≤u.heap.size:=by have:=HD.out.2.2.2;have:=aP.1.size;omega
   refine wp_append_lies _ _ _ 217 rfl (B) 340 jc (.agg #[.string ⟨#[]⟩,.int .i64 0,.int .i64 0]) 3 32 Tryz.underlying217 jd hz0 hz1 hz2 rfl (by decide) (.slice ra n rc) L.length (us.flatMap fun u=>u.cells.toList) y0 ho ⟨gg,0,none⟩ 1 1 [.string t,.int .i64 lb,.int .i64 deep] y1 rfl ?_ (by intro z_ kW;simp only [List.mem_cons,List.not_mem_nil,or_false] at kW;rcases kW with rfl|rfl|rfl<;>rfl) (by decide) (by unfold maxLen;have:=xx.out;omega) (by have:=xx.out;omega) hbz u.heap.size rfl ?_
   ·intro j q hj;have e:(⟨gg,0,none⟩:Addr).add j=⟨gg,j,none⟩:=(by unfold Addr.add;split<;>simp_all);rw [e,hgb.cell];simpa [Value.cells] using hj
   ·intro g9 c9 w9 iQ iJ jU qF
    exact hK'.out _ _ _ rfl trivial (dn.eF chk.gJ hF hu1 hu3 rfl (fun r sD hG hC ha=>⟨aP.1.trans hC (fun i hi e=>.inr e),aP.2.1.aO hC (fun e=>by have:=HOW.out _ e;have:=HD.out.2.1;omega),hG,fun i e=>by rcases ha i e with h9|h9;exact .inl h9;exact .inr (by have:=aP.1.size;omega)⟩) iQ iJ jU)
  ·have y0:x 7=.pointer (some ⟨C,0,none⟩):=(D_ hd 0 :);have HF:=Z_ hF;clear hd hm hb hF;go_simp;exact hK'.out _ _ _ (by simp only [y0];rfl) trivial ⟨rfl,HF.out⟩
  ·have y0:x 21=.pointer (some ⟨C,0,none⟩):=(D_ hd 14 :);have HF:=Z_ hF;clear hd hm hb hF;go_simp;exact hK'.out _ _ _ (by simp only [y0];rfl) trivial ⟨rfl,HF.out⟩
  ·obtain⟨v0,v1,rfl⟩:=qX hm
   have y0:x 22=.pointer (some ⟨C,2,none⟩):=(D_ hd 15 :);have y1:x 20=v1:=((D_ hd 13) 20 (by kernel_rfl) :);have hF2:=hF;obtain⟨aP,gg,cc,rfl⟩:=hF2;have hq:=aP.2.1.cell;have yI:=aP.2.1.frozen;have kN:=aP.2.1.lt;unfold qw at hq;have HF:=Z_ hF;clear hd hm hb hF aP;go_simp;exact hK'.out _ _ undef (by simp only [y0,y1];rfl) trivial (dn.fG (z:=undef) HF.out (fun h=>⟨h.1.setCell (p:=⟨C,2,none⟩) (fun _=>.inl rfl) _,h.2.1.set 2 _,eG h.2.2.1 gJ (ak (S:=C) (aB.refl _ _) 2 _) (fun i e=>.inl (by have:=HD.out.2.1;omega)) (fun i e e2=>by have:=bH h.2.2.1 i e;have:=HD.out.2.1;omega) (fun i e=>by cases e),h.2.2.2⟩))
 case Po=>
  intro x9 qj w9 hl hF hk9;obtain⟨v0,v1,v2,rfl⟩:=KR hl
  clear hk9 hl;obtain⟨iU,uz,iJ,iQ⟩:=(show MK _ _ _ _ _ _ _ _ _ _ _ _ _ from hF);obtain⟨ga,gc,hv1,-⟩:=dn.lT iJ;rw [List.length_append,List.length_singleton,HN.out] at hv1;subst hv1;have hpb:=HC.out.p.aO iU (fun e=>by rcases e with e|e;exact HD.out.1 e.symm;have:=HOW.out _ e;have:=HD.out.2.2.1;omega);have kR:=Z_ (And.intro iU (And.intro uz (And.intro iJ iQ)));have mN:=Z_ hpb;have hcc:=uz.cell;unfold qw at hcc;have hpc:=hpb.cell;have hpf:=hpb.frozen;have hpl:=hpb.lt;obtain⟨mm,hmm⟩:∃ mm,max mo ((n:Int)+1)=mm:=⟨_,rfl⟩;have ad4:(if mo≤(n:Int)+1 then (n:Int)+1 else mo)=mm:=by rw [←hmm];rfl
  have HMM:=Z_ (show 0≤mm∧mm≤1000 by have h8:=xx.out;have h9:=HN.out;rw [←hmm];omega);have hw1:IntKind.i64.wrap (((n+1:Nat):Int)-1)=(n:Int):=by rw [IntWalk.i64_in _ (by have h8:=xx.out;have h9:=HN.out;omega)];omega
  have hw2:((n+1:Nat):Int)-1=(n:Int):=by omega
  clear iU uz iJ iQ hpb;go_wp2_with fail
  go_still_tail 19,(by kernel_rfl)
  go_wp2_with fail
  go_ret
  have YM:=(ak (S:=P) (aB.refl _ w9) 7 (.int .i64 mm)).drew;have iU:=(kR.out.1.weak (S':=LS C P (.slice ra n rc)) fun i _ e=>by rcases e with e|e;exact .inl e;exact .inr (.inr e)).trans YM (fun i hi e=>.inr (.inl e));refine⟨.slice ga (n+1) gc,#[.string pr.name,p1,p2,p3,.bool pr.gives,.int .i64 pr.given,bl,.int .i64 mm],by rw [HN.out];first|rfl|rw [hw2],iU,HC.out.Hl iU (kR.out.2.1.aO YM HD.out.1) ((mN.out.set 7 _).drew) ?_,⟨_,_,_,_,_,rfl,HMM.out⟩,kR.out.2.2.2⟩
  exact(yM kR.out.2.2.1).aO gJ YM (fun i e=>by have:=HD.out.2.2.1;omega)
end chk
end Go.Proofs.YtpcihajmcejliacGreatDoor
namespace Go.Proofs.YtpcihajmcejliacGreatDoor
open Go.RowKit
namespace chk
open bn dn
theorem C9 {α : Type} {k:Nat} {E:TypeId} {V:α→Value→World→Prop} {B:Nat} {w:World} {a:Option Addr} {n c:Nat} {l m:List α} (h:Grow k E V B w (.slice a n c) (l++m)):Grow k E V B w (.slice a l.length c) l:=by
 obtain⟨us,h1,⟨h2,h2b⟩,h3⟩:=h.ex;rw [List.length_append] at h1 h2 h2b
 have hall:∀ u∈us,u.cells.size=k:=fun u hu=>by
  obtain⟨q,hq,rfl⟩:=List.getElem_of_mem hu;exact(h3 q (by rw [List.length_append];omega) hq).2
 have TB:∀ (us:List Value) (n:Nat),(∀ u∈us,u.cells.size=k)→(us.take n).flatMap (fun u=>u.cells.toList)=(us.flatMap fun u=>u.cells.toList).take (n*k):=by
  intro us;induction us with
  | nil=>intro n _;simp
  | cons u r ih=>
   intro n hu;have hu0:u.cells.toList.length=k:=by rw [Array.length_toList];exact hu u (by simp)
   cases n with
   | zero=>simp
   | succ n=>
    rw [List.take_succ_cons,List.flatMap_cons,List.flatMap_cons,ih n (fun u hu'=>hu u (by simp [hu'])),Nat.succ_mul,List.take_append,hu0];rw [List.take_of_length_le (by omega:u.cells.toList.length≤n*k+k),show n*k+k-k=n*k by omega]
 refine⟨us.take l.length,by rw [List.length_take];omega,⟨?_,?_⟩,fun j hj hj'=>?_⟩
 ·rw [List.length_flatMap] at h2 ⊢
  have e:∀ (us:List Value),(∀ u∈us,u.cells.size=k)→(us.map fun u=>u.cells.toList.length).sum=us.length*k:=by
   intro us hu;induction us with
   | nil=>simp
   | cons u r ih=>rw [List.map_cons,List.sum_cons,ih (fun u hu'=>hu u (by simp [hu'])),Array.length_toList,hu u (by simp),List.length_cons,Nat.succ_mul];omega
  rw [e _ (fun u hu=>hall u (List.mem_of_mem_take hu)),List.length_take];rw [Nat.min_eq_left (by omega)]
 ·rcases h2b with ⟨e,h0⟩|⟨g,cap,cur,hv,hB,hg,hc1,hc2,hc3,hc4⟩
  ·injection e with e1 e2 e3
   left
   have:l.length=0:=by omega
   exact⟨by rw [e1,e3,this],this⟩
  ·injection hv with e1 e2 e3
   subst e1 e3;refine .inr ⟨g,c,cur,rfl,hB,hg,by omega,hc2,hc3,?_⟩
   rw [TB us _ hall,←hc4,List.take_take];rw [Nat.min_eq_left (Nat.mul_le_mul_right _ (by omega))]
 ·have hj2:j<(l++m).length:=by rw [List.length_append];omega
  have hj3:j<us.length:=by rw [List.length_take] at hj';omega
  have:=h3 j hj2 hj3;rw [List.getElem_append_left hj] at this;rw [List.getElem_take]
  have hV:∀ {M M':Nat→Bool},(∀ i,M i=M' i)→hide M w=hide M' w:=fun h=>by
   have:(_:Nat→Bool)=_:=funext h;rw [this]
  rw [hV (M:=bM B (.slice a l.length c)) (M':=bM B (.slice a n c)) (fun i=>by unfold bM Value.ownBlock;cases a with
   | none=>rfl
   | some p=>rfl)]
  exact this
end chk
end Go.Proofs.YtpcihajmcejliacGreatDoor
