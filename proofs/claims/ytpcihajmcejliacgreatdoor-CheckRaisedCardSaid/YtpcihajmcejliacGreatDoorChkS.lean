/- The walk of the checker's expr: expressions. The walk of the checker's make: a local more. What the walks of statements and blocks share. -/
import Derived.Deep.CutBlock
import Derived.Deep.DeepCutAuto
import Derived.Test.YtpcihajmcejliacGreatDoorChkC
namespace Go.Proofs.YtpcihajmcejliacGreatDoor
open Go.RowKit
namespace chk
open bH fF
theorem CS.far {W u u':World} {C Mo D K P B:Nat} {E:eG} {vl:Value} {L:List Loc} {deep at_:Int} {eF fB:Value} {dc pc:Array Value} (h:CS W u C Mo D K P B E vl L deep at_ eF fB dc pc) {S:Nat→Prop} (hC:aB S u u') (hS:∀ i,S i→B≤i) (hL:∀ i,vl.ownBlock=some i→¬ S i):CS W u' C Mo D K P B E vl L deep at_ eF fB dc pc:=by
 obtain⟨n,hn,hk⟩:=h.k;have h1:=h.hC;have h2:=h.hM;have h3:=h.hK;have h4:=h.hP;have h5:=h.cB;have h6:=h.mB;have h7:=h.kB;have h8:=h.pB
 exact⟨h.ext.trans hC (fun i hi e=>by have:=hS i e;omega),h.c.aU hC (fun e=>by have:=hS _ e;omega),h.mo.aU hC (fun e=>by have:=hS _ e;omega),h.d,h.own,⟨n,hn,hk.aU hC (fun e=>by have:=hS _ e;omega)⟩,h.p.aU hC (fun e=>by have:=hS _ e;omega),sF h.loc LH hC hL,h1,h2,h3,h4,h5,h6,h7,h8,h.cM,h.cK,h.cP,h.mK,h.mP,h.kP,Nat.le_trans h.hu hC.size⟩
theorem EW {u:World} {X B:Nat} {k m:Int} {row:Value} {ks:List Tr} {r:ry} {p0 p1 p2 p3 p4 p5:Value} {lab ctx:Int} (hX:aJ u X (lY k m row r p0 p1 p2 p3 p4 p5 lab ctx) 345) (hG:Grow 1 219 F8 (X+1) u row ks) (hB:B≤X) (hr:AB r):wU (hide (below B) u) (.mk k m ks r lab ctx) (.pointer (some ⟨X,0,none⟩)):=by
 obtain⟨a,c,rfl,h1,h2,h3⟩:=hG.row dR xG
 have hK:gh (hide (below (X+1)) u) (hide (below B) u):=bJ (Nat.le_refl _) fun i hi hm=>by
  simp only [below,decide_eq_false_iff_not] at hm ⊢;exact⟨by omega,trivial⟩
 rw [Ak];refine⟨hr,X,a,c,p0,p1,p2,p3,p4,p5,rfl,by rw [dK];exact hX.lt,fun i hi=>?_,h1,h2,h3.keeps hK (ou hK)⟩
 rw [jD _ _ _ (by simp [below];omega),hX.cell]
theorem UL:(Tryz.prog.info? 219).map (fun i=>(i.zero,i.size,i.bytes))=some (some (.pointer none),1,8):=by kernel_rfl
def X0 (u:World) (C Mo K P:Nat) (vl:Value) (deep:Int) (T:Rz Tr) (at_:Nat) (kd:Int) (e:Ending) (u':World):Prop:=aB (fun i=>i=C) u u'∧match T with
 | .bad c p=>e=.panicked (rB c (p:Nat))
 | .ok t=>∃ g,e=.returned (.pointer (some ⟨g,0,none⟩))∧u.heap.size≤g∧wU (hide (below u.heap.size) u') t (.pointer (some ⟨g,0,none⟩))∧aJ u' C (wK Mo K vl deep (at_:Nat) P) 221∧t.kd=kd
def zC (v:Value) (P Q:World→Prop):List Value→World→Prop
 | [],u=>P u
 | [v0],u=>v0=v∧P u
 | _,u=>Q u
theorem zC.P {v:Value} {P Q:World→Prop} {vs:List Value} {u:World} (h:zC v P Q vs u) (hl:vs.length≤1):P u:=by
 match vs,hl,h with
 | [],_,h=>exact h
 | [_],_,h=>exact h.2
theorem NM (ks:List Tr) (y:Tr):joinL (ks ++ [y])=jL (joinL ks) y.lab:=by simp [joinL]
def wZ (E:eG) (L:List Loc) (ctx:Int) (l:List Nd) (p:Nat) (ks:List Tr):Rz (List Tr):=(tX E L ctx l p).bind fun ys=>.ok (ks++ys)
theorem QM {E:eG} {L:List Loc} {ctx:Int} {x:Nd} {r:List Nd} {p:Nat} {ks:List Tr}:wZ E L ctx (x::r) p ks=match zy E L ctx false x p with
 | .bad c q=>.bad c q
 | .ok y=>wZ E L ctx r (p+dL x) (ks ++ [y]):=by
 unfold wZ;rw [tX];cases zy E L ctx false x p with
 | bad c q=>rfl
 | ok y=>
  simp only [Rz.bind];cases tX E L ctx r (p+dL x) with
  | bad c q=>rfl
  | ok ys=>simp
theorem JO {k:Int} {t:ByteArray} {m:Int} {l:List Nd} (h:Form k t m l) (hk:mJ k):∀ y∈l,mJ y.kd:=by
 unfold mJ at hk;cases h
 all_goals first
  | (exfalso;omega)
  | (intro y hy;exact absurd hy List.not_mem_nil)
  | assumption
  | (intro y hy;rw [List.mem_singleton] at hy;subst hy;assumption)
  | (intro y hy;simp only [List.mem_cons,List.not_mem_nil,or_false] at hy;rcases hy with rfl|rfl<;>assumption)
theorem tV (l:List Nd):l.length≤gm l:=by
 induction l with
 | nil=>exact Nat.le_refl _
 | cons x r ih=>have:=QN x;simp only [List.length_cons,gm];omega
set_option maxRecDepth 100000 in
set_option maxHeartbeats 16000000 in
theorem qj {W:World} {C Mo D K P B:Nat} {E:eG} {vl:Value} {L:List Loc} {deep:Int} {eF fB:Value} {dc pc:Array Value} {ctx:Int} {H:Nat→Bool} (hmv:dG W) (hL:L.length≤1000):∀ (x:Nd),fC x→mJ x.kd→∀ (v:Value) (alone:Bool) (u:World) (p:Nat),CS W u C Mo D K P B E vl L deep (p:Nat) eF fB dc pc→ij (hide H W) x v→p+dL x≤1000→
  Calls Tryz.prog 282 #[.pointer (some ⟨C,0,none⟩),v,.int .i64 ctx,.bool alone] u (X0 u C Mo K P vl deep (zy E L ctx alone x p) (p+dL x) x.kd):=by
 refine gz fun k t m l ih=>?_
 intro his hkd v alone u p hCS hnd hsz;have hkids:=his.kids;have hform:=his.form;rw [dY] at hnd;obtain⟨a,cc,rfl,hl1,hl2,hl3,hl4⟩:=hnd;obtain⟨T,hT⟩:∃ T,zy E L ctx alone (.mk k t m l) p=T:=⟨_,rfl⟩;rw [hT];rw [zy] at hT;have hke:=JO hform hkd;have HIH:=Z_ (fun (y:Nd) (hy:y∈l)=>ih y hy (hkids y hy) (hke y hy));obtain⟨N,hN⟩:∃ N,l.length=N:=⟨_,rfl⟩;rw [hN] at hl1 ⊢;have HN:=Z_ hN;obtain⟨pe,hpe⟩:∃ pe,p+dL (.mk k t m l)=pe:=⟨_,rfl⟩;rw [hpe] at hsz ⊢;have GF:p+1+gm l=pe:=by rw [←hpe];simp only [dL];omega
 have HPE:=Z_ GF;have HI:=Z_ (fun (u:World) (hE:Ext W u)=>hl4.keeps (aN hE fun i _ e=>e.elim) fun b o y=>jd (aN hE fun i _ e=>e.elim) b o y);have rC:=Z_ hmv;have HT:=Z_ (show (wZ E L ctx l (p+1) []).bind (fun ks=>wS E L ctx alone k t m ks p)=T by rw [←hT];unfold wZ;cases tX E L ctx l (p+1)<;>rfl);have Qh:=Z_ (fun i e=>(bG hCS.loc i e).2);have JP:=Z_ (show mJ k from hkd);have ZA:=Z_ hL;have Nr:=Z_ hCS.hu;have X3:=Z_ hCS.cB;have HWC:=Z_ (show W.heap.size≤u.heap.size from hCS.ext.size);have hE0:=(aB.refl (fun _=>False) u).alloc (.cells #[.int .i64 k,.string t,.int .i64 m,.slice a N cc] 24);have HC:=Z_ (hCS.extend hE0);have HB:=Z_ (aJ.made u #[.int .i64 k,.string t,.int .i64 m,.slice a N cc] 24)
 have HE:=Z_ (hE0.weak (S':=fun i=>i=C) fun _ _ e=>e.elim);obtain⟨Nb,hNb⟩:∃ Nb,u.heap.size=Nb:=⟨_,rfl⟩;have C7:=Z_ hNb;rw [hNb] at HB Qh Nr;have hNl:N≤1000:=by have h1:=tV l;omega
 have hp:p≤1000:=by omega
 clear hE0 hCS hl4 hT hkids hke ih his hkd hform hN hpe GF hmv hL;go_enter Tryz.func282,Tryz.ntmps282
 go_upto_region 1 with (fail)
 try rw [hNb]
 generalize u.alloc (.cells #[.int .i64 k,.string t,.int .i64 m,.slice a N cc] 24)=u1 at *;go_wp2_with fail
 refine(next_any HC.out.c (by omega) (by omega)).mono ?_
 rintro e w2 ⟨rfl,hC2,hB2⟩;have HC2:=Z_ (HC.out.p_ hC2 hB2);have HB2:=Z_ (HB.out.aU hC2 (by have:=X3.out;have:=Nr.out;omega));have tK:=Z_ (HE.out.then hC2);clear hC2 hB2 HC HB HE;have hbc:=HB2.out.cell;go_upto_region 3 with (fail)
 have HX:=Z_ (show aJ (w2.alloc (.cells #[.int .i64 k,.int .i64 m,.slice none 0 0,.int .i64 0,.string ⟨#[]⟩,.string ⟨#[]⟩,.int .i64 0,.int .i64 0,.string ⟨#[]⟩,.bool false,.slice none 0 0,.int .i64 0,.bool false,.int .i64 0,.int .i64 0,.int .i64 ctx] 345)) w2.heap.size #[.int .i64 k,.int .i64 m,.slice none 0 0,.int .i64 0,.string ⟨#[]⟩,.string ⟨#[]⟩,.int .i64 0,.int .i64 0,.string ⟨#[]⟩,.bool false,.slice none 0 0,.int .i64 0,.bool false,.int .i64 0,.int .i64 0,.int .i64 ctx] 345 from aJ.made w2 _ _);have HB3:=Z_ (HB2.out.alloc (.cells #[.int .i64 k,.int .i64 m,.slice none 0 0,.int .i64 0,.string ⟨#[]⟩,.string ⟨#[]⟩,.int .i64 0,.int .i64 0,.string ⟨#[]⟩,.bool false,.slice none 0 0,.int .i64 0,.bool false,.int .i64 0,.int .i64 0,.int .i64 ctx] 345));have yI:=Z_ (HC2.out.extend ((aB.refl _ w2).alloc (.cells #[.int .i64 k,.int .i64 m,.slice none 0 0,.int .i64 0,.string ⟨#[]⟩,.string ⟨#[]⟩,.int .i64 0,.int .i64 0,.string ⟨#[]⟩,.bool false,.slice none 0 0,.int .i64 0,.bool false,.int .i64 0,.int .i64 0,.int .i64 ctx] 345)))
 have zu:=Z_ (tK.out.alloc (.cells #[.int .i64 k,.int .i64 m,.slice none 0 0,.int .i64 0,.string ⟨#[]⟩,.string ⟨#[]⟩,.int .i64 0,.int .i64 0,.string ⟨#[]⟩,.bool false,.slice none 0 0,.int .i64 0,.bool false,.int .i64 0,.int .i64 0,.int .i64 ctx] 345));have JQ:=tK.out.size;rw [hNb] at JQ;obtain⟨X,hX⟩:∃ X,w2.heap.size=X:=⟨_,rfl⟩;rw [hX] at HX JQ;have C9:Nb<X:=by have:=HB2.out.lt;omega
 have ZJ:=Z_ (show Grow 1 219 F8 (X+1) (w2.alloc (.cells #[.int .i64 k,.int .i64 m,.slice none 0 0,.int .i64 0,.string ⟨#[]⟩,.string ⟨#[]⟩,.int .i64 0,.int .i64 0,.string ⟨#[]⟩,.bool false,.slice none 0 0,.int .i64 0,.bool false,.int .i64 0,.int .i64 0,.int .i64 ctx] 345)) (.slice none 0 0) [] from Grow.nil _ _ _ _ _)
 try rw [hX]
 clear hbc hX HC2 HB2 tK;generalize w2.alloc (.cells #[.int .i64 k,.int .i64 m,.slice none 0 0,.int .i64 0,.string ⟨#[]⟩,.string ⟨#[]⟩,.int .i64 0,.int .i64 0,.string ⟨#[]⟩,.bool false,.slice none 0 0,.int .i64 0,.bool false,.int .i64 0,.int .i64 0,.int .i64 ctx] 345)=u3 at *;have HX:=Z_ (show aJ u3 X (lY k m (.slice none 0 0) jo (.string ⟨#[]⟩) (.bool false) (.slice none 0 0) (.int .i64 0) (.bool false) (.int .i64 0) (joinL []) ctx) 345 from HX.out);have hbc:=HB3.out.cell;have Lh:=Z_ (show C<X by have:=X3.out;have:=Nr.out;omega);have PS:=Z_ (show B≤X by have:=Nr.out;omega);have PV:=Z_ C9;have HXU:=Z_ JQ;go_wp2_with fail
 clear hbc;go_loopw [26] (fun i wr=>∃ (j q:Nat) (row:Value) (ks:List Tr),j≤N∧i=.int .i64 (j:Nat)∧Hid (ks.length=j)∧Hid (q+gm (l.drop j)=pe)∧Hid ((wZ E L ctx (l.drop j) q ks).bind (fun ks=>wS E L ctx alone k t m ks p)=T)∧Hid (CS W wr C Mo D K P B E vl L deep (q:Nat) eF fB dc pc∧aJ wr Nb #[.int .i64 k,.string t,.int .i64 m,.slice a N cc] 24∧aJ wr X (lY k m row jo (.string ⟨#[]⟩) (.bool false) (.slice none 0 0) (.int .i64 0) (.bool false) (.int .i64 0) (joinL ks) ctx) 345∧Grow 1 219 F8 (X+1) wr row ks∧aB (fun i=>i=C) u wr)) (fun i _=>N-(intOf i).toNat)
 case atStart=>exact⟨0,p+1,.slice none 0 0,[],Nat.zero_le _,rfl,Z_ rfl,Z_ (by have:=HPE.out;rw [List.drop_zero];exact this),HT,Z_ ⟨yI.out,HB3.out,HX.out,ZJ.out,zu.out⟩⟩
 clear yI HB3 HX ZJ zu HT
 case round=>
  obtain⟨j,q,row,ks,hj,rfl,uK,HQ,HT,HS⟩:=hrel;by_cases hlt:j<N
  ·have hji:(j:Int)<(N:Int):=by omega
   have hjd:decide ((j:Int)<(N:Int))=true:=by simpa using hji
   have hjl:j<l.length:=by rw [HN.out];exact hlt
   obtain⟨b,o,rfl,hb,uv,hu,hus,hcl⟩:=HI.out W (aB.refl _ _) j hjl;rw [dK] at hb;have hE:=HS.out.1.ext;have hbl:=Nat.lt_of_lt_of_le hb hE.size;have Ur:=Z_ (HIH.out l[j] (List.getElem_mem hjl));have hT:=HT.out;rw [List.drop_eq_getElem_cons hjl,QM] at hT;have hQ:=HQ.out;rw [List.drop_eq_getElem_cons hjl] at hQ;simp only [gm] at hQ;generalize l[j]=y at hu hT hQ Ur;have HU:=Z_ hu;obtain⟨k1,t1,m1,a1,N1,c1,rfl⟩:=dF hu;have q0:wr.cell? ⟨b,o+j*4,none⟩=some (.int .i64 k1):=(hE.cell (p:=⟨b,o+j*4,none⟩) hb id).trans ((aC _ W).2 _ _ ((hcl 0 (by decide)).trans rfl));have q1:wr.cell? ⟨b,o+j*4+1,none⟩=some (.string t1):=(hE.cell (p:=⟨b,o+j*4+1,none⟩) hb id).trans ((aC _ W).2 _ _ ((hcl 1 (by decide)).trans rfl));have q2:wr.cell? ⟨b,o+j*4+2,none⟩=some (.int .i64 m1):=(hE.cell (p:=⟨b,o+j*4+2,none⟩) hb id).trans ((aC _ W).2 _ _ ((hcl 2 (by decide)).trans rfl))
   have q3:wr.cell? ⟨b,o+j*4+3,none⟩=some (.slice a1 N1 c1):=(hE.cell (p:=⟨b,o+j*4+3,none⟩) hb id).trans ((aC _ W).2 _ _ ((hcl 3 (by decide)).trans rfl));have NP:=(aB.refl (fun _=>False) wr).alloc (.cells #[.int .i64 k1,.string t1,.int .i64 m1,.slice a1 N1 c1] 24);have HK:=Z_ (aJ.made wr #[.int .i64 k1,.string t1,.int .i64 m1,.slice a1 N1 c1] 24);have AQ:=Z_ (show CS W _ C Mo D K P B E vl L deep (q:Nat) eF fB dc pc∧aJ _ Nb #[.int .i64 k,.string t,.int .i64 m,.slice (some ⟨b,o,none⟩) N cc] 24∧aJ _ X (lY k m row jo (.string ⟨#[]⟩) (.bool false) (.slice none 0 0) (.int .i64 0) (.bool false) (.int .i64 0) (joinL ks) ctx) 345∧Grow 1 219 F8 (X+1) _ row ks∧aB (fun i=>i=C) u _ from⟨HS.out.1.extend NP,HS.out.2.1.ext NP,HS.out.2.2.1.ext NP,HS.out.2.2.2.1.aU dR NP (fun _ e=>e.elim),HS.out.2.2.2.2.ext NP⟩)
   have hw5:=HS.out.2.2.1.lt;have JK:=Z_ (fun i e=>(bG HS.out.2.2.2.1 i e).2);obtain⟨Kb,hKb⟩:∃ Kb,wr.heap.size=Kb:=⟨_,rfl⟩;rw [hKb] at HK JK hw5;have Jc:=Z_ hw5;have HT2:=Z_ hT;have uM:=Z_ hQ;clear NP hT hQ HT HQ hcl hus hu hw5 HS hE;go_upto_region 6 with (fail)
   try rw [hKb]
   have ac0:(wr.alloc (.cells #[.int .i64 k1,.string t1,.int .i64 m1,.slice a1 N1 c1] 24)).heap.size=Kb+1:=by simp [hKb]
   generalize wr.alloc (.cells #[.int .i64 k1,.string t1,.int .i64 m1,.slice a1 N1 c1] 24)=u5 at *;have ar6:=Z_ ac0;clear q0 q1 q2 q3 hKb ac0;have hkc:=HK.out.cell;go_wp2_with fail
   refine(Ur.out _ false u5 q AQ.out.1 HU.out (by have:=uM.out;omega)).mono ?_
   rintro e w6 ⟨EX,X4⟩;obtain⟨R6,ZK⟩:∃ R6,zy E L ctx false y q=R6:=⟨_,rfl⟩;have hT2:=HT2.out;rw [ZK] at hT2 X4;clear HT2 ZK hkc;cases R6 with
   | bad c9 p9=>
    have vH:=Z_ (show T=.bad c9 p9 from hT2.symm);have jP:=AQ.out.2.2.2.2.then EX
    obtain rfl:e=_:=X4;clear hT2;go_wp2_with fail
    refine⟨rfl,?_⟩
    rw [vH.out];exact⟨jP,rfl⟩
   | ok t6=>
    obtain⟨g6,rfl,Wl,zQ,hc6,Nu⟩:=X4;rw [ar6.out] at zQ Wl;have EY:=Z_ (show CS W w6 C Mo D K P B E vl L deep ((q+dL y):Nat) eF fB dc pc∧aJ w6 Nb #[.int .i64 k,.string t,.int .i64 m,.slice (some ⟨b,o,none⟩) N cc] 24∧aJ w6 X (lY k m row jo (.string ⟨#[]⟩) (.bool false) (.slice none 0 0) (.int .i64 0) (.bool false) (.int .i64 0) (joinL ks) ctx) 345∧Grow 1 219 F8 (X+1) w6 row ks∧aB (fun i=>i=C) u w6 from⟨AQ.out.1.p_ EX hc6,AQ.out.2.1.aU EX (by have:=X3.out;have:=Nr.out;omega),AQ.out.2.2.1.aU EX (by have:=Lh.out;omega),AQ.out.2.2.2.1.aU dR EX (fun i e=>by have:=Lh.out;omega),AQ.out.2.2.2.2.then EX⟩)
    have HTA:=Z_ (show F8 t6 (.pointer (some ⟨g6,0,none⟩)) (hide (cg (X+1) row) w6) from⟨jf (bJ (Nat.le_refl _) fun i hi hm=>by
     simp only [below,decide_eq_false_iff_not] at hm;refine⟨?_,rfl⟩
     simp only [cg,Bool.or_eq_false_iff,decide_eq_false_iff_not];refine⟨by have:=Jc.out;omega,fun e=>?_⟩
     have:=JK.out i e;omega) _ _ zQ,g6,rfl⟩)
    have Zz:=Z_ (show (wZ E L ctx (l.drop (j+1)) (q+dL y) (ks ++ [t6])).bind (fun ks=>wS E L ctx alone k t m ks p)=T from hT2);have XA:=Z_ Wl;clear EX zQ hc6 Nu hT2 Wl AQ HK;obtain⟨ra,rc,hrow,-,-⟩:=je EY.out.2.2.2.1;rw [uK.out] at hrow;subst hrow;obtain⟨us,hu1,ho,hu3⟩:=EY.out.2.2.2.1.ex;rw [uK.out] at ho;have HO:=Z_ ho;have ZL:=Z_ (And.intro hu1 hu3);obtain⟨mg,mD,hz0,hz1,hz2⟩:=bD UL;clear ho hu1 hu3;have rD:=EY.out.2.2.1.cell;have Ja:=EY.out.2.2.1.frozen;have hxl:=EY.out.2.2.1.lt;unfold lY at rD;go_upto_region 8 with (at_builtin;refine wpList_append_lies _ rfl _ _ 341 rfl (X+1) 219 mg (.pointer none) 1 8 Tryz.underlying341 mD hz0 hz1 hz2 rfl (by decide) (.slice ra j rc) j (us.flatMap fun u=>u.cells.toList) rfl (HO.out.alloc _) ⟨w6.heap.size,0,none⟩ 1 1 [.pointer (some ⟨g6,0,none⟩)] rfl rfl (by intro j z_ hj;have e:(⟨w6.heap.size,0,none⟩:Addr).add j=⟨w6.heap.size,j,none⟩:=(by unfold Addr.add;split<;>simp_all);rw [e,(aJ.made w6 _ _).cell];simpa using hj) (by intro z_ qL;simp only [List.mem_cons,List.not_mem_nil,or_false] at qL;subst qL;rfl) (by decide) (by unfold maxLen;omega) (by omega) (by simp;omega) (w6.heap.size+1) (by simp) ?_;intro g c' w9 hown hgrow hat hlt1;have G6:=Z_ (LI dR ZL.out.1 ZL.out.2 (x:=t6) (v:=.pointer (some ⟨g6,0,none⟩)) HTA.out rfl (by rw [uK.out];exact hown) hgrow hat);have oU:=Z_ (EY.out.2.2.1.aU G6.out.2 (fun e=>by have:=JK.out _ e;have h2:=bG EY.out.2.2.2.1 _ e;omega));have q1:=oU.out.cell;have q1f:=oU.out.frozen;have q1l:=oU.out.lt;unfold lY at q1;clear hown hgrow hat rD Ja hxl)
    rw [uK.out] at G6;have hgr:=G6.out.1;have hgc:=G6.out.2;have ZM:=aA (S:=X) (aB.refl _ w9) 2 (.slice (some ⟨g,0,none⟩) (j+1) c');have hrl:∀ i,(Value.slice ra j rc).ownBlock=some i→X+1≤i:=fun i e=>(bG EY.out.2.2.2.1 i e).1
    have Ua:=Z_ (show CS W _ C Mo D K P B E vl L deep ((q+dL y):Nat) eF fB dc pc∧aJ _ Nb #[.int .i64 k,.string t,.int .i64 m,.slice (some ⟨b,o,none⟩) N cc] 24∧aJ _ X (lY k m (.slice (some ⟨g,0,none⟩) (j+1) c') jo (.string ⟨#[]⟩) (.bool false) (.slice none 0 0) (.int .i64 0) (.bool false) (.int .i64 0) (joinL ks) ctx) 345∧Grow 1 219 F8 (X+1) _ (.slice (some ⟨g,0,none⟩) (j+1) c') (ks ++ [t6])∧aB (fun i=>i=C) u _ from⟨(EY.out.1.far hgc (fun i e=>by have:=hrl i e;have:=PS.out;omega) (fun i e e2=>by have:=Qh.out i e;have:=hrl i e2;have:=PV.out;omega)).far ZM (fun i e=>by have:=PS.out;omega) (fun i e e2=>by have:=Qh.out i e;have:=PV.out;omega),(EY.out.2.1.aU hgc (fun e=>by have:=hrl _ e;have:=PV.out;omega)).aU ZM (by have:=PV.out;omega),oU.out.set 2 _,hgr.aU dR ZM (fun i e=>by omega),(EY.out.2.2.2.2.trans hgc (fun i hi e=>by have:=hrl i e;have:=HXU.out;omega)).trans ZM (fun i hi e=>by have:=HXU.out;omega)⟩)
    have hKy:gh (hide (cg (X+1) (.slice ra j rc)) w6) (hide (cg (X+1) (.slice ra j rc)) (w9.setCell ⟨X,2,none⟩ (.slice (some ⟨g,0,none⟩) (j+1) c'))):=(aN hgc fun i _ e=>by simp [cg,e]).trans (aN ZM fun i _ e=>by simp [cg,e]);have HY9:=Z_ (jf (aC _ _) _ _ (jf hKy _ _ HTA.out.1));clear q1 q1f q1l G6 oU hgr hgc ZM hrl EY HTA hKy ZL HO;generalize w9.setCell ⟨X,2,none⟩ (.slice (some ⟨g,0,none⟩) (j+1) c')=w8 at *;obtain⟨g7,ya,yb,s0,s1,s2,s3,s4,s5,e9,hy9,X5,-⟩:=rW HY9.out;cases e9
    have ac1:w8.cell? ⟨g6,14,none⟩=some (.int .i64 t6.lab):=X5 14 (by decide);have HJN:=Z_ (NM ks t6);obtain⟨z6,hz6⟩:∃ z6,t6.lab=z6:=⟨_,rfl⟩;rw [hz6] at ac1 HJN;obtain⟨z5,hz5⟩:∃ z5,joinL ks=z5:=⟨_,rfl⟩;rw [hz5] at Ua HJN;clear X5 hz6 hz5;refine aj [9,12] (fun i v _=>v=([.pointer (some ⟨X,0,none⟩),.pointer (some ⟨X,0,none⟩),.pointer (some ⟨X,0,none⟩),.pointer (some ⟨X,14,none⟩),.int .i64 z5,.pointer (some ⟨g6,0,none⟩),.pointer (some ⟨g6,0,none⟩),.pointer (some ⟨g6,14,none⟩),.int .i64 z6,undef,.pointer (some ⟨X,0,none⟩),.pointer (some ⟨X,14,none⟩),undef]:List Value).getD i undef) (zC (.int .i64 (jL z5 z6)) (fun u9=>Ext w8 u9) (fun u9=>aJ u9 X (lY k m (.slice (some ⟨g,0,none⟩) (j+1) c') jo (.string ⟨#[]⟩) (.bool false) (.slice none 0 0) (.int .i64 0) (.bool false) (.int .i64 0) (jL z5 z6) ctx) 345∧aB (fun i=>i=X) w8 u9)) (fun _ _=>True) (frame:=?a03) (fun x=>?ar7) bH.mixed (by kernel_rfl) (by kernel_rfl) (fun _ _ _ _ h _=>h) ?h0j ?stj ?ar8
    case ar7=>
     simp only [chain.aS,chain.fill,chain.bT,chain.bC,oV,oW,oZ,o5,o6,o7,o8,o_,pq];exact rfl
    case h0j=>exact(aB.refl _ _).drew
    case stj=>
     iterate 13 (refine ak.cons (fun x vs u hF hm hb hd K' hK'=>?_) ?_;rotate_left)
     exact ak.nil
     ·have HF:=Z_ hF;clear hd hm hb hF;go_simp;exact hK'.out _ _ _ (rfl) trivial ⟨rfl,HF.out⟩
     ·have HF:=Z_ hF;clear hd hm hb hF;go_simp;exact hK'.out _ _ _ (rfl) trivial ⟨rfl,HF.out⟩
     ·have y0:x 45=.pointer (some ⟨X,0,none⟩):=(D_ hd 1 :);have HF:=Z_ hF;clear hd hm hb hF;go_simp;exact hK'.out _ _ _ (by simp only [y0];rfl) trivial ⟨rfl,HF.out⟩
     ·have y0:x 46=.pointer (some ⟨X,0,none⟩):=(D_ hd 2 :);have HF:=Z_ hF;clear hd hm hb hF;go_simp;exact hK'.out _ _ _ (by simp only [y0];rfl) trivial ⟨rfl,HF.out⟩
     ·have ju:=zC.P hF (by have:=hb 0 _ (by decide) rfl (by kernel_rfl);omega);have hq:=(Ua.out.2.2.1.ext ju).cell;unfold lY at hq;clear ju;have y0:x 47=.pointer (some ⟨X,14,none⟩):=(D_ hd 3 :);have HF:=Z_ hF;clear hd hm hb hF;go_simp;exact hK'.out _ _ _ (by simp only [y0];rfl) trivial ⟨rfl,HF.out⟩
     ·have HF:=Z_ hF;clear hd hm hb hF;go_simp;exact hK'.out _ _ _ (rfl) trivial ⟨rfl,HF.out⟩
     ·have y0:x 49=.pointer (some ⟨g6,0,none⟩):=(D_ hd 5 :);have HF:=Z_ hF;clear hd hm hb hF;go_simp;exact hK'.out _ _ _ (by simp only [y0];rfl) trivial ⟨rfl,HF.out⟩
     ·have y0:x 50=.pointer (some ⟨g6,0,none⟩):=(D_ hd 6 :);have HF:=Z_ hF;clear hd hm hb hF;go_simp;exact hK'.out _ _ _ (by simp only [y0];rfl) trivial ⟨rfl,HF.out⟩
     ·have ju:=zC.P hF (by have:=hb 0 _ (by decide) rfl (by kernel_rfl);omega);have hq:=(ju.cell (p:=⟨g6,14,none⟩) hy9 id).trans ac1;clear ju;have y0:x 51=.pointer (some ⟨g6,14,none⟩):=(D_ hd 7 :);have HF:=Z_ hF;clear hd hm hb hF;go_simp;exact hK'.out _ _ _ (by simp only [y0];rfl) trivial ⟨rfl,HF.out⟩
     ·obtain rfl:=pR hm;have y0:x 48=.int .i64 z5:=(D_ hd 4 :);have y1:x 52=.int .i64 z6:=(D_ hd 8 :);have HF:=Z_ hF;clear hd hm hb hF;go_simp;refine(Be _ _ _).mono ?_
      rintro e u2 ⟨rfl,rfl⟩;exact hK'.out _ _ _ (by simp only [y0,y1];rfl) trivial ⟨rfl,HF.out⟩
     ·have y0:x 44=.pointer (some ⟨X,0,none⟩):=(D_ hd 0 :);have HF:=Z_ hF;clear hd hm hb hF;go_simp;exact hK'.out _ _ _ (by simp only [y0];rfl) trivial ⟨rfl,HF.out⟩
     ·have y0:x 54=.pointer (some ⟨X,0,none⟩):=(D_ hd 10 :);have HF:=Z_ hF;clear hd hm hb hF;go_simp;exact hK'.out _ _ _ (by simp only [y0];rfl) trivial ⟨rfl,HF.out⟩
     ·obtain⟨v0,rfl⟩:=rE hm
      have y0:x 55=.pointer (some ⟨X,14,none⟩):=(D_ hd 11 :);have y1:x 53=v0:=((D_ hd 9) 53 (by kernel_rfl) :);obtain⟨rfl,vI⟩:=hF;have hq:=(Ua.out.2.2.1.ext vI).cell;have Df:=(Ua.out.2.2.1.ext vI).frozen;have kN:=(Ua.out.2.2.1.ext vI).lt;unfold lY at hq;have HF:=Z_ vI;clear hd hm hb vI;go_simp;exact hK'.out _ _ undef (by simp only [y0,y1];rfl) trivial ⟨(Ua.out.2.2.1.ext HF.out).set 14 _,aA (HF.out.weak fun _ _ e=>e.elim) 14 _⟩
    case ar8=>
     intro x9 wJ w7 hl hF hk9;obtain⟨v0,v1,rfl⟩:=Ll hl
     obtain⟨WI,Jf⟩:=hF;have HS7:=Z_ (show CS W w7 C Mo D K P B E vl L deep ((q+dL y):Nat) eF fB dc pc∧aJ w7 Nb #[.int .i64 k,.string t,.int .i64 m,.slice (some ⟨b,o,none⟩) N cc] 24∧aJ w7 X (lY k m (.slice (some ⟨g,0,none⟩) (j+1) c') jo (.string ⟨#[]⟩) (.bool false) (.slice none 0 0) (.int .i64 0) (.bool false) (.int .i64 0) (joinL (ks ++ [t6])) ctx) 345∧Grow 1 219 F8 (X+1) w7 (.slice (some ⟨g,0,none⟩) (j+1) c') (ks ++ [t6])∧aB (fun i=>i=C) u w7 from⟨Ua.out.1.far Jf (fun i e=>by have:=PS.out;omega) (fun i e e2=>by have:=Qh.out i e;have:=PV.out;omega),Ua.out.2.1.aU Jf (by have:=PV.out;omega),by rw [HJN.out];exact WI,Ua.out.2.2.2.1.aU dR Jf (fun i e=>by omega),Ua.out.2.2.2.2.trans Jf (fun i hi e=>by have:=HXU.out;omega)⟩);clear hk9 hl WI Jf;go_wp2_with fail
     go_roundw
     case rel=>exact⟨j+1,q+dL y,_,ks ++ [t6],by omega,by go_num,Z_ (by rw [List.length_append,uK.out];rfl),Z_ (by have:=uM.out;omega),Zz,HS7⟩
     case measure=>simp [intOf];omega
  ·obtain rfl:j=N:=by omega
   have hjd:decide ((j:Int)<(j:Int))=false:=by simp
   have hT:=HT.out;have hQ:=HQ.out;rw [List.drop_of_length_le (by rw [HN.out];exact Nat.le_refl _)] at hT hQ;have hR0:wZ E L ctx [] q ks=.ok ks:=by unfold wZ;simp [tX,Rz.bind]
   rw [hR0] at hT;obtain rfl:q=pe:=hQ;have ZN:=Z_ (show wS E L ctx alone k t m ks p=T from hT);obtain⟨ra,rc,hrow,hr1,hr2,hr3⟩:=HS.out.2.2.2.1.row dR xG;have HKR:=Z_ hr3;have ac2:u.heap.size≤X:=by have:=C7.out;have:=PV.out;omega
   have Ez:=Z_ ac2;clear hT hR0 HT HQ hr3 ac2 HIH HI;subst hrow;have hbc:=HS.out.2.1.cell;by_cases h67:k=16∨k=17
   ·have HTV:=Z_ (show ((AU E L t p).bind fun r=>if decide (0<r.size)=decide (k=17) then (.ok (.mk k m ks r (jL (joinL ks) r.label) ctx):Rz Tr) else .bad 3 p)=T by have h:=ZN.out;unfold wS at h;rw [if_pos h67] at h;exact h)
    have HV:=Z_ (EZ HS.out.1 rC.out t hl3 ZA.out p);obtain⟨RV,hRV⟩:∃ RV,AU E L t p=RV:=⟨_,rfl⟩;rw [hRV] at HTV HV;have H67:=Z_ h67;clear hRV ZN h67;go_upto_if 59 with (fail)
    go_cut [59] (fun s w'=>s=.bool true∧w'=wr)
    case first=>
     rcases H67.out with rfl|rfl
     all_goals
      go_wp2_with fail
      go_meet
      exact⟨rfl,rfl⟩
    case rest=>
     obtain⟨rfl,hwc⟩:=hcut;subst hwc;go_wp2_with fail
     refine HV.out.mono ?_
     rintro e w7 ⟨QO,h7⟩;cases RV with
     | bad c9 p9=>
      have vH:=Z_ (show T=.bad c9 p9 from HTV.out.symm);obtain rfl:e=_:=h7;have jP:=HS.out.2.2.2.2.trans QO (fun i hi e=>e.elim);go_wp2_with fail
      refine⟨rfl,?_⟩
      rw [vH.out];exact⟨jP,rfl⟩
     | ok r=>
      obtain⟨rfl,hro⟩:=h7;have HRO:=Z_ hro;obtain⟨r0,r1,r2,r3,r4⟩:=r;unfold ac3;have WJ:=Z_ (show (if decide (0<r4)=decide (k=17) then (.ok (.mk k m ks ⟨r0,r1,r2,r3,r4⟩ (jL (joinL ks) r3) ctx):Rz Tr) else .bad 3 p)=T from HTV.out);have F7:=Z_ (HS.out.2.2.1.ext QO);have HB7:=Z_ (HS.out.2.1.ext QO);have HG7:=Z_ (HS.out.2.2.2.1.aU dR QO (fun _ e=>e.elim));have HC7:=Z_ (HS.out.1.extend QO);have HE7:=Z_ (HS.out.2.2.2.2.ext QO);clear hro HTV HV QO hbc HS;have rD:=F7.out.cell;have Ja:=F7.out.frozen;have hxl:=F7.out.lt;unfold lY at rD;go_upto_region 14 with (fail)
      have Jf:=aA (aA (aA (aA (aA (S:=X) (aB.refl _ w7) 3 (.int .i64 r0)) 4 (.string r1)) 5 (.string r2)) 6 (.int .i64 r3)) 7 (.int .i64 r4);have Jb:=Z_ (((((F7.out.set 3 (.int .i64 r0)).set 4 (.string r1)).set 5 (.string r2)).set 6 (.int .i64 r3)).set 7 (.int .i64 r4));replace Jb:=Z_ (show aJ _ X (lY k m (.slice ra ks.length rc) ⟨r0,r1,r2,r3,r4⟩ (.string ⟨#[]⟩) (.bool false) (.slice none 0 0) (.int .i64 0) (.bool false) (.int .i64 0) (joinL ks) ctx) 345 from Jb.out);have HB8:=Z_ (HB7.out.aU Jf (by have:=PV.out;omega));have Zy:=Z_ (HG7.out.aU dR Jf (fun i e=>by omega));have HC8:=Z_ (HC7.out.far Jf (fun i e=>by have:=PS.out;omega) (fun i e e2=>by have:=Qh.out i e;have:=PV.out;omega));have HE8:=Z_ (HE7.out.trans Jf (fun i hi e=>by have:=Ez.out;omega))
      clear rD Ja hxl Jf F7 HB7 HG7 HC7 HE7;generalize ((((w7.setCell ⟨X,3,none⟩ (.int .i64 r0)).setCell ⟨X,4,none⟩ (.string r1)).setCell ⟨X,5,none⟩ (.string r2)).setCell ⟨X,6,none⟩ (.int .i64 r3)).setCell ⟨X,7,none⟩ (.int .i64 r4)=w8 at *;have rD:=Jb.out.cell;unfold lY at rD;have hbc:=HB8.out.cell;obtain⟨b1,hb1⟩:∃ b1,decide (0<r4)=b1:=⟨_,rfl⟩;obtain⟨b2,hb2⟩:∃ b2,(k == 17)=b2:=⟨_,rfl⟩;have WL:=Z_ (show decide (0<r4)=b1∧decide (k=17)=b2 from⟨hb1,by rw [←hb2];by_cases e:k=17<;>simp [e]⟩);by_cases hbb:b1=b2
      ·subst hbb
       have hbe:(b1 == b1)=true:=by simp
       have vH:=Z_ (show T=.ok (.mk k m ks ⟨r0,r1,r2,r3,r4⟩ (jL (joinL ks) r3) ctx) by have h:=WJ.out;rw [WL.out.1,WL.out.2,if_pos rfl] at h;exact h.symm);clear WJ WL;go_still_tail 11,(by kernel_rfl)
       go_wp2_with fail
       refine(fO 3 (p:Nat) _).mono ?_
       rintro e w9 ⟨rfl,rfl⟩;have oU:=Z_ Jb.out.drew;have TV:=Z_ (Zy.out.aU dR (aB.refl (fun _=>False) w8).drew (fun _ e=>e.elim));have X6:=Z_ (HC8.out.extend (aB.refl _ w8).drew);have Jo:=Z_ HE8.out.drew;clear rD hbc hb1 hb2 hbe Jb Zy HC8 HE8 HB8;generalize w8.drew=w9 at *;obtain⟨z5,hz5⟩:∃ z5,joinL ks=z5:=⟨_,rfl⟩;rw [hz5] at oU vH;clear hz5;go_upto_region 15 with (fail)
       refine aj [10,13] (fun i v _=>v=([.pointer (some ⟨X,0,none⟩),.pointer (some ⟨X,0,none⟩),.pointer (some ⟨X,0,none⟩),.pointer (some ⟨X,14,none⟩),.int .i64 z5,.pointer (some ⟨X,0,none⟩),.pointer (some ⟨X,0,none⟩),.pointer (some ⟨X,3,none⟩),.pointer (some ⟨X,6,none⟩),.int .i64 r3,undef,.pointer (some ⟨X,0,none⟩),.pointer (some ⟨X,14,none⟩),undef]:List Value).getD i undef) (zC (.int .i64 (jL z5 r3)) (fun u9=>Ext w9 u9) (fun u9=>aJ u9 X (lY k m (.slice ra ks.length rc) ⟨r0,r1,r2,r3,r4⟩ (.string ⟨#[]⟩) (.bool false) (.slice none 0 0) (.int .i64 0) (.bool false) (.int .i64 0) (jL z5 r3) ctx) 345∧aB (fun i=>i=X) w9 u9)) (fun _ _=>True) (frame:=?a04) (fun x=>?ar9) bH.mixed (by kernel_rfl) (by kernel_rfl) (fun _ _ _ _ h _=>h) ?h0n ?stn ?ar_
       case ar9=>
        simp only [chain.aS,chain.fill,chain.bT,chain.bC,oV,oW,oZ,o5,o6,o7,o8,o_,pq];exact rfl
       case h0n=>exact(aB.refl _ _).drew
       case stn=>
        iterate 14 (refine ak.cons (fun x vs u hF hm hb hd K' hK'=>?_) ?_;rotate_left)
        exact ak.nil
        ·have HF:=Z_ hF;clear hd hm hb hF;go_simp;exact hK'.out _ _ _ (rfl) trivial ⟨rfl,HF.out⟩
        ·have HF:=Z_ hF;clear hd hm hb hF;go_simp;exact hK'.out _ _ _ (rfl) trivial ⟨rfl,HF.out⟩
        ·have y0:x 83=.pointer (some ⟨X,0,none⟩):=(D_ hd 1 :);have HF:=Z_ hF;clear hd hm hb hF;go_simp;exact hK'.out _ _ _ (by simp only [y0];rfl) trivial ⟨rfl,HF.out⟩
        ·have y0:x 84=.pointer (some ⟨X,0,none⟩):=(D_ hd 2 :);have HF:=Z_ hF;clear hd hm hb hF;go_simp;exact hK'.out _ _ _ (by simp only [y0];rfl) trivial ⟨rfl,HF.out⟩
        ·have ju:=zC.P hF (by have:=hb 0 _ (by decide) rfl (by kernel_rfl);omega);have hq:=(oU.out.ext ju).cell;unfold lY at hq;clear ju;have y0:x 85=.pointer (some ⟨X,14,none⟩):=(D_ hd 3 :);have HF:=Z_ hF;clear hd hm hb hF;go_simp;exact hK'.out _ _ _ (by simp only [y0];rfl) trivial ⟨rfl,HF.out⟩
        ·have HF:=Z_ hF;clear hd hm hb hF;go_simp;exact hK'.out _ _ _ (rfl) trivial ⟨rfl,HF.out⟩
        ·have y0:x 87=.pointer (some ⟨X,0,none⟩):=(D_ hd 5 :);have HF:=Z_ hF;clear hd hm hb hF;go_simp;exact hK'.out _ _ _ (by simp only [y0];rfl) trivial ⟨rfl,HF.out⟩
        ·have y0:x 88=.pointer (some ⟨X,0,none⟩):=(D_ hd 6 :);have HF:=Z_ hF;clear hd hm hb hF;go_simp;exact hK'.out _ _ _ (by simp only [y0];rfl) trivial ⟨rfl,HF.out⟩
        ·have y0:x 89=.pointer (some ⟨X,3,none⟩):=(D_ hd 7 :);have HF:=Z_ hF;clear hd hm hb hF;go_simp;exact hK'.out _ _ _ (by simp only [y0];rfl) trivial ⟨rfl,HF.out⟩
        ·have ju:=zC.P hF (by have:=hb 0 _ (by decide) rfl (by kernel_rfl);omega);have hq:=(oU.out.ext ju).cell;unfold lY at hq;clear ju;have y0:x 90=.pointer (some ⟨X,6,none⟩):=(D_ hd 8 :);have HF:=Z_ hF;clear hd hm hb hF;go_simp;exact hK'.out _ _ _ (by simp only [y0];rfl) trivial ⟨rfl,HF.out⟩
        ·obtain rfl:=pR hm;have y0:x 86=.int .i64 z5:=(D_ hd 4 :);have y1:x 91=.int .i64 r3:=(D_ hd 9 :);have HF:=Z_ hF;clear hd hm hb hF;go_simp;refine(Be _ _ _).mono ?_
         rintro e u2 ⟨rfl,rfl⟩;exact hK'.out _ _ _ (by simp only [y0,y1];rfl) trivial ⟨rfl,HF.out⟩
        ·have y0:x 82=.pointer (some ⟨X,0,none⟩):=(D_ hd 0 :);have HF:=Z_ hF;clear hd hm hb hF;go_simp;exact hK'.out _ _ _ (by simp only [y0];rfl) trivial ⟨rfl,HF.out⟩
        ·have y0:x 93=.pointer (some ⟨X,0,none⟩):=(D_ hd 11 :);have HF:=Z_ hF;clear hd hm hb hF;go_simp;exact hK'.out _ _ _ (by simp only [y0];rfl) trivial ⟨rfl,HF.out⟩
        ·obtain⟨v0,rfl⟩:=rE hm
         have y0:x 94=.pointer (some ⟨X,14,none⟩):=(D_ hd 12 :);have y1:x 92=v0:=((D_ hd 10) 92 (by kernel_rfl) :);obtain⟨rfl,vI⟩:=hF;have hq:=(oU.out.ext vI).cell;have Df:=(oU.out.ext vI).frozen;have kN:=(oU.out.ext vI).lt;unfold lY at hq;have HF:=Z_ vI;clear hd hm hb vI;go_simp;exact hK'.out _ _ undef (by simp only [y0,y1];rfl) trivial ⟨(oU.out.ext HF.out).set 14 _,aA (HF.out.weak fun _ _ e=>e.elim) 14 _⟩
       case ar_=>
        intro x9 wJ w7 hl hF hk9;obtain⟨v0,v1,rfl⟩:=Ll hl
        obtain⟨WI,Jf⟩:=hF;have htr:=EW WI (TV.out.aU dR Jf (fun i e=>by omega)) Ez.out HRO.out;have hcb:=X6.out.c.aU Jf (by have:=Lh.out;omega);have jP:=Jo.out.trans Jf (fun i hi e=>by have:=Ez.out;omega);have Nv:=Z_ (And.intro htr (And.intro hcb jP));clear hk9 hl WI Jf htr hcb jP;go_wp2_with fail
        go_ret
        rw [vH.out];exact⟨Nv.out.2.2,X,rfl,Ez.out,Nv.out.1,Nv.out.2.1,rfl⟩
      ·have hbe:(b1 == b2)=false:=beq_eq_false_iff_ne.2 hbb
       have vH:=Z_ (show T=.bad 3 p by have h:=WJ.out;rw [WL.out.1,WL.out.2,if_neg hbb] at h;exact h.symm);clear WJ WL hbb;go_still_tail 11,(by kernel_rfl)
       go_wp2_with fail
       refine(iq 3 (p:Nat) _).mono ?_
       rintro e w9 ⟨rfl,rfl⟩;go_wp2_with fail
       refine⟨rfl,?_⟩
       rw [vH.out];exact⟨HE8.out.drew,rfl⟩
   ·have h16:(k == 16)=false:=beq_eq_false_iff_ne.2 (by omega)
    have h17:(k == 17)=false:=beq_eq_false_iff_ne.2 (by omega);by_cases h18:k=18
    ·subst h18
     have HTC:=Z_ (show ((uC E ctx alone t ks p).bind fun r=>(.ok (.mk 18 m ks r.1 r.2 ctx):Rz Tr))=T by have h:=ZN.out;unfold wS at h;rw [if_neg (by decide),if_pos rfl] at h;exact h)
     have hK:gh (hide (below (X+1)) wr) (hide (fun i=>decide (i=X)) wr):=bJ (Nat.le_refl _) fun i hi hm=>by
      simp only [below,decide_eq_false_iff_not] at hm ⊢;exact⟨by omega,trivial⟩
     have WM:=Z_ (AK HS.out.1 rC.out (X:=X) (k0:=18) (m0:=m) (l0:=joinL ks) (ctx:=ctx) (t:=t) (n1:=m) (n2:=.slice a j cc) alone p HS.out.2.2.1 (HKR.out.keeps hK (ou hK)) hr1 (by rw [uK.out];omega) hl3 (by have:=HWC.out;have:=Ez.out;omega) PS.out ⟨_,_,_,rfl⟩);obtain⟨RC,hRC⟩:∃ RC,uC E ctx alone t ks p=RC:=⟨_,rfl⟩;rw [hRC] at HTC WM;clear hRC ZN h67 hK;go_wp2_with fail
     refine WM.out.mono ?_
     rintro e w7 ⟨QI,h7⟩;cases RC with
     | bad c9 p9=>
      have vH:=Z_ (show T=.bad c9 p9 from HTC.out.symm);obtain rfl:e=_:=h7;have jP:=HS.out.2.2.2.2.trans QI (fun i hi e=>by have:=Ez.out;omega);go_wp2_with fail
      refine⟨rfl,?_⟩
      rw [vH.out];exact⟨jP,rfl⟩
     | ok r=>
      obtain⟨rfl,hro,y0,y1,y2,y3,y4,y5,hX7⟩:=h7;have vH:=Z_ (show T=.ok (.mk 18 m ks r.1 r.2 ctx) from HTC.out.symm);have jP:=HS.out.2.2.2.2.trans QI (fun i hi e=>by have:=Ez.out;omega);have htr:=EW hX7 (HS.out.2.2.2.1.aU dR QI (fun i e=>by omega)) Ez.out hro;have hcb:=HS.out.1.c.aU QI (by have:=Lh.out;omega);go_wp2_with fail
      go_ret
      rw [vH.out];exact⟨jP,X,rfl,Ez.out,htr,hcb,rfl⟩
    ·have a05:(k == 18)=false:=beq_eq_false_iff_ne.2 h18
     have vH:=Z_ (show T=.ok (.mk k m ks jo (joinL ks) ctx) by have h:=ZN.out;unfold wS at h;rw [if_neg h67,if_neg h18] at h;exact h.symm);clear h67 h18 ZN;go_wp2_with fail
     go_ret
     rw [vH.out];exact⟨HS.out.2.2.2.2,X,rfl,Ez.out,EW HS.out.2.2.1 HS.out.2.2.2.1 Ez.out (by constructor<;>decide),HS.out.1.c,rfl⟩
end chk
end Go.Proofs.YtpcihajmcejliacGreatDoor
namespace Go.Proofs.YtpcihajmcejliacGreatDoor
open Go.RowKit
namespace fF
theorem QS:(Tryz.prog.info? 340).map (fun i=>(i.zero,i.size,i.bytes))=some (some (.agg #[.string ⟨#[]⟩,.int .i64 0,.int .i64 0]),3,32):=by kernel_rfl
theorem vJ:(Tryz.prog.info? 219).map (fun i=>(i.zero,i.size,i.bytes))=some (some (.pointer none),1,8):=by kernel_rfl
end fF
namespace chk
open bH fF
def LS (C P:Nat) (vl:Value):Nat→Prop:=fun i=>i=C∨i=P∨vl.ownBlock=some i
def EC (pr:aO) (pc:Array Value):Prop:=∃ p1 p2 p3 b mo,pc=#[.string pr.name,p1,p2,p3,.bool pr.gives,.int .i64 pr.given,b,.int .i64 mo]∧0≤mo∧mo≤1000
theorem CS.Qn {W u u':World} {C Mo D K P B:Nat} {E:eG} {vl Gg:Value} {L L':List Loc} {deep at_ deep' at':Int} {eF fB:Value} {dc pc pc':Array Value} (h:CS W u C Mo D K P B E vl L deep at_ eF fB dc pc) (hC:aB (LS C P vl) u u') (hc:aJ u' C (wK Mo K Gg deep' at' P) 221) (hp:aJ u' P pc' 297) (hl:Grow 3 340 Di B u' Gg L'):CS W u' C Mo D K P B E Gg L' deep' at' eF fB dc pc':=by
 obtain⟨n,hn,hk⟩:=h.k;have h1:=h.hC;have h2:=h.hP;have h3:=h.cM;have h4:=h.cK;have h5:=h.mP;have h6:=h.kP;have h7:=h.mB;have h8:=h.kB;have h9:=h.hu;have h10:=h.ext.size;have h11:=h.cB
 have ho:=bG h.loc
 have hW:∀ i,LS C P vl i→W.heap.size≤i:=fun i e=>by
  rcases e with e|e|e
  ·omega
  ·omega
  ·have:=ho i e;omega
 exact⟨h.ext.trans hC (fun i hi e=>by have:=hW i e;omega),hc,h.mo.aU hC (fun e=>by
   rcases e with e|e|e
   ·omega
   ·omega
   ·have:=ho _ e;omega),h.d,h.own,⟨n,hn,hk.aU hC (fun e=>by
   rcases e with e|e|e
   ·omega
   ·omega
   ·have:=ho _ e;omega)⟩,hp,hl,h1,h.hM,h.hK,h2,h11,h7,h8,h.pB,h3,h4,h.cP,h.mK,h5,h6,Nat.le_trans h9 hC.size⟩
theorem ET {α : Type} {k:Nat} {E:TypeId} {V:α→Value→World→Prop} {B:Nat} {w:World} {row:Value} {acc:List α} (h:lV (fun _=>false) k E V B w row acc):Grow k E V B w row acc:=by
 obtain⟨us,h1,h2,h3⟩:=h.ex;exact⟨us,h1,h2,fun j hj hj'=>by have h4:=h3 j hj hj';simpa using h4⟩
def MK (u0 u:World) (C Mo K P B:Nat) (vl:Value) (deep at_:Int) (rN r:Value) (lq:List Loc):Prop:=
 aB (fun i=>i=C∨vl.ownBlock=some i) u0 u∧aJ u C (wK Mo K rN deep at_ P) 221∧lV (fun _=>false) 3 340 Di B u r lq∧(∀ i,r.ownBlock=some i→vl.ownBlock=some i∨u0.heap.size≤i)
def QT (W u:World) (C Mo D K P B:Nat) (E:eG) (vl:Value) (L L':List Loc) (deep at_:Int) (eF fB:Value) (dc:Array Value) (pr:aO) (e:Ending) (u':World):Prop:=∃ Gg pc',e=.returned (.int .i64 (L.length:Nat))∧aB (LS C P vl) u u'∧CS W u' C Mo D K P B E Gg L' deep at_ eF fB dc pc'∧EC pr pc'∧(∀ i,Gg.ownBlock=some i→vl.ownBlock=some i∨u.heap.size≤i)
set_option maxRecDepth 100000 in
set_option maxHeartbeats 8000000 in
theorem G0 {W u:World} {C Mo D K P B:Nat} {E:eG} {vl:Value} {L:List Loc} {deep at_:Int} {eF fB:Value} {dc pc:Array Value} {pr:aO} (h:CS W u C Mo D K P B E vl L deep at_ eF fB dc pc) (hpc:EC pr pc) (hL:L.length≤100) (t:ByteArray) (ht:t.size≤10000) (lb:Int) :
  Calls Tryz.prog 186 #[.pointer (some ⟨C,0,none⟩),.string t,.int .i64 lb] u (QT W u C Mo D K P B E vl L (L ++ [⟨t,lb,deep⟩]) deep at_ eF fB dc pr):=by
 obtain⟨p1,p2,p3,bl,mo,rfl,hm0,hm1⟩:=hpc;have HC:=Z_ h;obtain⟨ra,rc,hvl,hr1,hr2⟩:=je h.loc;have hr9:=bG h.loc;rw [hvl] at hr9;obtain⟨n,hn⟩:∃ n,L.length=n:=⟨_,rfl⟩;have HN:=Z_ hn;have rF:=Z_ hL;rw [hn] at hvl hL hr1;have hBu:=h.hu;subst hvl;have G7:=hr9;rw [hn] at G7;have HOW:=Z_ G7;have hcP:=h.cP;have hcB:=h.cB;have hpB:=h.pB
 have HD:=Z_ (And.intro hcP (And.intro hcB (And.intro hpB hBu)));clear h hn hr9 G7 hcP hcB hpB;go_enter Tryz.func186,Tryz.ntmps186
 go_upto_region 1 with (fail)
 refine aj [12,13,16] (fun i v _=>v=([.pointer (some ⟨C,0,none⟩),.pointer (some ⟨C,0,none⟩),.pointer (some ⟨C,0,none⟩),.pointer (some ⟨C,2,none⟩),.slice ra n rc,.string t,.int .i64 lb,.pointer (some ⟨C,0,none⟩),.pointer (some ⟨C,0,none⟩),.pointer (some ⟨C,3,none⟩),.int .i64 deep,.agg #[.string t,.int .i64 lb,.int .i64 deep],undef,undef,.pointer (some ⟨C,0,none⟩),.pointer (some ⟨C,2,none⟩),undef]:List Value).getD i undef) (fF.gV (fun w rN r lq=>MK u w C Mo K P B (.slice ra n rc) deep at_ rN r lq) (fun _=>false) Di (B) 340 (.slice ra n rc) L ⟨t,lb,deep⟩ (.agg #[.string t,.int .i64 lb,.int .i64 deep])) (fun _ _=>True) (frame:=?as1) (fun x=>?X7) bH.mixed (by kernel_rfl) (by kernel_rfl) (fun _ _ _ _ h _=>h) ?h0m ?stm ?X8
 case X7=>
  simp only [chain.aS,chain.fill,chain.bT,chain.bC,oV,oW,oZ,o5,o6,o7,o8,o_,pq];exact rfl
 case h0m=>exact⟨⟨(aB.refl _ _).drew,HC.out.c.drew,gZ (rM HC.out.loc LH (fun _=>false)) jB (aB.refl (fun _=>False) u).drew (fun i e=>e.elim) (fun i e e2=>e2.elim) (fun i e=>by cases e),fun i e=>.inl e⟩,rfl,ht⟩
 case stm=>
  iterate 17 (refine ak.cons (fun x vs u hF hm hb hd K' hK'=>?_) ?_;rotate_left)
  exact ak.nil
  ·have HF:=Z_ hF;clear hd hm hb hF;go_simp;exact hK'.out _ _ _ (rfl) trivial ⟨rfl,HF.out⟩
  ·have HF:=Z_ hF;clear hd hm hb hF;go_simp;exact hK'.out _ _ _ (rfl) trivial ⟨rfl,HF.out⟩
  ·have y0:x 8=.pointer (some ⟨C,0,none⟩):=(D_ hd 1 :);have HF:=Z_ hF;clear hd hm hb hF;go_simp;exact hK'.out _ _ _ (by simp only [y0];rfl) trivial ⟨rfl,HF.out⟩
  ·have y0:x 9=.pointer (some ⟨C,0,none⟩):=(D_ hd 2 :);have HF:=Z_ hF;clear hd hm hb hF;go_simp;exact hK'.out _ _ _ (by simp only [y0];rfl) trivial ⟨rfl,HF.out⟩
  ·have aY:=fF.gV.B hF (by have:=hb 1 _ (by decide) rfl (by kernel_rfl);omega);have hq:=aY.2.1.cell;unfold wK at hq;clear aY;have y0:x 10=.pointer (some ⟨C,2,none⟩):=(D_ hd 3 :);have HF:=Z_ hF;clear hd hm hb hF;go_simp;exact hK'.out _ _ _ (by simp only [y0];rfl) trivial ⟨rfl,HF.out⟩
  ·have HF:=Z_ hF;clear hd hm hb hF;go_simp;exact hK'.out _ _ _ (rfl) trivial ⟨rfl,HF.out⟩
  ·have HF:=Z_ hF;clear hd hm hb hF;go_simp;exact hK'.out _ _ _ (rfl) trivial ⟨rfl,HF.out⟩
  ·have HF:=Z_ hF;clear hd hm hb hF;go_simp;exact hK'.out _ _ _ (rfl) trivial ⟨rfl,HF.out⟩
  ·have y0:x 14=.pointer (some ⟨C,0,none⟩):=(D_ hd 7 :);have HF:=Z_ hF;clear hd hm hb hF;go_simp;exact hK'.out _ _ _ (by simp only [y0];rfl) trivial ⟨rfl,HF.out⟩
  ·have y0:x 15=.pointer (some ⟨C,0,none⟩):=(D_ hd 8 :);have HF:=Z_ hF;clear hd hm hb hF;go_simp;exact hK'.out _ _ _ (by simp only [y0];rfl) trivial ⟨rfl,HF.out⟩
  ·obtain⟨_,_,_,aY⟩:=fF.gV.any hF;have hq:=aY.2.1.cell;unfold wK at hq;clear aY;have y0:x 16=.pointer (some ⟨C,3,none⟩):=(D_ hd 9 :);have HF:=Z_ hF;clear hd hm hb hF;go_simp;exact hK'.out _ _ _ (by simp only [y0];rfl) trivial ⟨rfl,HF.out⟩
  ·have y0:x 12=.string t:=(D_ hd 5 :);have y1:x 13=.int .i64 lb:=(D_ hd 6 :);have y2:x 17=.int .i64 deep:=(D_ hd 10 :);have HF:=Z_ hF;clear hd hm hb hF;go_simp;exact hK'.out _ _ _ (by simp only [y0,y1,y2];rfl) trivial ⟨rfl,HF.out⟩
  ·obtain rfl:=pR hm;have y0:x 18=.agg #[.string t,.int .i64 lb,.int .i64 deep]:=(D_ hd 11 :);have aY:=hF.1;have HG:=Z_ (fF.dm (aY.2.2.1));have HF:=Z_ hF;clear hd hm hb hF aY;go_simp;exact hK'.out _ _ _ (by simp only [y0];rfl) trivial (fF.iE chk.jB (fun u' hE=>⟨HF.out.1.1.ext hE,HF.out.1.2.1.ext hE,gZ HF.out.1.2.2.1 jB hE (fun i e=>e.elim) (fun i e e2=>e2.elim) (fun i e=>by cases e),HF.out.1.2.2.2⟩) (fun i e=>(HG.out i e).2) HF.out rfl)
  ·obtain⟨v0,rfl⟩:=rE hm
   have y0:x 11=.slice ra n rc:=(D_ hd 4 :);have y1:x 19=v0:=((D_ hd 12) 19 (by kernel_rfl) :);have hF2:=hF;obtain⟨aY,hxx,gg,rfl,hgb,hgr⟩:=hF2;obtain⟨us,hu1,ho,hu3⟩:=(aY.2.2.1).ex;obtain⟨mg,mD,hz0,hz1,hz2⟩:=bH.bD fF.QS;have hbz:B≤u.heap.size:=by have:=HD.out.2.2.2;have:=aY.1.size;omega
   refine wp_append_lies _ _ _ 217 rfl (B) 340 mg (.agg #[.string ⟨#[]⟩,.int .i64 0,.int .i64 0]) 3 32 Tryz.underlying217 mD hz0 hz1 hz2 rfl (by decide) (.slice ra n rc) L.length (us.flatMap fun u=>u.cells.toList) y0 ho ⟨gg,0,none⟩ 1 1 [.string t,.int .i64 lb,.int .i64 deep] y1 rfl ?_ (by intro z_ qL;simp only [List.mem_cons,List.not_mem_nil,or_false] at qL;rcases qL with rfl|rfl|rfl<;>rfl) (by decide) (by unfold maxLen;have:=rF.out;omega) (by have:=rF.out;omega) hbz u.heap.size rfl ?_
   ·intro j q hj;have e:(⟨gg,0,none⟩:Addr).add j=⟨gg,j,none⟩:=(by unfold Addr.add;split<;>simp_all);rw [e,hgb.cell];simpa [Value.cells] using hj
   ·intro g9 c9 w9 kQ kM mF yK
    exact hK'.out _ _ _ rfl trivial (fF.gW chk.jB hF hu1 hu3 rfl (fun r yQ hG hC ha=>⟨aY.1.trans hC (fun i hi e=>.inr e),aY.2.1.aU hC (fun e=>by have:=HOW.out _ e;have:=HD.out.2.1;omega),hG,fun i e=>by rcases ha i e with h9|h9;exact .inl h9;exact .inr (by have:=aY.1.size;omega)⟩) kQ kM mF)
  ·have y0:x 7=.pointer (some ⟨C,0,none⟩):=(D_ hd 0 :);have HF:=Z_ hF;clear hd hm hb hF;go_simp;exact hK'.out _ _ _ (by simp only [y0];rfl) trivial ⟨rfl,HF.out⟩
  ·have y0:x 21=.pointer (some ⟨C,0,none⟩):=(D_ hd 14 :);have HF:=Z_ hF;clear hd hm hb hF;go_simp;exact hK'.out _ _ _ (by simp only [y0];rfl) trivial ⟨rfl,HF.out⟩
  ·obtain⟨v0,v1,rfl⟩:=yP hm
   have y0:x 22=.pointer (some ⟨C,2,none⟩):=(D_ hd 15 :);have y1:x 20=v1:=((D_ hd 13) 20 (by kernel_rfl) :);have hF2:=hF;obtain⟨aY,gg,cc,rfl⟩:=hF2;have hq:=aY.2.1.cell;have Df:=aY.2.1.frozen;have kN:=aY.2.1.lt;unfold wK at hq;have HF:=Z_ hF;clear hd hm hb hF aY;go_simp;exact hK'.out _ _ undef (by simp only [y0,y1];rfl) trivial (fF.iF (z:=undef) HF.out (fun h=>⟨h.1.setCell (p:=⟨C,2,none⟩) (fun _=>.inl rfl) _,h.2.1.set 2 _,gZ h.2.2.1 jB (aA (S:=C) (aB.refl _ _) 2 _) (fun i e=>.inl (by have:=HD.out.2.1;omega)) (fun i e e2=>by have:=dm h.2.2.1 i e;have:=HD.out.2.1;omega) (fun i e=>by cases e),h.2.2.2⟩))
 case X8=>
  intro x9 wJ w9 hl hF hk9;obtain⟨v0,v1,v2,rfl⟩:=UH hl
  clear hk9 hl;obtain⟨jP,Ag,kM,kQ⟩:=(show MK _ _ _ _ _ _ _ _ _ _ _ _ _ from hF);obtain⟨ga,gc,hv1,-⟩:=fF.qK kM;rw [List.length_append,List.length_singleton,HN.out] at hv1;subst hv1;have hpb:=HC.out.p.aU jP (fun e=>by rcases e with e|e;exact HD.out.1 e.symm;have:=HOW.out _ e;have:=HD.out.2.2.1;omega);have oU:=Z_ (And.intro jP (And.intro Ag (And.intro kM kQ)));have vh:=Z_ hpb;have hcc:=Ag.cell;unfold wK at hcc;have hpc:=hpb.cell;have hpf:=hpb.frozen;have hpl:=hpb.lt;obtain⟨mm,hmm⟩:∃ mm,max mo ((n:Int)+1)=mm:=⟨_,rfl⟩;have a06:(if mo≤(n:Int)+1 then (n:Int)+1 else mo)=mm:=by rw [←hmm];rfl
  have E5:=Z_ (show 0≤mm∧mm≤1000 by have h8:=rF.out;have h9:=HN.out;rw [←hmm];omega);have hw1:IntKind.i64.wrap (((n+1:Nat):Int)-1)=(n:Int):=by rw [IntWalk.i64_in _ (by have h8:=rF.out;have h9:=HN.out;omega)];omega
  have hw2:((n+1:Nat):Int)-1=(n:Int):=by omega
  clear jP Ag kM kQ hpb;go_wp2_with fail
  go_still_tail 19,(by kernel_rfl)
  go_wp2_with fail
  go_ret
  have hCp:=(aA (S:=P) (aB.refl _ w9) 7 (.int .i64 mm)).drew;have jP:=(oU.out.1.weak (S':=LS C P (.slice ra n rc)) fun i _ e=>by rcases e with e|e;exact .inl e;exact .inr (.inr e)).trans hCp (fun i hi e=>.inr (.inl e));refine⟨.slice ga (n+1) gc,#[.string pr.name,p1,p2,p3,.bool pr.gives,.int .i64 pr.given,bl,.int .i64 mm],by rw [HN.out];first|rfl|rw [hw2],jP,HC.out.Qn jP (oU.out.2.1.aU hCp HD.out.1) ((vh.out.set 7 _).drew) ?_,⟨_,_,_,_,_,rfl,E5.out⟩,oU.out.2.2.2⟩
  exact(ET oU.out.2.2.1).aU jB hCp (fun i e=>by have:=HD.out.2.2.1;omega)
end chk
end Go.Proofs.YtpcihajmcejliacGreatDoor
namespace Go.Proofs.YtpcihajmcejliacGreatDoor
open Go.RowKit
namespace chk
open bH fF
theorem Jv {α : Type} {k:Nat} {E:TypeId} {V:α→Value→World→Prop} {B:Nat} {w:World} {a:Option Addr} {n c:Nat} {l m:List α} (h:Grow k E V B w (.slice a n c) (l++m)):Grow k E V B w (.slice a l.length c) l:=by
 obtain⟨us,h1,⟨h2,h2b⟩,h3⟩:=h.ex;rw [List.length_append] at h1 h2 h2b
 have hall:∀ u∈us,u.cells.size=k:=fun u hu=>by
  obtain⟨q,hq,rfl⟩:=List.getElem_of_mem hu;exact(h3 q (by rw [List.length_append];omega) hq).2
 have ac4:∀ (us:List Value) (n:Nat),(∀ u∈us,u.cells.size=k)→(us.take n).flatMap (fun u=>u.cells.toList)=(us.flatMap fun u=>u.cells.toList).take (n*k):=by
  intro us;induction us with
  | nil=>intro n _;simp
  | cons u r ih=>
   intro n hu;have hu0:u.cells.toList.length=k:=by rw [Array.length_toList];exact hu u (by simp)
   cases n with
   | zero=>simp
   | succ n=>
    rw [List.take_succ_cons,List.flatMap_cons,List.flatMap_cons,ih n (fun u hu'=>hu u (by simp [hu'])),Nat.succ_mul,List.take_append,hu0];rw [List.take_of_length_le (by omega:u.cells.toList.length≤n*k+k),show n*k+k-k=n*k by omega]
 refine⟨us.take l.length,by rw [List.length_take];omega,⟨?_,?_⟩,fun j hj hj'=>?_⟩
 ·rw [List.length_flatMap] at h2 ⊢
  have e:∀ (us:List Value),(∀ u∈us,u.cells.size=k)→(us.map fun u=>u.cells.toList.length).sum=us.length*k:=by
   intro us hu;induction us with
   | nil=>simp
   | cons u r ih=>rw [List.map_cons,List.sum_cons,ih (fun u hu'=>hu u (by simp [hu'])),Array.length_toList,hu u (by simp),List.length_cons,Nat.succ_mul];omega
  rw [e _ (fun u hu=>hall u (List.mem_of_mem_take hu)),List.length_take];rw [Nat.min_eq_left (by omega)]
 ·rcases h2b with ⟨e,h0⟩|⟨g,cap,cur,hv,hB,hg,hc1,hc2,hc3,hc4⟩
  ·injection e with e1 e2 e3
   left
   have:l.length=0:=by omega
   exact⟨by rw [e1,e3,this],this⟩
  ·injection hv with e1 e2 e3
   subst e1 e3;refine .inr ⟨g,c,cur,rfl,hB,hg,by omega,hc2,hc3,?_⟩
   rw [ac4 us _ hall,←hc4,List.take_take];rw [Nat.min_eq_left (Nat.mul_le_mul_right _ (by omega))]
 ·have hj2:j<(l++m).length:=by rw [List.length_append];omega
  have hj3:j<us.length:=by rw [List.length_take] at hj';omega
  have:=h3 j hj2 hj3;rw [List.getElem_append_left hj] at this;rw [List.getElem_take]
  have hV:∀ {M M':Nat→Bool},(∀ i,M i=M' i)→hide M w=hide M' w:=fun h=>by
   have:(_:Nat→Bool)=_:=funext h;rw [this]
  rw [hV (M:=cg B (.slice a l.length c)) (M':=cg B (.slice a n c)) (fun i=>by unfold cg Value.ownBlock;cases a with
   | none=>rfl
   | some p=>rfl)]
  exact this
end chk
end Go.Proofs.YtpcihajmcejliacGreatDoor
