/- The walk of the checker's block. What a statement's kids are, in plain Lean; the statement's tree when it is done. -/
import Derived.Test.YtpcihajmcejliacGreatDoorWeaveG
namespace Go.Proofs.YtpcihajmcejliacGreatDoor
open Go.RowKit
namespace chk
open bH fF
def Lm (W:World) (C Mo D K P B:Nat) (E:eG) (eF fB:Value) (dc:Array Value) (pr:aO) (H:Nat→Bool) (x:Nd):Prop:=∀ (v:Value) (last:Bool) (ctx:Int) (u:World) (p:Nat) (vl:Value) (L:List Loc) (deep:Int) (pc:Array Value),CS W u C Mo D K P B E vl L deep (p:Nat) eF fB dc pc→EC pr pc→ij (hide H W) x v→p+dL x≤1000→L.length≤20→0≤deep→deep+dL x≤2000→
 Calls Tryz.prog 235 #[.pointer (some ⟨C,0,none⟩),v,.int .i64 ctx,.bool last] u (ED W u C Mo D K P B E vl deep (p+dL x) eF fB dc pr x.kd (Gz E pr ctx last L deep x p))
def AP (W:World) (C Mo D K P B:Nat) (E:eG) (eF fB:Value) (dc:Array Value) (pr:aO) (H:Nat→Bool) (x:Nd):Prop:=∀ (v:Value) (outer:Bool) (ctx:Int) (u:World) (p:Nat) (vl:Value) (L:List Loc) (deep:Int) (pc:Array Value),CS W u C Mo D K P B E vl L deep (p:Nat) eF fB dc pc→EC pr pc→ij (hide H W) x v→p+dL x≤1000→L.length≤20→0≤deep→deep+dL x≤2000→
 Calls Tryz.prog 187 #[.pointer (some ⟨C,0,none⟩),v,.int .i64 ctx,.bool outer] u (ED W u C Mo D K P B E vl deep (p+dL x) eF fB dc pr x.kd ((C0 E pr ctx outer L deep x p).bind fun t=>.ok (t,L)))
def uJ (pre:World→Prop) (sb:Value→List Loc→Array Value→World→Value→Value→List Tr→Prop) (X:Nat) (row:Value) (ks:List Tr) (T:Rz (Tr×List Loc)):List Value→World→Prop
 | [],u=>pre u
 | v::r,u=>∃ t,T=.ok t∧∃ g vl pc,v=.pointer (some ⟨g,0,none⟩)∧fF.gV (sb vl t.2 pc) (fF.ownB vl) F8 (X+1) 219 row ks t.1 v r u
theorem uJ.any {pre:World→Prop} {sb:Value→List Loc→Array Value→World→Value→Value→List Tr→Prop} {X:Nat} {row:Value} {ks:List Tr} {T:Rz (Tr×List Loc)} {vs:List Value} {u:World} {Q:Prop} (h:uJ pre sb X row ks T vs u) (h1:pre u→Q) (h2:∀ vl L pc rN r lq,sb vl L pc u rN r lq→Q):Q:=by
 match vs,h with
 | [],h=>exact h1 h
 | _::_,h=>
  obtain⟨t,-,g,vl,pc,-,hp⟩:=h;obtain⟨rN,r,l,hb⟩:=fF.gV.any hp;exact h2 _ _ _ _ _ _ hb
theorem uJ.low {pre:World→Prop} {sb:Value→List Loc→Array Value→World→Value→Value→List Tr→Prop} {X:Nat} {row:Value} {ks:List Tr} {T:Rz (Tr×List Loc)} {vs:List Value} {u:World} {Q:Prop} (h:uJ pre sb X row ks T vs u) (hl:vs.length≤2) (h1:pre u→Q) (h2:∀ vl L pc,sb vl L pc u row row ks→Q):Q:=by
 match vs,hl,h with
 | [],_,h=>exact h1 h
 | _::_,hl,h=>
  obtain⟨t,-,g,vl,pc,-,hp⟩:=h;exact h2 _ _ _ (fF.gV.B hp (by simpa using hl))
theorem Uo {pr:aO} {L:List Loc} {deep ctx:Int} {last:Bool} {k:Int} {t:ByteArray} {m:Int} {ks:List Tr} {p:Nat} {y:Tr} {L':List Loc} (h:wQ pr L deep ctx last k t m ks p=.ok (y,L')):(∃ M,L'=L++M)∧(L.length≤20→L'.length≤20)∧y.kd=k:=by
 have same:∀ {z:Tr},(.ok (z,L):Rz (Tr×List Loc))=.ok (y,L')→z.kd=k→(∃ M,L'=L++M)∧(L.length≤20→L'.length≤20)∧y.kd=k:=fun e hk=>by
  cases e;exact⟨⟨[],by simp⟩,id,hk⟩
 unfold wQ at h
 repeat' split at h
 all_goals first
  | (cases h;done)
  | exact same h rfl
  | skip
 rename_i h7 h8 h9 h10
 cases h
 exact⟨⟨_,rfl⟩,fun _=>by rw [List.length_append,List.length_singleton];omega,rfl⟩
theorem Qe {E:eG} {pr:aO} {ctx:Int} {last:Bool} {L:List Loc} {deep:Int} {x:Nd} {p:Nat} {y:Tr} {L':List Loc} (h:Gz E pr ctx last L deep x p=.ok (y,L')):(∃ M,L'=L++M)∧(L.length≤20→L'.length≤20)∧y.kd=x.kd:=by
 obtain⟨k,t,m,l⟩:=x;rw [Gz] at h;cases hs:lU E pr ctx (decide (k=9)) L deep l none (p+1) with
 | bad c q=>rw [hs] at h;cases h
 | ok ks=>rw [hs] at h;exact Uo h
def Dc (E:eG) (pr:aO) (ctx:Int) (outer:Bool) (L:List Loc) (deep:Int) (l:List Nd) (p:Nat) (ks:List Tr):Rz (List Tr):=(wR E pr ctx outer L deep l p).bind fun ys=>.ok (ks++ys)
theorem Nq {E:eG} {pr:aO} {ctx:Int} {outer:Bool} {L:List Loc} {deep:Int} {x:Nd} {r:List Nd} {p:Nat} {ks:List Tr}:Dc E pr ctx outer L deep (x::r) p ks=match Gz E pr ctx (outer&&r.isEmpty) L deep x p with
 | .bad c q=>.bad c q
 | .ok y=>Dc E pr ctx outer y.2 deep r (p+dL x) (ks ++ [y.1]):=by
 unfold Dc;rw [wR];cases Gz E pr ctx (outer&&r.isEmpty) L deep x p with
 | bad c q=>rfl
 | ok y=>
  simp only [Rz.bind];cases wR E pr ctx outer y.2 deep r (p+dL x) with
  | bad c q=>rfl
  | ok ys=>simp
theorem EE {X Kb S i:Nat} {row vl:Value} (hr:∀ i,row.ownBlock=some i→i<Kb) (hx:X<Kb) (hs:Kb<S) (hm:cg S vl i=false):(cg (X+1) row i || fF.ownB vl i)=false:=by
 simp only [cg,fF.ownB,Bool.or_eq_false_iff,decide_eq_false_iff_not] at hm ⊢;exact⟨⟨by omega,fun e=>by have:=hr i e;omega⟩,hm.2⟩
set_option maxRecDepth 100000 in
set_option maxHeartbeats 16000000 in
theorem rX {W:World} {C Mo D K P B:Nat} {E:eG} {eF fB:Value} {dc:Array Value} {pr:aO} {H:Nat→Bool} (x:Nd) (hIH:∀ y∈x.kids,Lm W C Mo D K P B E eF fB dc pr H y):AP W C Mo D K P B E eF fB dc pr H x:=by
 intro v outer ctx u p vl L deep pc hCS hpc hnd hsz hL hd0 hd1;obtain⟨k,t,m,l⟩:=x;rw [dY] at hnd;obtain⟨a,cc,rfl,hl1,hl2,hl3,hl4⟩:=hnd;obtain⟨T,hT⟩:∃ T,(C0 E pr ctx outer L deep (.mk k t m l) p).bind (fun t=>(.ok (t,L):Rz (Tr×List Loc)))=T:=⟨_,rfl⟩;rw [hT];rw [C0] at hT;have HIH:=Z_ (show ∀ y∈l,Lm W C Mo D K P B E eF fB dc pr H y from hIH);obtain⟨N,hN⟩:∃ N,l.length=N:=⟨_,rfl⟩;rw [hN] at hl1 ⊢;have HN:=Z_ hN;obtain⟨pe,hpe⟩:∃ pe,p+dL (.mk k t m l)=pe:=⟨_,rfl⟩;have Qg:deep+(gm l:Int)≤2000:=by simp only [dL] at hd1;omega
 rw [hpe] at hsz ⊢;have GF:p+1+gm l=pe:=by rw [←hpe];simp only [dL];omega
 have HPE:=Z_ GF;have HI:=Z_ (fun (u:World) (hE:Ext W u)=>hl4.keeps (aN hE fun i _ e=>e.elim) fun b o y=>jd (aN hE fun i _ e=>e.elim) b o y);have HT:=Z_ (show ((Dc E pr ctx outer L deep l (p+1) []).bind fun ks=>(.ok (.mk k 0 ks jo 0 ctx,L):Rz (Tr×List Loc)))=T by rw [←hT];unfold Dc;cases wR E pr ctx outer L deep l (p+1)<;>rfl);have Qh:=Z_ (fun i e=>(bG hCS.loc i e).2);have ZA:=Z_ hL;have Nr:=Z_ hCS.hu;have GG:=Z_ (And.intro hd0 Qg);have hE0:=(aB.refl (fun _=>False) u).alloc (.cells #[.int .i64 k,.string t,.int .i64 m,.slice a N cc] 24);have HC:=Z_ (hCS.extend hE0);have HB:=Z_ (aJ.made u #[.int .i64 k,.string t,.int .i64 m,.slice a N cc] 24);have HE:=Z_ (hE0.weak (S':=LS C P vl) fun _ _ e=>e.elim);have HPC:=Z_ hpc
 obtain⟨Nb,hNb⟩:∃ Nb,u.heap.size=Nb:=⟨_,rfl⟩;have C7:=Z_ hNb;rw [hNb] at HB Qh Nr;have hNl:N≤1000:=by have h1:=tV l;omega
 have hp:p≤1000:=by omega
 obtain⟨n,hn⟩:∃ n,L.length=n:=⟨_,rfl⟩;have rF:=Z_ hn;have aq8:n≤20:=by omega
 clear hE0 hCS hl4 hT hIH hN hpe GF hpc hL hd0 hd1 Qg hn;go_enter Tryz.func187,Tryz.ntmps187
 go_upto_region 1 with (fail)
 try rw [hNb]
 generalize u.alloc (.cells #[.int .i64 k,.string t,.int .i64 m,.slice a N cc] 24)=u1 at *;go_wp2_with fail
 refine(next_any HC.out.c (by omega) (by omega)).mono ?_
 rintro e w2 ⟨rfl,hC2,hB2⟩;have HC2:=Z_ (HC.out.p_ hC2 hB2);have HB2:=Z_ (HB.out.aU hC2 (by have:=HC.out.cB;have:=Nr.out;omega));have tK:=Z_ (HE.out.then (hC2.weak fun i _ e=>.inl e));clear hC2 hB2 HC HB HE;have hbc:=HB2.out.cell;obtain⟨la,lc,hvl,-,-⟩:=je HC2.out.loc;rw [rF.out] at hvl;have hcc:=HC2.out.c.cell;unfold wK at hcc;subst hvl;go_upto_region 4 with (fail)
 have HX:=Z_ (show aJ (w2.alloc (.cells #[.int .i64 k,.int .i64 0,.slice none 0 0,.int .i64 0,.string ⟨#[]⟩,.string ⟨#[]⟩,.int .i64 0,.int .i64 0,.string ⟨#[]⟩,.bool false,.slice none 0 0,.int .i64 0,.bool false,.int .i64 0,.int .i64 0,.int .i64 ctx] 345)) w2.heap.size #[.int .i64 k,.int .i64 0,.slice none 0 0,.int .i64 0,.string ⟨#[]⟩,.string ⟨#[]⟩,.int .i64 0,.int .i64 0,.string ⟨#[]⟩,.bool false,.slice none 0 0,.int .i64 0,.bool false,.int .i64 0,.int .i64 0,.int .i64 ctx] 345 from aJ.made w2 _ _);have HB3:=Z_ (HB2.out.alloc (.cells #[.int .i64 k,.int .i64 0,.slice none 0 0,.int .i64 0,.string ⟨#[]⟩,.string ⟨#[]⟩,.int .i64 0,.int .i64 0,.string ⟨#[]⟩,.bool false,.slice none 0 0,.int .i64 0,.bool false,.int .i64 0,.int .i64 0,.int .i64 ctx] 345));have yI:=Z_ (HC2.out.extend ((aB.refl _ w2).alloc (.cells #[.int .i64 k,.int .i64 0,.slice none 0 0,.int .i64 0,.string ⟨#[]⟩,.string ⟨#[]⟩,.int .i64 0,.int .i64 0,.string ⟨#[]⟩,.bool false,.slice none 0 0,.int .i64 0,.bool false,.int .i64 0,.int .i64 0,.int .i64 ctx] 345)))
 have zu:=Z_ (tK.out.alloc (.cells #[.int .i64 k,.int .i64 0,.slice none 0 0,.int .i64 0,.string ⟨#[]⟩,.string ⟨#[]⟩,.int .i64 0,.int .i64 0,.string ⟨#[]⟩,.bool false,.slice none 0 0,.int .i64 0,.bool false,.int .i64 0,.int .i64 0,.int .i64 ctx] 345));obtain⟨X,hX⟩:∃ X,w2.heap.size=X:=⟨_,rfl⟩;rw [hX] at HX;have C9:Nb<X:=by have:=HB2.out.lt;omega
 try rw [hX]
 clear hbc hcc hX HC2 HB2 tK;generalize w2.alloc (.cells #[.int .i64 k,.int .i64 0,.slice none 0 0,.int .i64 0,.string ⟨#[]⟩,.string ⟨#[]⟩,.int .i64 0,.int .i64 0,.string ⟨#[]⟩,.bool false,.slice none 0 0,.int .i64 0,.bool false,.int .i64 0,.int .i64 0,.int .i64 ctx] 345)=u3 at *;have Qi:=Z_ (show SB W u u3 C Mo D K P B Nb X E (.slice la n lc) (.slice la n lc) L deep ((p+1):Nat) eF fB dc pc pr #[.int .i64 k,.string t,.int .i64 m,.slice a N cc] (fun rv=>lY k 0 rv jo (.string ⟨#[]⟩) (.bool false) (.slice none 0 0) (.int .i64 0) (.bool false) (.int .i64 0) 0 ctx) (.slice none 0 0) (.slice none 0 0) [] from⟨yI.out,HPC.out,HB3.out,HX.out,yO _ _ _ _ _ _,zu.out,fun i e=>.inl ⟨e,Qh.out i e⟩,fun i e=>(by cases e),by have:=C7.out;omega,Nr.out,C9⟩);clear yI HPC HB3 HX zu;have hbc:=Qi.out.nb.cell;go_wp2_with fail
 clear hbc;go_loopw [28] (fun i wr=>∃ (j q:Nat) (row Jp:Value) (ks:List Tr) (M:List Loc) (Lp:Array Value),j≤N∧i=.int .i64 (j:Nat)∧Hid (ks.length=j)∧Hid (q+gm (l.drop j)=pe)∧Hid ((L++M).length≤20)∧Hid (((Dc E pr ctx outer (L++M) deep (l.drop j) q ks).bind fun ks=>(.ok (.mk k 0 ks jo 0 ctx,L):Rz (Tr×List Loc)))=T)∧Hid (SB W u wr C Mo D K P B Nb X E (.slice la n lc) Jp (L++M) deep (q:Nat) eF fB dc Lp pr #[.int .i64 k,.string t,.int .i64 m,.slice a N cc] (fun rv=>lY k 0 rv jo (.string ⟨#[]⟩) (.bool false) (.slice none 0 0) (.int .i64 0) (.bool false) (.int .i64 0) 0 ctx) row row ks)) (fun i _=>N-(intOf i).toNat)
 case atStart=>exact⟨0,p+1,.slice none 0 0,.slice la n lc,[],[],_,Nat.zero_le _,rfl,Z_ rfl,Z_ (by have:=HPE.out;rw [List.drop_zero];exact this),Z_ (by rw [List.append_nil];exact ZA.out),by rw [List.append_nil,List.drop_zero];exact HT,by rw [List.append_nil];exact Qi⟩
 clear Qi HT
 case round=>
  obtain⟨j,q,row,Jp,ks,M,Lp,hj,rfl,uK,HQ,HML,HT,HS⟩:=hrel;by_cases hlt:j<N
  ·have hji:(j:Int)<(N:Int):=by omega
   have hjd:decide ((j:Int)<(N:Int))=true:=by simpa using hji
   have hjl:j<l.length:=by rw [HN.out];exact hlt
   obtain⟨b,o,rfl,hb,uv,hu,hus,hcl⟩:=HI.out W (aB.refl _ _) j hjl;rw [dK] at hb;have hE:=HS.out.cs.ext;have hbl:=Nat.lt_of_lt_of_le hb hE.size;have Ur:=Z_ (HIH.out l[j] (List.getElem_mem hjl));have hT:=HT.out;rw [List.drop_eq_getElem_cons hjl,Nq] at hT;have hQ:=HQ.out;rw [List.drop_eq_getElem_cons hjl] at hQ;simp only [gm] at hQ;have Us:=Z_ (show dL l[j]≤gm l by have h1:=ofw.Jq l j;rw [List.drop_eq_getElem_cons hjl] at h1;simp only [gm] at h1;omega);obtain⟨lb,hlb⟩:∃ lb,(l.drop (j+1)).isEmpty=lb:=⟨_,rfl⟩
   have aa6:((j:Int) == (N:Int)-1)=lb:=by
    rw [←hlb];by_cases e:j+1=N
    ·rw [List.drop_of_length_le (by rw [HN.out];omega)]
     have:(j:Int)=(N:Int)-1:=by omega
     simp [this]
    ·have h1:¬ ((j:Int)=(N:Int)-1):=by omega
     have h2:(l.drop (j+1)).isEmpty=false:=by
      rw [List.isEmpty_eq_false_iff];intro h3;rw [List.drop_eq_nil_iff] at h3;rw [HN.out] at h3;omega
     rw [h2];exact beq_eq_false_iff_ne.2 h1
   rw [hlb] at hT;generalize l[j]=y at hu hT hQ Ur Us;have HU:=Z_ hu;obtain⟨k1,t1,m1,a1,N1,c1,rfl⟩:=dF hu;have q0:wr.cell? ⟨b,o+j*4,none⟩=some (.int .i64 k1):=(hE.cell (p:=⟨b,o+j*4,none⟩) hb id).trans ((aC _ W).2 _ _ ((hcl 0 (by decide)).trans rfl));have q1:wr.cell? ⟨b,o+j*4+1,none⟩=some (.string t1):=(hE.cell (p:=⟨b,o+j*4+1,none⟩) hb id).trans ((aC _ W).2 _ _ ((hcl 1 (by decide)).trans rfl));have q2:wr.cell? ⟨b,o+j*4+2,none⟩=some (.int .i64 m1):=(hE.cell (p:=⟨b,o+j*4+2,none⟩) hb id).trans ((aC _ W).2 _ _ ((hcl 2 (by decide)).trans rfl));have q3:wr.cell? ⟨b,o+j*4+3,none⟩=some (.slice a1 N1 c1):=(hE.cell (p:=⟨b,o+j*4+3,none⟩) hb id).trans ((aC _ W).2 _ _ ((hcl 3 (by decide)).trans rfl));have HK:=Z_ (aJ.made wr #[.int .i64 k1,.string t1,.int .i64 m1,.slice a1 N1 c1] 24)
   have AQ:=Z_ (HS.out.extend ((aB.refl (fun _=>False) wr).alloc (.cells #[.int .i64 k1,.string t1,.int .i64 m1,.slice a1 N1 c1] 24)));have hw5:=HS.out.x.lt;have Qj:=Z_ (fun i e=>(dm HS.out.grow i e).2);have XG:=Z_ (fun i e=>(bG HS.out.cs.loc i e).2);obtain⟨Kb,hKb⟩:∃ Kb,wr.heap.size=Kb:=⟨_,rfl⟩;rw [hKb] at HK hw5 Qj XG;have Jc:=Z_ hw5;obtain⟨RY,XH⟩:∃ RY,Gz E pr ctx (outer&&lb) (L++M) deep y q=RY:=⟨_,rfl⟩;rw [XH] at hT;have ZB:=Z_ XH;have HT2:=Z_ hT;have uM:=Z_ hQ;have hwN:IntKind.i64.wrap ((N:Int)-1)=(N:Int)-1:=IntWalk.i64_in _ (by omega);clear hT hQ HT HQ hcl hus hu hw5 HS hE hlb XH;go_upto_region 7 with (fail)
   try rw [hKb]
   generalize wr.alloc (.cells #[.int .i64 k1,.string t1,.int .i64 m1,.slice a1 N1 c1] 24)=u5 at *;clear q0 q1 q2 q3 hKb;obtain⟨ra,rc,hrow,-,-⟩:=fF.qK AQ.out.grow;rw [uK.out] at hrow;subst hrow;cases outer with
   | true=>
    refine fA [17,18,19,22] (fun i v _=>v=([.pointer (some ⟨X,0,none⟩),.pointer (some ⟨X,0,none⟩),.pointer (some ⟨X,0,none⟩),.pointer (some ⟨X,2,none⟩),.slice ra j rc,.pointer (some ⟨C,0,none⟩),.agg #[.int .i64 k1,.string t1,.int .i64 m1,.slice a1 N1 c1],.int .i64 ctx,.bool true,.bool true,.int .i64 (j:Nat),.pointer (some ⟨Nb,3,none⟩),.slice (some ⟨b,o,none⟩) N cc,.int .i64 (N:Nat),.int .i64 ((N:Int)-1),.bool lb,.bool lb,undef,undef,undef,.pointer (some ⟨X,0,none⟩),.pointer (some ⟨X,2,none⟩),undef]:List Value).getD i undef) (uJ (fun u9=>SB W u u9 C Mo D K P B Nb X E (.slice la n lc) Jp (L++M) deep (q:Nat) eF fB dc Lp pr #[.int .i64 k,.string t,.int .i64 m,.slice (some ⟨b,o,none⟩) N cc] (fun rv=>lY k 0 rv jo (.string ⟨#[]⟩) (.bool false) (.slice none 0 0) (.int .i64 0) (.bool false) (.int .i64 0) 0 ctx) (.slice ra j rc) (.slice ra j rc) ks∧aJ u9 Kb #[.int .i64 k1,.string t1,.int .i64 m1,.slice a1 N1 c1] 24) (fun Lr L9 PU u9 XI r9 XJ=>SB W u u9 C Mo D K P B Nb X E (.slice la n lc) Lr L9 deep ((q+dL y):Nat) eF fB dc PU pr #[.int .i64 k,.string t,.int .i64 m,.slice (some ⟨b,o,none⟩) N cc] (fun rv=>lY k 0 rv jo (.string ⟨#[]⟩) (.bool false) (.slice none 0 0) (.int .i64 0) (.bool false) (.int .i64 0) 0 ctx) XI r9 XJ∧aJ u9 Kb #[.int .i64 k1,.string t1,.int .i64 m1,.slice a1 N1 c1] 24) X (.slice ra j rc) ks RY) (fun _ _=>True) (frame:=?aq9) (fun x=>?XK) bH.mixed (by kernel_rfl) (by kernel_rfl) (fun _ _ _ _ h _=>h) ?h0t ?stt ?XL
    case XK=>
     simp only [chain.aS,chain.fill,chain.bT,chain.bC,oV,oW,oZ,o5,o6,o7,o8,o_,pq];exact rfl
    case h0t=>exact⟨AQ.out.extend (aB.refl _ _).drew,HK.out.drew⟩
    case stt=>
     iterate 23 (refine ak.cons (fun x vs u hF hm hb hd K' hK'=>?_) ?_;rotate_left)
     exact ak.nil
     ·refine ai.af rfl ?_
      have HF:=Z_ hF;clear hd hm hb hF;go_simp;exact hK'.out _ _ _ (rfl) trivial ⟨rfl,HF.out⟩
     ·refine ai.af rfl ?_
      have HF:=Z_ hF;clear hd hm hb hF;go_simp;exact hK'.out _ _ _ (rfl) trivial ⟨rfl,HF.out⟩
     ·refine ai.af rfl ?_
      have y0:x 34=.pointer (some ⟨X,0,none⟩):=(D_ hd 1 :);have HF:=Z_ hF;clear hd hm hb hF;go_simp;exact hK'.out _ _ _ (by simp only [y0];rfl) trivial ⟨rfl,HF.out⟩
     ·refine ai.af rfl ?_
      have y0:x 35=.pointer (some ⟨X,0,none⟩):=(D_ hd 2 :);have HF:=Z_ hF;clear hd hm hb hF;go_simp;exact hK'.out _ _ _ (by simp only [y0];rfl) trivial ⟨rfl,HF.out⟩
     ·refine ai.af rfl ?_
      have hq:=uJ.low hF (by have:=hb 2 _ (by decide) rfl (by kernel_rfl);omega) (Q:=u.cell? ⟨X,2,none⟩=some (.slice ra j rc)) (fun h=>(h.1.x.cell 2).trans rfl) (fun _ _ _ h=>(h.1.x.cell 2).trans rfl);have y0:x 36=.pointer (some ⟨X,2,none⟩):=(D_ hd 3 :);have HF:=Z_ hF;clear hd hm hb hF;go_simp;exact hK'.out _ _ _ (by simp only [y0];rfl) trivial ⟨rfl,HF.out⟩
     ·refine ai.af rfl ?_
      have HF:=Z_ hF;clear hd hm hb hF;go_simp;exact hK'.out _ _ _ (rfl) trivial ⟨rfl,HF.out⟩
     ·refine ai.af rfl ?_
      have hq:=uJ.any hF (Q:=∀ o9,u.cell? ⟨Kb,o9,none⟩=#[.int .i64 k1,.string t1,.int .i64 m1,.slice a1 N1 c1][o9]?) (fun h=>h.2.cell) (fun _ _ _ _ _ _ h=>h.2.cell);have HF:=Z_ hF;clear hd hm hb hF;go_simp;exact hK'.out _ _ _ (rfl) trivial ⟨rfl,HF.out⟩
     ·refine ai.af rfl ?_
      have HF:=Z_ hF;clear hd hm hb hF;go_simp;exact hK'.out _ _ _ (rfl) trivial ⟨rfl,HF.out⟩
     ·refine ai.af rfl ?_
      have HF:=Z_ hF;clear hd hm hb hF;go_simp;exact hK'.out _ _ _ (rfl) trivial ⟨rfl,HF.out⟩
     ·refine ai.af rfl ?_
      have y0:x 41=.bool true:=(D_ hd 8 :);have HF:=Z_ hF;clear hd hm hb hF;go_simp;exact hK'.out _ _ _ (by simp only [y0];rfl) trivial ⟨rfl,HF.out⟩
     ·have y0:x 42=.bool true:=(D_ hd 9 :);refine ai.fU rfl (by simp only [y0];rfl) ?_
      have HF:=Z_ hF;clear hd hm hb hF;go_simp;exact hK'.out _ _ _ (by simp only [y0];rfl) trivial ⟨rfl,HF.out⟩
     ·have y0:x 42=.bool true:=(D_ hd 9 :);refine ai.fU rfl (by simp only [y0];rfl) ?_
      have HF:=Z_ hF;clear hd hm hb hF;go_simp;exact hK'.out _ _ _ (by simp only [y0];rfl) trivial ⟨rfl,HF.out⟩
     ·have hq:=uJ.any hF (Q:=∀ o9,u.cell? ⟨Nb,o9,none⟩=#[.int .i64 k,.string t,.int .i64 m,.slice (some ⟨b,o,none⟩) N cc][o9]?) (fun h=>h.1.nb.cell) (fun _ _ _ _ _ _ h=>h.1.nb.cell);have y0:x 42=.bool true:=(D_ hd 9 :);have y1:x 44=.pointer (some ⟨Nb,3,none⟩):=(D_ hd 11 :);refine ai.fU rfl (by simp only [y0];rfl) ?_
      have HF:=Z_ hF;clear hd hm hb hF;go_simp;exact hK'.out _ _ _ (by simp only [y0,y1];rfl) trivial ⟨rfl,HF.out⟩
     ·have y0:x 42=.bool true:=(D_ hd 9 :);have y1:x 45=.slice (some ⟨b,o,none⟩) N cc:=(D_ hd 12 :);refine ai.fU rfl (by simp only [y0];rfl) ?_
      have HF:=Z_ hF;clear hd hm hb hF;go_simp;exact hK'.out _ _ _ (by simp only [y0,y1];rfl) trivial ⟨rfl,HF.out⟩
     ·have y0:x 42=.bool true:=(D_ hd 9 :);have y1:x 46=.int .i64 (N:Nat):=(D_ hd 13 :);refine ai.fU rfl (by simp only [y0];rfl) ?_
      have HF:=Z_ hF;clear hd hm hb hF;go_simp;exact hK'.out _ _ _ (by simp only [y0,y1];rfl) trivial ⟨rfl,HF.out⟩
     ·have y0:x 42=.bool true:=(D_ hd 9 :);have y1:x 43=.int .i64 (j:Nat):=(D_ hd 10 :);have y2:x 47=.int .i64 ((N:Int)-1):=(D_ hd 14 :);refine ai.fU rfl (by simp only [y0];rfl) ?_
      have HF:=Z_ hF;clear hd hm hb hF;go_simp;exact hK'.out _ _ _ (by simp only [y0,y1,y2];rfl) trivial ⟨rfl,HF.out⟩
     ·refine ai.af rfl ?_
      have y0:x 42=.bool true:=(D_ hd 9 :);have y1:x 48=.bool lb:=(D_ hd 15 :);have HF:=Z_ hF;clear hd hm hb hF;go_simp;exact hK'.out _ _ _ (by simp only [y0,y1];rfl) trivial ⟨rfl,HF.out⟩
     ·refine ai.af rfl ?_
      obtain rfl:=pR hm;have y0:x 38=.pointer (some ⟨C,0,none⟩):=(D_ hd 5 :);have y1:x 39=.agg #[.int .i64 k1,.string t1,.int .i64 m1,.slice a1 N1 c1]:=(D_ hd 6 :);have y2:x 40=.int .i64 ctx:=(D_ hd 7 :);have y3:x 49=.bool lb:=(D_ hd 16 :);have oU:=Z_ (Ur.out _ lb ctx u q Jp (L++M) deep Lp hF.1.cs hF.1.pc HU.out (by have:=uM.out;omega) HML.out GG.out.1 (by have h1:=GG.out.2;have h2:=Us.out;omega));have rG:=(show _∧_ from hF);have HF:=Z_ rG.1;have Jr:=Z_ rG.2;have rG:=(show _∧_ from hF);have HF:=Z_ rG.1;have Jr:=Z_ rG.2;clear hd hm hb hF rG;go_simp;refine oU.out.mono ?_
      rintro e u2 ⟨jP,nU⟩;have XM:=ZB.out;replace XM:Gz E pr ctx lb (L++M) deep y q=RY:=XM;rw [XM] at nU;cases RY with
      | bad c9 p9=>
       obtain rfl:e=_:=nU;have Ag:=HF.out.aU.trans jP HF.out.ls;go_wp2_with fail
       exact⟨rfl,Ag,by rw [←HT2.out];rfl⟩
      | ok t6=>
       obtain⟨g6,uD,uF,rfl,Wl,Js,Jt,zQ,Ns,Nu⟩:=nU;have Ju:=HF.out.call jP Js Jt Ns
       have EF:=Jr.out.aU jP (fun e=>by
        have h1:=HF.out.cs.cB;have h2:=HF.out.cs.pB;have h3:=HF.out.hB;have h4:=HF.out.C9;have h5:=Jc.out
        rcases e with e|e|e
        ·omega
        ·omega
        ·have:=XG.out _ e;omega)
       exact hK'.out _ _ _ (by simp only [y0,y1,y2,y3];rfl) trivial ⟨t6,rfl,g6,uD,uF,rfl,⟨Ju,EF⟩,jf (bJ (Nat.le_refl _) fun i hi hm=>⟨EE Qj.out Jc.out Jr.out.lt hm,rfl⟩) _ _ zQ,g6,rfl⟩
     ·refine ai.af rfl ?_
      obtain⟨v0,rfl⟩:=rE hm
      have y0:x 50=v0:=((D_ hd 17) 50 (by kernel_rfl) :);obtain⟨t6,rY,g6,uD,uF,rfl,hF⟩:=hF;have aY:=hF.1;have HG:=Z_ (fF.dm (aY.1.grow));have HF:=Z_ hF;clear hd hm hb hF aY;go_simp;exact hK'.out _ _ _ (by simp only [y0];rfl) trivial (⟨t6,rY,g6,uD,uF,rfl,(fF.iE chk.dR (fun u' hE=>⟨HF.out.1.1.extend hE,HF.out.1.2.ext hE⟩) (fun i e=>(HG.out i e).2) HF.out rfl)⟩)
     ·refine ai.af rfl ?_
      obtain⟨v0,v1,rfl⟩:=yP hm
      have y0:x 37=.slice ra j rc:=(D_ hd 4 :);have y1:x 51=v1:=((D_ hd 18) 51 (by kernel_rfl) :);obtain⟨t6,rY,g6,uD,uF,rfl,hF⟩:=hF;have hF2:=hF;obtain⟨aY,hxx,gg,rfl,hgb,hgr⟩:=hF2;obtain⟨us,hu1,ho,hu3⟩:=(aY.1.grow).ex;obtain⟨mg,mD,hz0,hz1,hz2⟩:=bH.bD fF.vJ;have hbz:(X+1)≤u.heap.size:=by have:=aY.1.x.lt;omega
      refine wp_append_lies _ _ _ 341 rfl ((X+1)) 219 mg (.pointer none) 1 8 Tryz.underlying341 mD hz0 hz1 hz2 rfl (by decide) (.slice ra j rc) ks.length (us.flatMap fun u=>u.cells.toList) y0 ho ⟨gg,0,none⟩ 1 1 [.pointer (some ⟨g6,0,none⟩)] y1 rfl ?_ (by intro z_ qL;simp only [List.mem_cons,List.not_mem_nil,or_false] at qL;rcases qL with rfl<;>rfl) (by decide) (by unfold maxLen;have:=uK.out;omega) (by have:=uK.out;omega) hbz u.heap.size rfl ?_
      ·intro j q hj;have e:(⟨gg,0,none⟩:Addr).add j=⟨gg,j,none⟩:=(by unfold Addr.add;split<;>simp_all);rw [e,hgb.cell];simpa [Value.cells] using hj
      ·intro g9 c9 w9 kQ kM mF yK
       exact hK'.out _ _ _ rfl trivial (⟨t6,rY,g6,uD,uF,rfl,(fF.gW chk.dR hF hu1 hu3 rfl (fun r yQ hG hC ha=>⟨aY.1.more hG hC ha,aY.2.aU hC (fun e=>by have:=Qj.out _ e;omega)⟩) kQ kM mF)⟩)
     ·refine ai.af rfl ?_
      have y0:x 33=.pointer (some ⟨X,0,none⟩):=(D_ hd 0 :);have HF:=Z_ hF;clear hd hm hb hF;go_simp;exact hK'.out _ _ _ (by simp only [y0];rfl) trivial ⟨rfl,HF.out⟩
     ·refine ai.af rfl ?_
      have y0:x 53=.pointer (some ⟨X,0,none⟩):=(D_ hd 20 :);have HF:=Z_ hF;clear hd hm hb hF;go_simp;exact hK'.out _ _ _ (by simp only [y0];rfl) trivial ⟨rfl,HF.out⟩
     ·refine ai.af rfl ?_
      obtain⟨v0,v1,v2,rfl⟩:=F_ hm
      have y0:x 54=.pointer (some ⟨X,2,none⟩):=(D_ hd 21 :);have y1:x 52=v2:=((D_ hd 19) 52 (by kernel_rfl) :);obtain⟨t6,rY,g6,uD,uF,rfl,hF⟩:=hF;have hF2:=hF;obtain⟨aY,gg,cc,rfl⟩:=hF2;have hq:=aY.1.x.cell;have Df:=aY.1.x.frozen;have kN:=aY.1.x.lt;unfold lY at hq;have HF:=Z_ hF;clear hd hm hb hF aY;go_simp;exact hK'.out _ _ undef (by simp only [y0,y1];rfl) trivial (⟨t6,rY,g6,uD,uF,rfl,(fF.iF (z:=undef) HF.out (fun h=>⟨h.1.put (j:=2) rfl,h.2.setOther (p:=⟨X,2,none⟩) (by have:=Jc.out;show Kb≠X;omega) _⟩))⟩)
    case XL=>
     intro x9 wJ w9 hl hF hk9;obtain⟨v0,v1,v2,v3,rfl⟩:=Gf hl
     obtain⟨t6,rY,g6,uD,uF,-,hF⟩:=hF;have Qk:=(show _∧_ from hF).1;subst rY;obtain⟨y6,L6⟩:=t6;obtain⟨⟨M6,rfl⟩,hl6,-⟩:=Qe ZB.out;have Ah:=Z_ Qk;have pW:=Z_ (show ((Dc E pr ctx true (L++M++M6) deep (l.drop (j+1)) (q+dL y) (ks ++ [y6])).bind fun ks=>(.ok (.mk k 0 ks jo 0 ctx,L):Rz (Tr×List Loc)))=T from HT2.out);have Dh:=Z_ (hl6 HML.out);clear hk9 hl hF Qk hl6;go_wp2_with fail
     go_roundw
     case rel=>exact⟨j+1,q+dL y,_,uD,ks ++ [y6],M++M6,uF,by omega,by go_num,Z_ (by rw [List.length_append,uK.out];rfl),Z_ (by have:=uM.out;omega),by rw [←List.append_assoc];exact Dh,by rw [←List.append_assoc];exact pW,by rw [←List.append_assoc];exact Ah⟩
     case measure=>simp [intOf];omega
   | false=>
    refine fA [17,18,19,22] (fun i v _=>v=([.pointer (some ⟨X,0,none⟩),.pointer (some ⟨X,0,none⟩),.pointer (some ⟨X,0,none⟩),.pointer (some ⟨X,2,none⟩),.slice ra j rc,.pointer (some ⟨C,0,none⟩),.agg #[.int .i64 k1,.string t1,.int .i64 m1,.slice a1 N1 c1],.int .i64 ctx,.bool false,.bool false,undef,undef,undef,undef,undef,undef,.bool false,undef,undef,undef,.pointer (some ⟨X,0,none⟩),.pointer (some ⟨X,2,none⟩),undef]:List Value).getD i undef) (uJ (fun u9=>SB W u u9 C Mo D K P B Nb X E (.slice la n lc) Jp (L++M) deep (q:Nat) eF fB dc Lp pr #[.int .i64 k,.string t,.int .i64 m,.slice (some ⟨b,o,none⟩) N cc] (fun rv=>lY k 0 rv jo (.string ⟨#[]⟩) (.bool false) (.slice none 0 0) (.int .i64 0) (.bool false) (.int .i64 0) 0 ctx) (.slice ra j rc) (.slice ra j rc) ks∧aJ u9 Kb #[.int .i64 k1,.string t1,.int .i64 m1,.slice a1 N1 c1] 24) (fun Lr L9 PU u9 XI r9 XJ=>SB W u u9 C Mo D K P B Nb X E (.slice la n lc) Lr L9 deep ((q+dL y):Nat) eF fB dc PU pr #[.int .i64 k,.string t,.int .i64 m,.slice (some ⟨b,o,none⟩) N cc] (fun rv=>lY k 0 rv jo (.string ⟨#[]⟩) (.bool false) (.slice none 0 0) (.int .i64 0) (.bool false) (.int .i64 0) 0 ctx) XI r9 XJ∧aJ u9 Kb #[.int .i64 k1,.string t1,.int .i64 m1,.slice a1 N1 c1] 24) X (.slice ra j rc) ks RY) (fun _ _=>True) (frame:=?aa7) (fun x=>?Ql) bH.mixed (by kernel_rfl) (by kernel_rfl) (fun _ _ _ _ h _=>h) ?h0f ?stf ?Qm
    case Ql=>
     simp only [chain.aS,chain.fill,chain.bT,chain.bC,oV,oW,oZ,o5,o6,o7,o8,o_,pq];exact rfl
    case h0f=>exact⟨AQ.out.extend (aB.refl _ _).drew,HK.out.drew⟩
    case stf=>
     iterate 23 (refine ak.cons (fun x vs u hF hm hb hd K' hK'=>?_) ?_;rotate_left)
     exact ak.nil
     ·refine ai.af rfl ?_
      have HF:=Z_ hF;clear hd hm hb hF;go_simp;exact hK'.out _ _ _ (rfl) trivial ⟨rfl,HF.out⟩
     ·refine ai.af rfl ?_
      have HF:=Z_ hF;clear hd hm hb hF;go_simp;exact hK'.out _ _ _ (rfl) trivial ⟨rfl,HF.out⟩
     ·refine ai.af rfl ?_
      have y0:x 34=.pointer (some ⟨X,0,none⟩):=(D_ hd 1 :);have HF:=Z_ hF;clear hd hm hb hF;go_simp;exact hK'.out _ _ _ (by simp only [y0];rfl) trivial ⟨rfl,HF.out⟩
     ·refine ai.af rfl ?_
      have y0:x 35=.pointer (some ⟨X,0,none⟩):=(D_ hd 2 :);have HF:=Z_ hF;clear hd hm hb hF;go_simp;exact hK'.out _ _ _ (by simp only [y0];rfl) trivial ⟨rfl,HF.out⟩
     ·refine ai.af rfl ?_
      have hq:=uJ.low hF (by have:=hb 2 _ (by decide) rfl (by kernel_rfl);omega) (Q:=u.cell? ⟨X,2,none⟩=some (.slice ra j rc)) (fun h=>(h.1.x.cell 2).trans rfl) (fun _ _ _ h=>(h.1.x.cell 2).trans rfl);have y0:x 36=.pointer (some ⟨X,2,none⟩):=(D_ hd 3 :);have HF:=Z_ hF;clear hd hm hb hF;go_simp;exact hK'.out _ _ _ (by simp only [y0];rfl) trivial ⟨rfl,HF.out⟩
     ·refine ai.af rfl ?_
      have HF:=Z_ hF;clear hd hm hb hF;go_simp;exact hK'.out _ _ _ (rfl) trivial ⟨rfl,HF.out⟩
     ·refine ai.af rfl ?_
      have hq:=uJ.any hF (Q:=∀ o9,u.cell? ⟨Kb,o9,none⟩=#[.int .i64 k1,.string t1,.int .i64 m1,.slice a1 N1 c1][o9]?) (fun h=>h.2.cell) (fun _ _ _ _ _ _ h=>h.2.cell);have HF:=Z_ hF;clear hd hm hb hF;go_simp;exact hK'.out _ _ _ (rfl) trivial ⟨rfl,HF.out⟩
     ·refine ai.af rfl ?_
      have HF:=Z_ hF;clear hd hm hb hF;go_simp;exact hK'.out _ _ _ (rfl) trivial ⟨rfl,HF.out⟩
     ·refine ai.af rfl ?_
      have HF:=Z_ hF;clear hd hm hb hF;go_simp;exact hK'.out _ _ _ (rfl) trivial ⟨rfl,HF.out⟩
     ·refine ai.af rfl ?_
      have y0:x 41=.bool false:=(D_ hd 8 :);have HF:=Z_ hF;clear hd hm hb hF;go_simp;exact hK'.out _ _ _ (by simp only [y0];rfl) trivial ⟨rfl,HF.out⟩
     ·have y0:x 42=.bool false:=(D_ hd 9 :);have HF:=Z_ hF;refine ai.jg (c:=false) rfl (by simp only [y0];rfl) rfl ?_
      exact hK'.out _ _ _ rfl trivial ⟨rfl,HF.out⟩
     ·have y0:x 42=.bool false:=(D_ hd 9 :);have HF:=Z_ hF;refine ai.jg (c:=false) rfl (by simp only [y0];rfl) rfl ?_
      exact hK'.out _ _ _ rfl trivial ⟨rfl,HF.out⟩
     ·have y0:x 42=.bool false:=(D_ hd 9 :);have HF:=Z_ hF;refine ai.jg (c:=false) rfl (by simp only [y0];rfl) rfl ?_
      exact hK'.out _ _ _ rfl trivial ⟨rfl,HF.out⟩
     ·have y0:x 42=.bool false:=(D_ hd 9 :);have HF:=Z_ hF;refine ai.jg (c:=false) rfl (by simp only [y0];rfl) rfl ?_
      exact hK'.out _ _ _ rfl trivial ⟨rfl,HF.out⟩
     ·have y0:x 42=.bool false:=(D_ hd 9 :);have HF:=Z_ hF;refine ai.jg (c:=false) rfl (by simp only [y0];rfl) rfl ?_
      exact hK'.out _ _ _ rfl trivial ⟨rfl,HF.out⟩
     ·have y0:x 42=.bool false:=(D_ hd 9 :);have HF:=Z_ hF;refine ai.jg (c:=false) rfl (by simp only [y0];rfl) rfl ?_
      exact hK'.out _ _ _ rfl trivial ⟨rfl,HF.out⟩
     ·refine ai.af rfl ?_
      have y0:x 42=.bool false:=(D_ hd 9 :);have y1:x 48=undef:=(D_ hd 15 :);have HF:=Z_ hF;clear hd hm hb hF;go_simp;exact hK'.out _ _ _ (by simp only [y0,y1];rfl) trivial ⟨rfl,HF.out⟩
     ·refine ai.af rfl ?_
      obtain rfl:=pR hm;have y0:x 38=.pointer (some ⟨C,0,none⟩):=(D_ hd 5 :);have y1:x 39=.agg #[.int .i64 k1,.string t1,.int .i64 m1,.slice a1 N1 c1]:=(D_ hd 6 :);have y2:x 40=.int .i64 ctx:=(D_ hd 7 :);have y3:x 49=.bool false:=(D_ hd 16 :);have oU:=Z_ (Ur.out _ false ctx u q Jp (L++M) deep Lp hF.1.cs hF.1.pc HU.out (by have:=uM.out;omega) HML.out GG.out.1 (by have h1:=GG.out.2;have h2:=Us.out;omega));have rG:=(show _∧_ from hF);have HF:=Z_ rG.1;have Jr:=Z_ rG.2;have rG:=(show _∧_ from hF);have HF:=Z_ rG.1;have Jr:=Z_ rG.2;clear hd hm hb hF rG;go_simp;refine oU.out.mono ?_
      rintro e u2 ⟨jP,nU⟩;have XM:=ZB.out;replace XM:Gz E pr ctx false (L++M) deep y q=RY:=XM;rw [XM] at nU;cases RY with
      | bad c9 p9=>
       obtain rfl:e=_:=nU;have Ag:=HF.out.aU.trans jP HF.out.ls;go_wp2_with fail
       exact⟨rfl,Ag,by rw [←HT2.out];rfl⟩
      | ok t6=>
       obtain⟨g6,uD,uF,rfl,Wl,Js,Jt,zQ,Ns,Nu⟩:=nU;have Ju:=HF.out.call jP Js Jt Ns
       have EF:=Jr.out.aU jP (fun e=>by
        have h1:=HF.out.cs.cB;have h2:=HF.out.cs.pB;have h3:=HF.out.hB;have h4:=HF.out.C9;have h5:=Jc.out
        rcases e with e|e|e
        ·omega
        ·omega
        ·have:=XG.out _ e;omega)
       exact hK'.out _ _ _ (by simp only [y0,y1,y2,y3];rfl) trivial ⟨t6,rfl,g6,uD,uF,rfl,⟨Ju,EF⟩,jf (bJ (Nat.le_refl _) fun i hi hm=>⟨EE Qj.out Jc.out Jr.out.lt hm,rfl⟩) _ _ zQ,g6,rfl⟩
     ·refine ai.af rfl ?_
      obtain⟨v0,rfl⟩:=rE hm
      have y0:x 50=v0:=((D_ hd 17) 50 (by kernel_rfl) :);obtain⟨t6,rY,g6,uD,uF,rfl,hF⟩:=hF;have aY:=hF.1;have HG:=Z_ (fF.dm (aY.1.grow));have HF:=Z_ hF;clear hd hm hb hF aY;go_simp;exact hK'.out _ _ _ (by simp only [y0];rfl) trivial (⟨t6,rY,g6,uD,uF,rfl,(fF.iE chk.dR (fun u' hE=>⟨HF.out.1.1.extend hE,HF.out.1.2.ext hE⟩) (fun i e=>(HG.out i e).2) HF.out rfl)⟩)
     ·refine ai.af rfl ?_
      obtain⟨v0,v1,rfl⟩:=yP hm
      have y0:x 37=.slice ra j rc:=(D_ hd 4 :);have y1:x 51=v1:=((D_ hd 18) 51 (by kernel_rfl) :);obtain⟨t6,rY,g6,uD,uF,rfl,hF⟩:=hF;have hF2:=hF;obtain⟨aY,hxx,gg,rfl,hgb,hgr⟩:=hF2;obtain⟨us,hu1,ho,hu3⟩:=(aY.1.grow).ex;obtain⟨mg,mD,hz0,hz1,hz2⟩:=bH.bD fF.vJ;have hbz:(X+1)≤u.heap.size:=by have:=aY.1.x.lt;omega
      refine wp_append_lies _ _ _ 341 rfl ((X+1)) 219 mg (.pointer none) 1 8 Tryz.underlying341 mD hz0 hz1 hz2 rfl (by decide) (.slice ra j rc) ks.length (us.flatMap fun u=>u.cells.toList) y0 ho ⟨gg,0,none⟩ 1 1 [.pointer (some ⟨g6,0,none⟩)] y1 rfl ?_ (by intro z_ qL;simp only [List.mem_cons,List.not_mem_nil,or_false] at qL;rcases qL with rfl<;>rfl) (by decide) (by unfold maxLen;have:=uK.out;omega) (by have:=uK.out;omega) hbz u.heap.size rfl ?_
      ·intro j q hj;have e:(⟨gg,0,none⟩:Addr).add j=⟨gg,j,none⟩:=(by unfold Addr.add;split<;>simp_all);rw [e,hgb.cell];simpa [Value.cells] using hj
      ·intro g9 c9 w9 kQ kM mF yK
       exact hK'.out _ _ _ rfl trivial (⟨t6,rY,g6,uD,uF,rfl,(fF.gW chk.dR hF hu1 hu3 rfl (fun r yQ hG hC ha=>⟨aY.1.more hG hC ha,aY.2.aU hC (fun e=>by have:=Qj.out _ e;omega)⟩) kQ kM mF)⟩)
     ·refine ai.af rfl ?_
      have y0:x 33=.pointer (some ⟨X,0,none⟩):=(D_ hd 0 :);have HF:=Z_ hF;clear hd hm hb hF;go_simp;exact hK'.out _ _ _ (by simp only [y0];rfl) trivial ⟨rfl,HF.out⟩
     ·refine ai.af rfl ?_
      have y0:x 53=.pointer (some ⟨X,0,none⟩):=(D_ hd 20 :);have HF:=Z_ hF;clear hd hm hb hF;go_simp;exact hK'.out _ _ _ (by simp only [y0];rfl) trivial ⟨rfl,HF.out⟩
     ·refine ai.af rfl ?_
      obtain⟨v0,v1,v2,rfl⟩:=F_ hm
      have y0:x 54=.pointer (some ⟨X,2,none⟩):=(D_ hd 21 :);have y1:x 52=v2:=((D_ hd 19) 52 (by kernel_rfl) :);obtain⟨t6,rY,g6,uD,uF,rfl,hF⟩:=hF;have hF2:=hF;obtain⟨aY,gg,cc,rfl⟩:=hF2;have hq:=aY.1.x.cell;have Df:=aY.1.x.frozen;have kN:=aY.1.x.lt;unfold lY at hq;have HF:=Z_ hF;clear hd hm hb hF aY;go_simp;exact hK'.out _ _ undef (by simp only [y0,y1];rfl) trivial (⟨t6,rY,g6,uD,uF,rfl,(fF.iF (z:=undef) HF.out (fun h=>⟨h.1.put (j:=2) rfl,h.2.setOther (p:=⟨X,2,none⟩) (by have:=Jc.out;show Kb≠X;omega) _⟩))⟩)
    case Qm=>
     intro x9 wJ w9 hl hF hk9;obtain⟨v0,v1,v2,v3,rfl⟩:=Gf hl
     obtain⟨t6,rY,g6,uD,uF,-,hF⟩:=hF;have Qk:=(show _∧_ from hF).1;subst rY;obtain⟨y6,L6⟩:=t6;obtain⟨⟨M6,rfl⟩,hl6,-⟩:=Qe ZB.out;have Ah:=Z_ Qk;have pW:=Z_ (show ((Dc E pr ctx false (L++M++M6) deep (l.drop (j+1)) (q+dL y) (ks ++ [y6])).bind fun ks=>(.ok (.mk k 0 ks jo 0 ctx,L):Rz (Tr×List Loc)))=T from HT2.out);have Dh:=Z_ (hl6 HML.out);clear hk9 hl hF Qk hl6;go_wp2_with fail
     go_roundw
     case rel=>exact⟨j+1,q+dL y,_,uD,ks ++ [y6],M++M6,uF,by omega,by go_num,Z_ (by rw [List.length_append,uK.out];rfl),Z_ (by have:=uM.out;omega),by rw [←List.append_assoc];exact Dh,by rw [←List.append_assoc];exact pW,by rw [←List.append_assoc];exact Ah⟩
     case measure=>simp [intOf];omega
  ·obtain rfl:j=N:=by omega
   have hjd:decide ((j:Int)<(j:Int))=false:=by simp
   have hT:=HT.out;have hQ:=HQ.out;rw [List.drop_of_length_le (by rw [HN.out];exact Nat.le_refl _)] at hT hQ;have hR0:Dc E pr ctx outer (L++M) deep [] q ks=.ok ks:=by unfold Dc;simp [wR,Rz.bind]
   rw [hR0] at hT;obtain rfl:q=pe:=hQ;have vH:=Z_ (show T=.ok (.mk k 0 ks jo 0 ctx,L) from hT.symm);obtain⟨ga,gc,hv,hv1,hv2⟩:=je HS.out.cs.loc;have hlen:n≤(L++M).length:=by rw [List.length_append,rF.out];omega
   subst hv;obtain⟨gn,hgn⟩:∃ gn,(L++M).length=gn:=⟨_,rfl⟩;rw [hgn] at hlen hv1 HS;have HGN:=Z_ hgn;have hcc:=HS.out.cs.c.cell;have hcf:=HS.out.cs.c.frozen;have hcl:=HS.out.cs.c.lt;unfold wK at hcc;have hgi:(n:Int)≤(gc:Int):=by omega
   have hg0:(0:Int)≤(n:Int):=by omega
   clear hT hR0 HT HQ HI HIH hgn;go_wp2_with fail
   have jP:=aA (S:=C) (aB.refl _ wr) 2 (.slice ga n gc);have hC8:aB (LS C P (.slice ga gn gc)) wr (wr.setCell ⟨C,2,none⟩ (.slice ga n gc)):=jP.weak fun _ _ e=>.inl e
   have hgl:Grow 3 340 Di B (wr.setCell ⟨C,2,none⟩ (.slice ga n gc)) (.slice ga n gc) L:=by
    have h1:=HS.out.cs.loc.aU jB jP (fun i e=>by have:=HS.out.cs.cB;omega);have h2:=Jv h1;rw [rF.out] at h2;exact h2
   have hown:∀ i,(Value.slice ga n gc).ownBlock=some i→(Value.slice ga gn gc).ownBlock=some i:=fun i e=>by
    cases ga with
    | none=>cases e
    | some z=>exact e
   have hcs:=HS.out.cs.Qn hC8 (HS.out.cs.c.set 2 (.slice ga n gc)) (HS.out.cs.p.aU jP (fun e=>HS.out.cs.cP e.symm)) hgl;have hsb:=HS.out.call hC8 hcs HS.out.pc (fun i e=>.inl (hown i e));have htr:=GH (B:=u.heap.size) hsb.x hsb.grow (by have:=hsb.h0;have:=hsb.C9;omega) (by constructor<;>decide) (fun i e=>by rcases hsb.fresh i e with f|f<;>(have:=hsb.C9;omega)) hsb.apart;have Nv:=Z_ (And.intro hsb (And.intro htr hcs));clear jP hC8 hgl hsb htr hcs hcc hcf hcl;go_ret
   refine⟨Nv.out.1.aU,?_⟩
   rw [vH.out];exact⟨X,_,_,rfl,by have:=Nv.out.1.h0;have:=Nv.out.1.C9;omega,Nv.out.2.2,Nv.out.1.pc,Nv.out.2.1,fun i e=>by rcases Nv.out.1.fresh i e with f|f;exact .inl f.1;exact .inr (by have:=Nv.out.1.h0;have:=Nv.out.1.C9;omega),rfl⟩
end chk
end Go.Proofs.YtpcihajmcejliacGreatDoor
namespace Go.Proofs.YtpcihajmcejliacGreatDoor
open Go.RowKit
namespace chk
open bH fF
theorem Ut {E:eG} {L:List Loc} {ctx:Int} {alone:Bool} {k:Int} {t:ByteArray} {m:Int} {ks:List Tr} {p:Nat} {y:Tr} (h:wS E L ctx alone k t m ks p=.ok y):y.kd=k∧y.kids=ks:=by
 unfold wS at h;split at h
 ·cases hv:AU E L t p with
  | bad c q=>rw [hv] at h;cases h
  | ok r=>
   rw [hv] at h;simp only [Rz.bind] at h;split at h
   ·cases h;exact⟨rfl,rfl⟩
   ·cases h
 ·split at h
  ·cases hv:uC E ctx alone t ks p with
   | bad c q=>rw [hv] at h;cases h
   | ok r=>rw [hv] at h;cases h;exact⟨rfl,rfl⟩
  ·cases h;exact⟨rfl,rfl⟩
theorem Uu {E:eG} {L:List Loc} {ctx:Int}:∀ (l:List Nd) (p:Nat) (ks:List Tr),tX E L ctx l p=.ok ks→ks.length=l.length:=by
 intro l;induction l with
 | nil=>intro p ks h;rw [tX] at h;cases h;rfl
 | cons x r ih=>
  intro p ks h;rw [tX] at h;cases h1:zy E L ctx false x p with
  | bad c q=>rw [h1] at h;cases h
  | ok y=>
   rw [h1] at h;simp only [Rz.bind] at h;cases h2:tX E L ctx r (p+dL x) with
   | bad c q=>rw [h2] at h;cases h
   | ok ys=>rw [h2] at h;cases h;rw [List.length_cons,List.length_cons,ih _ _ h2]
theorem XN {E:eG} {L:List Loc} {ctx:Int} {alone:Bool} {x:Nd} {p:Nat} {y:Tr} (h:zy E L ctx alone x p=.ok y):y.kd=x.kd∧y.kids.length=x.kids.length:=by
 obtain⟨k,t,m,l⟩:=x;rw [zy] at h;cases h1:tX E L ctx l (p+1) with
 | bad c q=>rw [h1] at h;cases h
 | ok ks=>
  rw [h1] at h;obtain⟨e1,e2⟩:=Ut h;exact⟨e1,by rw [e2,Uu _ _ _ h1];rfl⟩
theorem XO {E:eG} {pr:aO} {ctx:Int} {outer:Bool} {L:List Loc} {deep:Int} {x:Nd} {p:Nat} {y:Tr} (h:C0 E pr ctx outer L deep x p=.ok y):y.kd=x.kd:=by
 obtain⟨k,t,m,l⟩:=x;rw [C0] at h;cases h1:wR E pr ctx outer L deep l (p+1) with
 | bad c q=>rw [h1] at h;cases h
 | ok ks=>rw [h1] at h;cases h;rfl
theorem Qo {x:Nd} (h:fC x) (hk:x.kd=17):0<x.kids.length:=by
 obtain⟨k,t,m,l⟩:=x;obtain rfl:k=17:=hk;have hf:=h.form;show 0<l.length
 cases hf
 simp
theorem Qp {E:eG} {pr:aO} {ctx:Int} {alone:Bool} {L:List Loc} {deep:Int}:∀ (l:List Nd) (b:Option Int) (p:Nat) (ks:List Tr),lU E pr ctx alone L deep l b p=.ok ks→(∀ y∈l,fC y)→ks.length=l.length∧∀ y∈ks,y.kd=17→0<y.kids.length:=by
 intro l;induction l with
 | nil=>intro b p ks h _;rw [lU] at h;cases h;exact⟨rfl,fun y hy=>by cases hy⟩
 | cons x r ih=>
  intro b p ks h hn;rw [lU] at h;cases h1:(if x.kd=6 then C0 E pr (jL ctx (b.getD 0)) false L (deep+1) x p else zy E L ctx alone x p) with
  | bad c q=>rw [h1] at h;cases h
  | ok y=>
   rw [h1] at h;simp only [Rz.bind] at h;cases h2:lU E pr ctx alone L deep r (some (b.getD y.lab)) (p+dL x) with
   | bad c q=>rw [h2] at h;cases h
   | ok ys=>
    rw [h2] at h;cases h
    obtain⟨e1,e2⟩:=ih _ _ _ h2 (fun z hz=>hn z (List.mem_cons_of_mem _ hz));refine⟨by rw [List.length_cons,List.length_cons,e1],fun z hz hk=>?_⟩
    rcases List.mem_cons.1 hz with rfl|hz
    ·split at h1
     ·rename_i h6
      have:=XO h1;omega
     ·obtain⟨e3,e4⟩:=XN h1
      rw [e4];exact Qo (hn x (List.mem_cons_self ..)) (by rw [←e3];exact hk)
    ·exact e2 z hz hk
def xE (z0:Value) (F:List Value→World→Prop):List Value→World→Prop
 | [],u=>F [] u
 | v::r,u=>v=z0∧F r u
theorem xE.ext {w0:World} {z:Int} {ls:List Int} {n:Nat} {z0:Value} {vs:List Value} {u:World} (h:xE z0 (nD w0 z ls n) vs u):Ext w0 u:=by
 match vs,h with
 | [],h=>exact h
 | _::_,h=>exact h.2.ext
theorem Uw {ks:List Tr} (h:0<ks.length) {P:Tr→Prop} (hP:∀ y∈ks,P y):P (ks.headD default):=by
 rw [EG h];exact hP _ (List.getElem_mem h)
theorem tail_at {l:List Tr} (h:1<l.length):l.tail.headD default=l[1]:=by
 match l,h with
 | _::_::_,_=>rfl
theorem GI {a b:ByteArray} (h:a≠b):(a.toList == b.toList)=false:=by rw [ByteArray.toList_eq,ByteArray.toList_eq];simpa using fun e=>h (ByteArray.ext (Array.toList_inj.1 e))
theorem Qq {α : Type} {l:List α} {e:Nat} (h:e<l.length) {P:α→Bool}:(l.take (e+1)).any P=((l.take e).any P || P l[e]):=by
 rw [List.take_succ_eq_append_getElem h,List.any_append];simp
theorem XP {α : Type} {l:List α} {e:Nat} (h:e<l.length) {P:α→Bool}:P l[e]=true→l.any P=true:=fun hp=>List.any_eq_true.2 ⟨_,List.getElem_mem h,hp⟩
variable {W u0 u u':World} {C Mo D K P B Nb X:Nat} {E:eG} {Dj vl:Value} {L:List Loc} {deep:Int} {at_:Nat} {eF fB:Value} {dc pc:Array Value} {pr:aO} {nc:Array Value}
theorem uT {k m:Int} {r:ry} {p0 p1 p2 p3 p4 p5:Value} {ctx:Int} {row:Value} {ks:List Tr} (h:SB W u0 u C Mo D K P B Nb X E Dj vl L deep (at_:Nat) eF fB dc pc pr nc (fun rv=>lY k m rv r p0 p1 p2 p3 p4 p5 0 ctx) row row ks) (hr:AB r):ED W u0 C Mo D K P B E Dj deep at_ eF fB dc pr k (.ok (.mk k m ks r 0 ctx,L)) (.returned (.pointer (some ⟨X,0,none⟩))) u:=by
 have h1:=h.h0;have h2:=h.C9
 have ho:=dm h.grow;refine⟨h.aU,X,vl,pc,rfl,by omega,h.cs,h.pc,GH (B:=u0.heap.size) h.x h.grow (by omega) hr (fun i e=>by rcases h.fresh i e with f|f<;>omega) h.apart,fun i e=>?_,rfl⟩
 rcases h.fresh i e with f|f
 ·exact .inl f.1
 ·exact .inr (by omega)
theorem rH {rN row:Value} {xc:Value→Array Value} {ks:List Tr} {at2:Int} {c:Int} {p:Nat} {kd:Int} (h:SB W u0 u C Mo D K P B Nb X E Dj vl L deep at2 eF fB dc pc pr nc xc rN row ks):ED W u0 C Mo D K P B E Dj deep at_ eF fB dc pr kd (.bad c p) (.panicked (rB c (p:Nat))) u:=⟨h.aU,rfl⟩
theorem XQ {w:World} {Y:Nat→Bool} {B:Nat} {row:Value} {ks:List Tr} (h:lV Y 1 219 F8 B w row ks) (hp:0<ks.length):∃ rb ro c,row=.slice (some ⟨rb,ro,none⟩) ks.length c∧rb<w.heap.size∧∀ (j:Nat) (h:j<ks.length),∃ g a2 c2 p0 p1 p2 p3 p4 p5,w.cell? ⟨rb,ro+j,none⟩=some (.pointer (some ⟨g,0,none⟩))∧g<w.heap.size∧wU w ks[j] (.pointer (some ⟨g,0,none⟩))∧(∀ i,i<16→w.cell? ⟨g,i,none⟩=(lY ks[j].kd ks[j].nm (.slice a2 ks[j].kids.length c2) ks[j].ref p0 p1 p2 p3 p4 p5 ks[j].lab ks[j].ctx)[i]?):=by
 obtain⟨a,c,e,-,-,h3⟩:=yR h dR xG;have h3:=h3.keeps (aC _ _) (ou (aC _ _));obtain⟨rb,ro,rfl,hb,-⟩:=h3 0 hp;refine⟨rb,ro,c,e,hb,fun j hj=>?_⟩
 obtain⟨rb2,ro2,e2,-,u,hu,ht⟩:=h3 j hj;cases e2
 obtain⟨g,a2,c2,p0,p1,p2,p3,p4,p5,rfl,hg,hc,-⟩:=rW ht;exact⟨g,a2,c2,p0,p1,p2,p3,p4,p5,by simpa using hu,hg,ht,hc⟩
end chk
end Go.Proofs.YtpcihajmcejliacGreatDoor
