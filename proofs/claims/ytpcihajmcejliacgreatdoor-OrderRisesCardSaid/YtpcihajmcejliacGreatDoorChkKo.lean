/- The walk of the checker's block. What a statement's kids are, in plain Lean; the statement's tree when it is done. -/
import Derived.Test.YtpcihajmcejliacGreatDoorWeaveGo
namespace Go.Proofs.YtpcihajmcejliacGreatDoor
open Go.RowKit
namespace chk
open bu cG
def FH (W:World) (C Mo D K P B:Nat) (E:dI) (cO dw:Value) (dc:Array Value) (pr:aI) (H:Nat→Bool) (x:Nd):Prop:=∀ (v:Value) (last:Bool) (ctx:Int) (u:World) (p:Nat) (vl:Value) (L:List Loc) (deep:Int) (pc:Array Value),CS W u C Mo D K P B E vl L deep (p:Nat) cO dw dc pc→zA pr pc→fN (hide H W) x v→p+fL x≤1000→L.length≤20→0≤deep→deep+fL x≤2000→
 Calls Tryz.prog 235 #[.pointer (some ⟨C,0,none⟩),v,.int .i64 ctx,.bool last] u (zB W u C Mo D K P B E vl deep (p+fL x) cO dw dc pr x.kd (FI E pr ctx last L deep x p))
def wI (W:World) (C Mo D K P B:Nat) (E:dI) (cO dw:Value) (dc:Array Value) (pr:aI) (H:Nat→Bool) (x:Nd):Prop:=∀ (v:Value) (outer:Bool) (ctx:Int) (u:World) (p:Nat) (vl:Value) (L:List Loc) (deep:Int) (pc:Array Value),CS W u C Mo D K P B E vl L deep (p:Nat) cO dw dc pc→zA pr pc→fN (hide H W) x v→p+fL x≤1000→L.length≤20→0≤deep→deep+fL x≤2000→
 Calls Tryz.prog 187 #[.pointer (some ⟨C,0,none⟩),v,.int .i64 ctx,.bool outer] u (zB W u C Mo D K P B E vl deep (p+fL x) cO dw dc pr x.kd ((zC E pr ctx outer L deep x p).bind fun t=>.ok (t,L)))
def pJ (pre:World→Prop) (sb:Value→List Loc→Array Value→World→Value→Value→List Tr→Prop) (X:Nat) (row:Value) (ks:List Tr) (T:Rz (Tr×List Loc)):List Value→World→Prop
 | [],u=>pre u
 | v::r,u=>∃ t,T=.ok t∧∃ g vl pc,v=.pointer (some ⟨g,0,none⟩)∧cG.eF (sb vl t.2 pc) (cG.ownB vl) AK (X+1) 219 row ks t.1 v r u
theorem pJ.any {pre:World→Prop} {sb:Value→List Loc→Array Value→World→Value→Value→List Tr→Prop} {X:Nat} {row:Value} {ks:List Tr} {T:Rz (Tr×List Loc)} {vs:List Value} {u:World} {Q:Prop} (h:pJ pre sb X row ks T vs u) (h1:pre u→Q) (h2:∀ vl L pc rN r lq,sb vl L pc u rN r lq→Q):Q:=by
 match vs,h with
 | [],h=>exact h1 h
 | _::_,h=>
  obtain⟨t,-,g,vl,pc,-,hp⟩:=h;obtain⟨rN,r,l,hb⟩:=cG.eF.any hp;exact h2 _ _ _ _ _ _ hb
theorem pJ.low {pre:World→Prop} {sb:Value→List Loc→Array Value→World→Value→Value→List Tr→Prop} {X:Nat} {row:Value} {ks:List Tr} {T:Rz (Tr×List Loc)} {vs:List Value} {u:World} {Q:Prop} (h:pJ pre sb X row ks T vs u) (hl:vs.length≤2) (h1:pre u→Q) (h2:∀ vl L pc,sb vl L pc u row row ks→Q):Q:=by
 match vs,hl,h with
 | [],_,h=>exact h1 h
 | _::_,hl,h=>
  obtain⟨t,-,g,vl,pc,-,hp⟩:=h;exact h2 _ _ _ (cG.eF.B hp (by simpa using hl))
theorem NI {pr:aI} {L:List Loc} {deep ctx:Int} {last:Bool} {k:Int} {t:ByteArray} {m:Int} {ks:List Tr} {p:Nat} {y:Tr} {L':List Loc} (h:uZ pr L deep ctx last k t m ks p=.ok (y,L')):(∃ M,L'=L++M)∧(L.length≤20→L'.length≤20)∧y.kd=k:=by
 have same:∀ {z:Tr},(.ok (z,L):Rz (Tr×List Loc))=.ok (y,L')→z.kd=k→(∃ M,L'=L++M)∧(L.length≤20→L'.length≤20)∧y.kd=k:=fun e hk=>by
  cases e;exact⟨⟨[],by simp⟩,id,hk⟩
 unfold uZ at h
 repeat' split at h
 all_goals first
  | (cases h;done)
  | exact same h rfl
  | skip
 rename_i h7 h8 h9 h10
 cases h
 exact⟨⟨_,rfl⟩,fun _=>by rw [List.length_append,List.length_singleton];omega,rfl⟩
theorem JC {E:dI} {pr:aI} {ctx:Int} {last:Bool} {L:List Loc} {deep:Int} {x:Nd} {p:Nat} {y:Tr} {L':List Loc} (h:FI E pr ctx last L deep x p=.ok (y,L')):(∃ M,L'=L++M)∧(L.length≤20→L'.length≤20)∧y.kd=x.kd:=by
 obtain⟨k,t,m,l⟩:=x;rw [FI] at h;cases hs:kT E pr ctx (decide (k=9)) L deep l none (p+1) with
 | bad c q=>rw [hs] at h;cases h
 | ok ks=>rw [hs] at h;exact NI h
def xY (E:dI) (pr:aI) (ctx:Int) (outer:Bool) (L:List Loc) (deep:Int) (l:List Nd) (p:Nat) (ks:List Tr):Rz (List Tr):=(wJ E pr ctx outer L deep l p).bind fun ys=>.ok (ks++ys)
theorem GF {E:dI} {pr:aI} {ctx:Int} {outer:Bool} {L:List Loc} {deep:Int} {x:Nd} {r:List Nd} {p:Nat} {ks:List Tr}:xY E pr ctx outer L deep (x::r) p ks=match FI E pr ctx (outer&&r.isEmpty) L deep x p with
 | .bad c q=>.bad c q
 | .ok y=>xY E pr ctx outer y.2 deep r (p+fL x) (ks ++ [y.1]):=by
 unfold xY;rw [wJ];cases FI E pr ctx (outer&&r.isEmpty) L deep x p with
 | bad c q=>rfl
 | ok y=>
  simp only [Rz.bind];cases wJ E pr ctx outer y.2 deep r (p+fL x) with
  | bad c q=>rfl
  | ok ys=>simp
theorem zD {X Kb S i:Nat} {row vl:Value} (hr:∀ i,row.ownBlock=some i→i<Kb) (hx:X<Kb) (hs:Kb<S) (hm:bg S vl i=false):(bg (X+1) row i || cG.ownB vl i)=false:=by
 simp only [bg,cG.ownB,Bool.or_eq_false_iff,decide_eq_false_iff_not] at hm ⊢;exact⟨⟨by omega,fun e=>by have:=hr i e;omega⟩,hm.2⟩
set_option maxRecDepth 100000 in
set_option maxHeartbeats 16000000 in
theorem tV {W:World} {C Mo D K P B:Nat} {E:dI} {cO dw:Value} {dc:Array Value} {pr:aI} {H:Nat→Bool} (x:Nd) (VD:∀ y∈x.kids,FH W C Mo D K P B E cO dw dc pr H y):wI W C Mo D K P B E cO dw dc pr H x:=by
 intro v outer ctx u p vl L deep pc hCS hpc hnd hsz hL hd0 hd1;obtain⟨k,t,m,l⟩:=x;rw [dL] at hnd;obtain⟨a,cc,rfl,hl1,hl2,hl3,hl4⟩:=hnd;obtain⟨T,hT⟩:∃ T,(zC E pr ctx outer L deep (.mk k t m l) p).bind (fun t=>(.ok (t,L):Rz (Tr×List Loc)))=T:=⟨_,rfl⟩;rw [hT];rw [zC] at hT;have HIH:=Z_ (show ∀ y∈l,FH W C Mo D K P B E cO dw dc pr H y from VD);obtain⟨N,hN⟩:∃ N,l.length=N:=⟨_,rfl⟩;rw [hN] at hl1 ⊢;have HN:=Z_ hN;obtain⟨pe,hpe⟩:∃ pe,p+fL (.mk k t m l)=pe:=⟨_,rfl⟩;have JD:deep+(kV l:Int)≤2000:=by simp only [fL] at hd1;omega
 rw [hpe] at hsz ⊢;have Bd:p+1+kV l=pe:=by rw [←hpe];simp only [fL];omega
 have VE:=Z_ Bd;have HI:=Z_ (fun (u:World) (hE:Ext W u)=>hl4.keeps (aH hE fun i _ e=>e.elim) fun b o y=>g_ (aH hE fun i _ e=>e.elim) b o y);have HT:=Z_ (show ((xY E pr ctx outer L deep l (p+1) []).bind fun ks=>(.ok (.mk k 0 ks gq 0 ctx,L):Rz (Tr×List Loc)))=T by rw [←hT];unfold xY;cases wJ E pr ctx outer L deep l (p+1)<;>rfl);have JE:=Z_ (fun i e=>(bn hCS.loc i e).2);have Ux:=Z_ hL;have GG:=Z_ hCS.hu;have wK:=Z_ (And.intro hd0 JD);have hE0:=(aB.refl (fun _=>False) u).alloc (.cells #[.int .i64 k,.string t,.int .i64 m,.slice a N cc] 24);have HC:=Z_ (hCS.extend hE0);have HB:=Z_ (aC.made u #[.int .i64 k,.string t,.int .i64 m,.slice a N cc] 24);have HE:=Z_ (hE0.weak (S':=LS C P vl) fun _ _ e=>e.elim);have VG:=Z_ hpc
 obtain⟨Nb,hNb⟩:∃ Nb,u.heap.size=Nb:=⟨_,rfl⟩;have DW:=Z_ hNb;rw [hNb] at HB JE GG;have hNl:N≤1000:=by have h1:=oO l;omega
 have hp:p≤1000:=by omega
 obtain⟨n,hn⟩:∃ n,L.length=n:=⟨_,rfl⟩;have yJ:=Z_ hn;have aa6:n≤20:=by omega
 clear hE0 hCS hl4 hT VD hN hpe Bd hpc hL hd0 hd1 JD hn;go_enter Tryz.func187,Tryz.ntmps187
 go_upto_region 1 with (fail)
 try rw [hNb]
 generalize u.alloc (.cells #[.int .i64 k,.string t,.int .i64 m,.slice a N cc] 24)=u1 at *;go_wp2_with fail
 refine(next_any HC.out.c (by omega) (by omega)).mono ?_
 rintro e w2 ⟨rfl,hC2,hB2⟩;have HC2:=Z_ (HC.out.lQ hC2 hB2);have HB2:=Z_ (HB.out.aK hC2 (by have:=HC.out.cB;have:=GG.out;omega));have lG:=Z_ (HE.out.then (hC2.weak fun i _ e=>.inl e));clear hC2 hB2 HC HB HE;have hbc:=HB2.out.cell;obtain⟨la,lc,hvl,-,-⟩:=dZ HC2.out.loc;rw [yJ.out] at hvl;have hcc:=HC2.out.c.cell;unfold qK at hcc;subst hvl;go_upto_region 4 with (fail)
 have HX:=Z_ (show aC (w2.alloc (.cells #[.int .i64 k,.int .i64 0,.slice none 0 0,.int .i64 0,.string ⟨#[]⟩,.string ⟨#[]⟩,.int .i64 0,.int .i64 0,.string ⟨#[]⟩,.bool false,.slice none 0 0,.int .i64 0,.bool false,.int .i64 0,.int .i64 0,.int .i64 ctx] 345)) w2.heap.size #[.int .i64 k,.int .i64 0,.slice none 0 0,.int .i64 0,.string ⟨#[]⟩,.string ⟨#[]⟩,.int .i64 0,.int .i64 0,.string ⟨#[]⟩,.bool false,.slice none 0 0,.int .i64 0,.bool false,.int .i64 0,.int .i64 0,.int .i64 ctx] 345 from aC.made w2 _ _);have HB3:=Z_ (HB2.out.alloc (.cells #[.int .i64 k,.int .i64 0,.slice none 0 0,.int .i64 0,.string ⟨#[]⟩,.string ⟨#[]⟩,.int .i64 0,.int .i64 0,.string ⟨#[]⟩,.bool false,.slice none 0 0,.int .i64 0,.bool false,.int .i64 0,.int .i64 0,.int .i64 ctx] 345));have wu:=Z_ (HC2.out.extend ((aB.refl _ w2).alloc (.cells #[.int .i64 k,.int .i64 0,.slice none 0 0,.int .i64 0,.string ⟨#[]⟩,.string ⟨#[]⟩,.int .i64 0,.int .i64 0,.string ⟨#[]⟩,.bool false,.slice none 0 0,.int .i64 0,.bool false,.int .i64 0,.int .i64 0,.int .i64 ctx] 345)))
 have qW:=Z_ (lG.out.alloc (.cells #[.int .i64 k,.int .i64 0,.slice none 0 0,.int .i64 0,.string ⟨#[]⟩,.string ⟨#[]⟩,.int .i64 0,.int .i64 0,.string ⟨#[]⟩,.bool false,.slice none 0 0,.int .i64 0,.bool false,.int .i64 0,.int .i64 0,.int .i64 ctx] 345));obtain⟨X,hX⟩:∃ X,w2.heap.size=X:=⟨_,rfl⟩;rw [hX] at HX;have xU:Nb<X:=by have:=HB2.out.lt;omega
 try rw [hX]
 clear hbc hcc hX HC2 HB2 lG;generalize w2.alloc (.cells #[.int .i64 k,.int .i64 0,.slice none 0 0,.int .i64 0,.string ⟨#[]⟩,.string ⟨#[]⟩,.int .i64 0,.int .i64 0,.string ⟨#[]⟩,.bool false,.slice none 0 0,.int .i64 0,.bool false,.int .i64 0,.int .i64 0,.int .i64 ctx] 345)=u3 at *;have QX:=Z_ (show SB W u u3 C Mo D K P B Nb X E (.slice la n lc) (.slice la n lc) L deep ((p+1):Nat) cO dw dc pc pr #[.int .i64 k,.string t,.int .i64 m,.slice a N cc] (fun rv=>jr k 0 rv gq (.string ⟨#[]⟩) (.bool false) (.slice none 0 0) (.int .i64 0) (.bool false) (.int .i64 0) 0 ctx) (.slice none 0 0) (.slice none 0 0) [] from⟨wu.out,VG.out,HB3.out,HX.out,tX _ _ _ _ _ _,qW.out,fun i e=>.inl ⟨e,JE.out i e⟩,fun i e=>(by cases e),by have:=DW.out;omega,GG.out,xU⟩);clear wu VG HB3 HX qW;have hbc:=QX.out.nb.cell;go_wp2_with fail
 clear hbc;go_loopw [28] (fun i wr=>∃ (j q:Nat) (row DX:Value) (ks:List Tr) (M:List Loc) (FK:Array Value),j≤N∧i=.int .i64 (j:Nat)∧Hid (ks.length=j)∧Hid (q+kV (l.drop j)=pe)∧Hid ((L++M).length≤20)∧Hid (((xY E pr ctx outer (L++M) deep (l.drop j) q ks).bind fun ks=>(.ok (.mk k 0 ks gq 0 ctx,L):Rz (Tr×List Loc)))=T)∧Hid (SB W u wr C Mo D K P B Nb X E (.slice la n lc) DX (L++M) deep (q:Nat) cO dw dc FK pr #[.int .i64 k,.string t,.int .i64 m,.slice a N cc] (fun rv=>jr k 0 rv gq (.string ⟨#[]⟩) (.bool false) (.slice none 0 0) (.int .i64 0) (.bool false) (.int .i64 0) 0 ctx) row row ks)) (fun i _=>N-(intOf i).toNat)
 case atStart=>exact⟨0,p+1,.slice none 0 0,.slice la n lc,[],[],_,Nat.zero_le _,rfl,Z_ rfl,Z_ (by have:=VE.out;rw [List.drop_zero];exact this),Z_ (by rw [List.append_nil];exact Ux.out),by rw [List.append_nil,List.drop_zero];exact HT,by rw [List.append_nil];exact QX⟩
 clear QX HT
 case round=>
  obtain⟨j,q,row,DX,ks,M,FK,hj,rfl,qL,HQ,Zr,HT,HS⟩:=hrel;by_cases hlt:j<N
  ·have hji:(j:Int)<(N:Int):=by omega
   have hjd:decide ((j:Int)<(N:Int))=true:=by simpa using hji
   have hjl:j<l.length:=by rw [HN.out];exact hlt
   obtain⟨b,o,rfl,hb,uv,hu,hus,hcl⟩:=HI.out W (aB.refl _ _) j hjl;rw [bT] at hb;have hE:=HS.out.cs.ext;have hbl:=Nat.lt_of_lt_of_le hb hE.size;have NJ:=Z_ (HIH.out l[j] (List.getElem_mem hjl));have hT:=HT.out;rw [List.drop_eq_getElem_cons hjl,GF] at hT;have hQ:=HQ.out;rw [List.drop_eq_getElem_cons hjl] at hQ;simp only [kV] at hQ;have NK:=Z_ (show fL l[j]≤kV l by have h1:=VH.DY l j;rw [List.drop_eq_getElem_cons hjl] at h1;simp only [kV] at h1;omega);obtain⟨lb,hlb⟩:∃ lb,(l.drop (j+1)).isEmpty=lb:=⟨_,rfl⟩
   have VI:((j:Int) == (N:Int)-1)=lb:=by
    rw [←hlb];by_cases e:j+1=N
    ·rw [List.drop_of_length_le (by rw [HN.out];omega)]
     have:(j:Int)=(N:Int)-1:=by omega
     simp [this]
    ·have h1:¬ ((j:Int)=(N:Int)-1):=by omega
     have h2:(l.drop (j+1)).isEmpty=false:=by
      rw [List.isEmpty_eq_false_iff];intro h3;rw [List.drop_eq_nil_iff] at h3;rw [HN.out] at h3;omega
     rw [h2];exact beq_eq_false_iff_ne.2 h1
   rw [hlb] at hT;generalize l[j]=y at hu hT hQ NJ NK;have HU:=Z_ hu;obtain⟨k1,t1,m1,a1,N1,c1,rfl⟩:=cH hu;have q0:wr.cell? ⟨b,o+j*4,none⟩=some (.int .i64 k1):=(hE.cell (p:=⟨b,o+j*4,none⟩) hb id).trans ((ah _ W).2 _ _ ((hcl 0 (by decide)).trans rfl));have q1:wr.cell? ⟨b,o+j*4+1,none⟩=some (.string t1):=(hE.cell (p:=⟨b,o+j*4+1,none⟩) hb id).trans ((ah _ W).2 _ _ ((hcl 1 (by decide)).trans rfl));have q2:wr.cell? ⟨b,o+j*4+2,none⟩=some (.int .i64 m1):=(hE.cell (p:=⟨b,o+j*4+2,none⟩) hb id).trans ((ah _ W).2 _ _ ((hcl 2 (by decide)).trans rfl));have q3:wr.cell? ⟨b,o+j*4+3,none⟩=some (.slice a1 N1 c1):=(hE.cell (p:=⟨b,o+j*4+3,none⟩) hb id).trans ((ah _ W).2 _ _ ((hcl 3 (by decide)).trans rfl));have HK:=Z_ (aC.made wr #[.int .i64 k1,.string t1,.int .i64 m1,.slice a1 N1 c1] 24)
   have wL:=Z_ (HS.out.extend ((aB.refl (fun _=>False) wr).alloc (.cells #[.int .i64 k1,.string t1,.int .i64 m1,.slice a1 N1 c1] 24)));have hw5:=HS.out.x.lt;have DZ:=Z_ (fun i e=>(bH HS.out.grow i e).2);have QY:=Z_ (fun i e=>(bn HS.out.cs.loc i e).2);obtain⟨Kb,hKb⟩:∃ Kb,wr.heap.size=Kb:=⟨_,rfl⟩;rw [hKb] at HK hw5 DZ QY;have DC:=Z_ hw5;obtain⟨RY,QZ⟩:∃ RY,FI E pr ctx (outer&&lb) (L++M) deep y q=RY:=⟨_,rfl⟩;rw [QZ] at hT;have Uy:=Z_ QZ;have HT2:=Z_ hT;have pI:=Z_ hQ;have hwN:IntKind.i64.wrap ((N:Int)-1)=(N:Int)-1:=IntWalk.i64_in _ (by omega);clear hT hQ HT HQ hcl hus hu hw5 HS hE hlb QZ;go_upto_region 7 with (fail)
   try rw [hKb]
   generalize wr.alloc (.cells #[.int .i64 k1,.string t1,.int .i64 m1,.slice a1 N1 c1] 24)=u5 at *;clear q0 q1 q2 q3 hKb;obtain⟨ra,rc,hrow,-,-⟩:=cG.mO wL.out.grow;rw [qL.out] at hrow;subst hrow;cases outer with
   | true=>
    refine dm [17,18,19,22] (fun i v _=>v=([.pointer (some ⟨X,0,none⟩),.pointer (some ⟨X,0,none⟩),.pointer (some ⟨X,0,none⟩),.pointer (some ⟨X,2,none⟩),.slice ra j rc,.pointer (some ⟨C,0,none⟩),.agg #[.int .i64 k1,.string t1,.int .i64 m1,.slice a1 N1 c1],.int .i64 ctx,.bool true,.bool true,.int .i64 (j:Nat),.pointer (some ⟨Nb,3,none⟩),.slice (some ⟨b,o,none⟩) N cc,.int .i64 (N:Nat),.int .i64 ((N:Int)-1),.bool lb,.bool lb,undef,undef,undef,.pointer (some ⟨X,0,none⟩),.pointer (some ⟨X,2,none⟩),undef]:List Value).getD i undef) (pJ (fun u9=>SB W u u9 C Mo D K P B Nb X E (.slice la n lc) DX (L++M) deep (q:Nat) cO dw dc FK pr #[.int .i64 k,.string t,.int .i64 m,.slice (some ⟨b,o,none⟩) N cc] (fun rv=>jr k 0 rv gq (.string ⟨#[]⟩) (.bool false) (.slice none 0 0) (.int .i64 0) (.bool false) (.int .i64 0) 0 ctx) (.slice ra j rc) (.slice ra j rc) ks∧aC u9 Kb #[.int .i64 k1,.string t1,.int .i64 m1,.slice a1 N1 c1] 24) (fun FM L9 I7 u9 Q3 r9 Q4=>SB W u u9 C Mo D K P B Nb X E (.slice la n lc) FM L9 deep ((q+fL y):Nat) cO dw dc I7 pr #[.int .i64 k,.string t,.int .i64 m,.slice (some ⟨b,o,none⟩) N cc] (fun rv=>jr k 0 rv gq (.string ⟨#[]⟩) (.bool false) (.slice none 0 0) (.int .i64 0) (.bool false) (.int .i64 0) 0 ctx) Q3 r9 Q4∧aC u9 Kb #[.int .i64 k1,.string t1,.int .i64 m1,.slice a1 N1 c1] 24) X (.slice ra j rc) ks RY) (fun _ _=>True) (frame:=?VJ) (fun x=>?JF) bu.mixed (by kernel_rfl) (by kernel_rfl) (fun _ _ _ _ h _=>h) ?h0t ?stt ?JG
    case JF=>
     simp only [chain.aN,chain.fill,chain.bf,chain.aY,jW,jX,jY,jZ,kz,kC,kD,kE,kF];exact rfl
    case h0t=>exact⟨wL.out.extend (aB.refl _ _).drew,HK.out.drew⟩
    case stt=>
     iterate 23 (refine ak.cons (fun x vs u hF hm hb hd K' hK'=>?_) ?_;rotate_left)
     exact ak.nil
     ·refine az.af rfl ?_
      have HF:=Z_ hF;clear hd hm hb hF;go_simp;exact hK'.out _ _ _ (rfl) trivial ⟨rfl,HF.out⟩
     ·refine az.af rfl ?_
      have HF:=Z_ hF;clear hd hm hb hF;go_simp;exact hK'.out _ _ _ (rfl) trivial ⟨rfl,HF.out⟩
     ·refine az.af rfl ?_
      have y0:x 34=.pointer (some ⟨X,0,none⟩):=(D_ hd 1 :);have HF:=Z_ hF;clear hd hm hb hF;go_simp;exact hK'.out _ _ _ (by simp only [y0];rfl) trivial ⟨rfl,HF.out⟩
     ·refine az.af rfl ?_
      have y0:x 35=.pointer (some ⟨X,0,none⟩):=(D_ hd 2 :);have HF:=Z_ hF;clear hd hm hb hF;go_simp;exact hK'.out _ _ _ (by simp only [y0];rfl) trivial ⟨rfl,HF.out⟩
     ·refine az.af rfl ?_
      have hq:=pJ.low hF (by have:=hb 2 _ (by decide) rfl (by kernel_rfl);omega) (Q:=u.cell? ⟨X,2,none⟩=some (.slice ra j rc)) (fun h=>(h.1.x.cell 2).trans rfl) (fun _ _ _ h=>(h.1.x.cell 2).trans rfl);have y0:x 36=.pointer (some ⟨X,2,none⟩):=(D_ hd 3 :);have HF:=Z_ hF;clear hd hm hb hF;go_simp;exact hK'.out _ _ _ (by simp only [y0];rfl) trivial ⟨rfl,HF.out⟩
     ·refine az.af rfl ?_
      have HF:=Z_ hF;clear hd hm hb hF;go_simp;exact hK'.out _ _ _ (rfl) trivial ⟨rfl,HF.out⟩
     ·refine az.af rfl ?_
      have hq:=pJ.any hF (Q:=∀ o9,u.cell? ⟨Kb,o9,none⟩=#[.int .i64 k1,.string t1,.int .i64 m1,.slice a1 N1 c1][o9]?) (fun h=>h.2.cell) (fun _ _ _ _ _ _ h=>h.2.cell);have HF:=Z_ hF;clear hd hm hb hF;go_simp;exact hK'.out _ _ _ (rfl) trivial ⟨rfl,HF.out⟩
     ·refine az.af rfl ?_
      have HF:=Z_ hF;clear hd hm hb hF;go_simp;exact hK'.out _ _ _ (rfl) trivial ⟨rfl,HF.out⟩
     ·refine az.af rfl ?_
      have HF:=Z_ hF;clear hd hm hb hF;go_simp;exact hK'.out _ _ _ (rfl) trivial ⟨rfl,HF.out⟩
     ·refine az.af rfl ?_
      have y0:x 41=.bool true:=(D_ hd 8 :);have HF:=Z_ hF;clear hd hm hb hF;go_simp;exact hK'.out _ _ _ (by simp only [y0];rfl) trivial ⟨rfl,HF.out⟩
     ·have y0:x 42=.bool true:=(D_ hd 9 :);refine az.dS rfl (by simp only [y0];rfl) ?_
      have HF:=Z_ hF;clear hd hm hb hF;go_simp;exact hK'.out _ _ _ (by simp only [y0];rfl) trivial ⟨rfl,HF.out⟩
     ·have y0:x 42=.bool true:=(D_ hd 9 :);refine az.dS rfl (by simp only [y0];rfl) ?_
      have HF:=Z_ hF;clear hd hm hb hF;go_simp;exact hK'.out _ _ _ (by simp only [y0];rfl) trivial ⟨rfl,HF.out⟩
     ·have hq:=pJ.any hF (Q:=∀ o9,u.cell? ⟨Nb,o9,none⟩=#[.int .i64 k,.string t,.int .i64 m,.slice (some ⟨b,o,none⟩) N cc][o9]?) (fun h=>h.1.nb.cell) (fun _ _ _ _ _ _ h=>h.1.nb.cell);have y0:x 42=.bool true:=(D_ hd 9 :);have y1:x 44=.pointer (some ⟨Nb,3,none⟩):=(D_ hd 11 :);refine az.dS rfl (by simp only [y0];rfl) ?_
      have HF:=Z_ hF;clear hd hm hb hF;go_simp;exact hK'.out _ _ _ (by simp only [y0,y1];rfl) trivial ⟨rfl,HF.out⟩
     ·have y0:x 42=.bool true:=(D_ hd 9 :);have y1:x 45=.slice (some ⟨b,o,none⟩) N cc:=(D_ hd 12 :);refine az.dS rfl (by simp only [y0];rfl) ?_
      have HF:=Z_ hF;clear hd hm hb hF;go_simp;exact hK'.out _ _ _ (by simp only [y0,y1];rfl) trivial ⟨rfl,HF.out⟩
     ·have y0:x 42=.bool true:=(D_ hd 9 :);have y1:x 46=.int .i64 (N:Nat):=(D_ hd 13 :);refine az.dS rfl (by simp only [y0];rfl) ?_
      have HF:=Z_ hF;clear hd hm hb hF;go_simp;exact hK'.out _ _ _ (by simp only [y0,y1];rfl) trivial ⟨rfl,HF.out⟩
     ·have y0:x 42=.bool true:=(D_ hd 9 :);have y1:x 43=.int .i64 (j:Nat):=(D_ hd 10 :);have y2:x 47=.int .i64 ((N:Int)-1):=(D_ hd 14 :);refine az.dS rfl (by simp only [y0];rfl) ?_
      have HF:=Z_ hF;clear hd hm hb hF;go_simp;exact hK'.out _ _ _ (by simp only [y0,y1,y2];rfl) trivial ⟨rfl,HF.out⟩
     ·refine az.af rfl ?_
      have y0:x 42=.bool true:=(D_ hd 9 :);have y1:x 48=.bool lb:=(D_ hd 15 :);have HF:=Z_ hF;clear hd hm hb hF;go_simp;exact hK'.out _ _ _ (by simp only [y0,y1];rfl) trivial ⟨rfl,HF.out⟩
     ·refine az.af rfl ?_
      obtain rfl:=kS hm;have y0:x 38=.pointer (some ⟨C,0,none⟩):=(D_ hd 5 :);have y1:x 39=.agg #[.int .i64 k1,.string t1,.int .i64 m1,.slice a1 N1 c1]:=(D_ hd 6 :);have y2:x 40=.int .i64 ctx:=(D_ hd 7 :);have y3:x 49=.bool lb:=(D_ hd 16 :);have kO:=Z_ (NJ.out _ lb ctx u q DX (L++M) deep FK hF.1.cs hF.1.pc HU.out (by have:=pI.out;omega) Zr.out wK.out.1 (by have h1:=wK.out.2;have h2:=NK.out;omega));have rQ:=(show _∧_ from hF);have HF:=Z_ rQ.1;have GH:=Z_ rQ.2;have rQ:=(show _∧_ from hF);have HF:=Z_ rQ.1;have GH:=Z_ rQ.2;clear hd hm hb hF rQ;go_simp;refine kO.out.mono ?_
      rintro e u2 ⟨iV,jJ⟩;have Q5:=Uy.out;replace Q5:FI E pr ctx lb (L++M) deep y q=RY:=Q5;rw [Q5] at jJ;cases RY with
      | bad c9 p9=>
       obtain rfl:e=_:=jJ;have xZ:=HF.out.aK.trans iV HF.out.ls;go_wp2_with fail
       exact⟨rfl,xZ,by rw [←HT2.out];rfl⟩
      | ok t6=>
       obtain⟨g6,pq,pz,rfl,PU,D5,D6,u_,GI,GK⟩:=jJ;have D7:=HF.out.call iV D5 D6 GI
       have zE:=GH.out.aK iV (fun e=>by
        have h1:=HF.out.cs.cB;have h2:=HF.out.cs.pB;have h3:=HF.out.hB;have h4:=HF.out.xU;have h5:=DC.out
        rcases e with e|e|e
        ·omega
        ·omega
        ·have:=QY.out _ e;omega)
       exact hK'.out _ _ _ (by simp only [y0,y1,y2,y3];rfl) trivial ⟨t6,rfl,g6,pq,pz,rfl,⟨D7,zE⟩,fV (aT (Nat.le_refl _) fun i hi hm=>⟨zD DZ.out DC.out GH.out.lt hm,rfl⟩) _ _ u_,g6,rfl⟩
     ·refine az.af rfl ?_
      obtain⟨v0,rfl⟩:=mD hm
      have y0:x 50=v0:=((D_ hd 17) 50 (by kernel_rfl) :);obtain⟨t6,nX,g6,pq,pz,rfl,hF⟩:=hF;have aO:=hF.1;have HG:=Z_ (cG.bH (aO.1.grow));have HF:=Z_ hF;clear hd hm hb hF aO;go_simp;exact hK'.out _ _ _ (by simp only [y0];rfl) trivial (⟨t6,nX,g6,pq,pz,rfl,(cG.fF chk.bZ (fun u' hE=>⟨HF.out.1.1.extend hE,HF.out.1.2.ext hE⟩) (fun i e=>(HG.out i e).2) HF.out rfl)⟩)
     ·refine az.af rfl ?_
      obtain⟨v0,v1,rfl⟩:=tN hm
      have y0:x 37=.slice ra j rc:=(D_ hd 4 :);have y1:x 51=v1:=((D_ hd 18) 51 (by kernel_rfl) :);obtain⟨t6,nX,g6,pq,pz,rfl,hF⟩:=hF;have hF2:=hF;obtain⟨aO,hxx,gg,rfl,hgb,hgr⟩:=hF2;obtain⟨us,hu1,ho,hu3⟩:=(aO.1.grow).ex;obtain⟨iW,iY,hz0,hz1,hz2⟩:=bu.aW cG.qx;have hbz:(X+1)≤u.heap.size:=by have:=aO.1.x.lt;omega
      refine wp_append_lies _ _ _ 341 rfl ((X+1)) 219 iW (.pointer none) 1 8 Tryz.underlying341 iY hz0 hz1 hz2 rfl (by decide) (.slice ra j rc) ks.length (us.flatMap fun u=>u.cells.toList) y0 ho ⟨gg,0,none⟩ 1 1 [.pointer (some ⟨g6,0,none⟩)] y1 rfl ?_ (by intro z_ mN;simp only [List.mem_cons,List.not_mem_nil,or_false] at mN;rcases mN with rfl<;>rfl) (by decide) (by unfold maxLen;have:=qL.out;omega) (by have:=qL.out;omega) hbz u.heap.size rfl ?_
      ·intro j q hj;have e:(⟨gg,0,none⟩:Addr).add j=⟨gg,j,none⟩:=(by unfold Addr.add;split<;>simp_all);rw [e,hgb.cell];simpa [Value.cells] using hj
      ·intro g9 c9 w9 ju iZ kU uI
       exact hK'.out _ _ _ rfl trivial (⟨t6,nX,g6,pq,pz,rfl,(cG.eG chk.bZ hF hu1 hu3 rfl (fun r tY hG hC ha=>⟨aO.1.more hG hC ha,aO.2.aK hC (fun e=>by have:=DZ.out _ e;omega)⟩) ju iZ kU)⟩)
     ·refine az.af rfl ?_
      have y0:x 33=.pointer (some ⟨X,0,none⟩):=(D_ hd 0 :);have HF:=Z_ hF;clear hd hm hb hF;go_simp;exact hK'.out _ _ _ (by simp only [y0];rfl) trivial ⟨rfl,HF.out⟩
     ·refine az.af rfl ?_
      have y0:x 53=.pointer (some ⟨X,0,none⟩):=(D_ hd 20 :);have HF:=Z_ hF;clear hd hm hb hF;go_simp;exact hK'.out _ _ _ (by simp only [y0];rfl) trivial ⟨rfl,HF.out⟩
     ·refine az.af rfl ?_
      obtain⟨v0,v1,v2,rfl⟩:=zF hm
      have y0:x 54=.pointer (some ⟨X,2,none⟩):=(D_ hd 21 :);have y1:x 52=v2:=((D_ hd 19) 52 (by kernel_rfl) :);obtain⟨t6,nX,g6,pq,pz,rfl,hF⟩:=hF;have hF2:=hF;obtain⟨aO,gg,cc,rfl⟩:=hF2;have hq:=aO.1.x.cell;have AL:=aO.1.x.frozen;have kW:=aO.1.x.lt;unfold jr at hq;have HF:=Z_ hF;clear hd hm hb hF aO;go_simp;exact hK'.out _ _ undef (by simp only [y0,y1];rfl) trivial (⟨t6,nX,g6,pq,pz,rfl,(cG.fG (z:=undef) HF.out (fun h=>⟨h.1.put (j:=2) rfl,h.2.setOther (p:=⟨X,2,none⟩) (by have:=DC.out;show Kb≠X;omega) _⟩))⟩)
    case JG=>
     intro x9 qX w9 hl hF hk9;obtain⟨v0,v1,v2,v3,rfl⟩:=zG hl
     obtain⟨t6,nX,g6,pq,pz,-,hF⟩:=hF;have JH:=(show _∧_ from hF).1;subst nX;obtain⟨y6,L6⟩:=t6;obtain⟨⟨M6,rfl⟩,VK,-⟩:=JC Uy.out;have vN:=Z_ JH;have lu:=Z_ (show ((xY E pr ctx true (L++M++M6) deep (l.drop (j+1)) (q+fL y) (ks ++ [y6])).bind fun ks=>(.ok (.mk k 0 ks gq 0 ctx,L):Rz (Tr×List Loc)))=T from HT2.out);have oL:=Z_ (VK Zr.out);clear hk9 hl hF JH VK;go_wp2_with fail
     go_roundw
     case rel=>exact⟨j+1,q+fL y,_,pq,ks ++ [y6],M++M6,pz,by omega,by go_num,Z_ (by rw [List.length_append,qL.out];rfl),Z_ (by have:=pI.out;omega),by rw [←List.append_assoc];exact oL,by rw [←List.append_assoc];exact lu,by rw [←List.append_assoc];exact vN⟩
     case measure=>simp [intOf];omega
   | false=>
    refine dm [17,18,19,22] (fun i v _=>v=([.pointer (some ⟨X,0,none⟩),.pointer (some ⟨X,0,none⟩),.pointer (some ⟨X,0,none⟩),.pointer (some ⟨X,2,none⟩),.slice ra j rc,.pointer (some ⟨C,0,none⟩),.agg #[.int .i64 k1,.string t1,.int .i64 m1,.slice a1 N1 c1],.int .i64 ctx,.bool false,.bool false,undef,undef,undef,undef,undef,undef,.bool false,undef,undef,undef,.pointer (some ⟨X,0,none⟩),.pointer (some ⟨X,2,none⟩),undef]:List Value).getD i undef) (pJ (fun u9=>SB W u u9 C Mo D K P B Nb X E (.slice la n lc) DX (L++M) deep (q:Nat) cO dw dc FK pr #[.int .i64 k,.string t,.int .i64 m,.slice (some ⟨b,o,none⟩) N cc] (fun rv=>jr k 0 rv gq (.string ⟨#[]⟩) (.bool false) (.slice none 0 0) (.int .i64 0) (.bool false) (.int .i64 0) 0 ctx) (.slice ra j rc) (.slice ra j rc) ks∧aC u9 Kb #[.int .i64 k1,.string t1,.int .i64 m1,.slice a1 N1 c1] 24) (fun FM L9 I7 u9 Q3 r9 Q4=>SB W u u9 C Mo D K P B Nb X E (.slice la n lc) FM L9 deep ((q+fL y):Nat) cO dw dc I7 pr #[.int .i64 k,.string t,.int .i64 m,.slice (some ⟨b,o,none⟩) N cc] (fun rv=>jr k 0 rv gq (.string ⟨#[]⟩) (.bool false) (.slice none 0 0) (.int .i64 0) (.bool false) (.int .i64 0) 0 ctx) Q3 r9 Q4∧aC u9 Kb #[.int .i64 k1,.string t1,.int .i64 m1,.slice a1 N1 c1] 24) X (.slice ra j rc) ks RY) (fun _ _=>True) (frame:=?VL) (fun x=>?JI) bu.mixed (by kernel_rfl) (by kernel_rfl) (fun _ _ _ _ h _=>h) ?VM ?VO ?JJ
    case JI=>
     simp only [chain.aN,chain.fill,chain.bf,chain.aY,jW,jX,jY,jZ,kz,kC,kD,kE,kF];exact rfl
    case VM=>exact⟨wL.out.extend (aB.refl _ _).drew,HK.out.drew⟩
    case VO=>
     iterate 23 (refine ak.cons (fun x vs u hF hm hb hd K' hK'=>?_) ?_;rotate_left)
     exact ak.nil
     ·refine az.af rfl ?_
      have HF:=Z_ hF;clear hd hm hb hF;go_simp;exact hK'.out _ _ _ (rfl) trivial ⟨rfl,HF.out⟩
     ·refine az.af rfl ?_
      have HF:=Z_ hF;clear hd hm hb hF;go_simp;exact hK'.out _ _ _ (rfl) trivial ⟨rfl,HF.out⟩
     ·refine az.af rfl ?_
      have y0:x 34=.pointer (some ⟨X,0,none⟩):=(D_ hd 1 :);have HF:=Z_ hF;clear hd hm hb hF;go_simp;exact hK'.out _ _ _ (by simp only [y0];rfl) trivial ⟨rfl,HF.out⟩
     ·refine az.af rfl ?_
      have y0:x 35=.pointer (some ⟨X,0,none⟩):=(D_ hd 2 :);have HF:=Z_ hF;clear hd hm hb hF;go_simp;exact hK'.out _ _ _ (by simp only [y0];rfl) trivial ⟨rfl,HF.out⟩
     ·refine az.af rfl ?_
      have hq:=pJ.low hF (by have:=hb 2 _ (by decide) rfl (by kernel_rfl);omega) (Q:=u.cell? ⟨X,2,none⟩=some (.slice ra j rc)) (fun h=>(h.1.x.cell 2).trans rfl) (fun _ _ _ h=>(h.1.x.cell 2).trans rfl);have y0:x 36=.pointer (some ⟨X,2,none⟩):=(D_ hd 3 :);have HF:=Z_ hF;clear hd hm hb hF;go_simp;exact hK'.out _ _ _ (by simp only [y0];rfl) trivial ⟨rfl,HF.out⟩
     ·refine az.af rfl ?_
      have HF:=Z_ hF;clear hd hm hb hF;go_simp;exact hK'.out _ _ _ (rfl) trivial ⟨rfl,HF.out⟩
     ·refine az.af rfl ?_
      have hq:=pJ.any hF (Q:=∀ o9,u.cell? ⟨Kb,o9,none⟩=#[.int .i64 k1,.string t1,.int .i64 m1,.slice a1 N1 c1][o9]?) (fun h=>h.2.cell) (fun _ _ _ _ _ _ h=>h.2.cell);have HF:=Z_ hF;clear hd hm hb hF;go_simp;exact hK'.out _ _ _ (rfl) trivial ⟨rfl,HF.out⟩
     ·refine az.af rfl ?_
      have HF:=Z_ hF;clear hd hm hb hF;go_simp;exact hK'.out _ _ _ (rfl) trivial ⟨rfl,HF.out⟩
     ·refine az.af rfl ?_
      have HF:=Z_ hF;clear hd hm hb hF;go_simp;exact hK'.out _ _ _ (rfl) trivial ⟨rfl,HF.out⟩
     ·refine az.af rfl ?_
      have y0:x 41=.bool false:=(D_ hd 8 :);have HF:=Z_ hF;clear hd hm hb hF;go_simp;exact hK'.out _ _ _ (by simp only [y0];rfl) trivial ⟨rfl,HF.out⟩
     ·have y0:x 42=.bool false:=(D_ hd 9 :);have HF:=Z_ hF;refine az.fZ (c:=false) rfl (by simp only [y0];rfl) rfl ?_
      exact hK'.out _ _ _ rfl trivial ⟨rfl,HF.out⟩
     ·have y0:x 42=.bool false:=(D_ hd 9 :);have HF:=Z_ hF;refine az.fZ (c:=false) rfl (by simp only [y0];rfl) rfl ?_
      exact hK'.out _ _ _ rfl trivial ⟨rfl,HF.out⟩
     ·have y0:x 42=.bool false:=(D_ hd 9 :);have HF:=Z_ hF;refine az.fZ (c:=false) rfl (by simp only [y0];rfl) rfl ?_
      exact hK'.out _ _ _ rfl trivial ⟨rfl,HF.out⟩
     ·have y0:x 42=.bool false:=(D_ hd 9 :);have HF:=Z_ hF;refine az.fZ (c:=false) rfl (by simp only [y0];rfl) rfl ?_
      exact hK'.out _ _ _ rfl trivial ⟨rfl,HF.out⟩
     ·have y0:x 42=.bool false:=(D_ hd 9 :);have HF:=Z_ hF;refine az.fZ (c:=false) rfl (by simp only [y0];rfl) rfl ?_
      exact hK'.out _ _ _ rfl trivial ⟨rfl,HF.out⟩
     ·have y0:x 42=.bool false:=(D_ hd 9 :);have HF:=Z_ hF;refine az.fZ (c:=false) rfl (by simp only [y0];rfl) rfl ?_
      exact hK'.out _ _ _ rfl trivial ⟨rfl,HF.out⟩
     ·refine az.af rfl ?_
      have y0:x 42=.bool false:=(D_ hd 9 :);have y1:x 48=undef:=(D_ hd 15 :);have HF:=Z_ hF;clear hd hm hb hF;go_simp;exact hK'.out _ _ _ (by simp only [y0,y1];rfl) trivial ⟨rfl,HF.out⟩
     ·refine az.af rfl ?_
      obtain rfl:=kS hm;have y0:x 38=.pointer (some ⟨C,0,none⟩):=(D_ hd 5 :);have y1:x 39=.agg #[.int .i64 k1,.string t1,.int .i64 m1,.slice a1 N1 c1]:=(D_ hd 6 :);have y2:x 40=.int .i64 ctx:=(D_ hd 7 :);have y3:x 49=.bool false:=(D_ hd 16 :);have kO:=Z_ (NJ.out _ false ctx u q DX (L++M) deep FK hF.1.cs hF.1.pc HU.out (by have:=pI.out;omega) Zr.out wK.out.1 (by have h1:=wK.out.2;have h2:=NK.out;omega));have rQ:=(show _∧_ from hF);have HF:=Z_ rQ.1;have GH:=Z_ rQ.2;have rQ:=(show _∧_ from hF);have HF:=Z_ rQ.1;have GH:=Z_ rQ.2;clear hd hm hb hF rQ;go_simp;refine kO.out.mono ?_
      rintro e u2 ⟨iV,jJ⟩;have Q5:=Uy.out;replace Q5:FI E pr ctx false (L++M) deep y q=RY:=Q5;rw [Q5] at jJ;cases RY with
      | bad c9 p9=>
       obtain rfl:e=_:=jJ;have xZ:=HF.out.aK.trans iV HF.out.ls;go_wp2_with fail
       exact⟨rfl,xZ,by rw [←HT2.out];rfl⟩
      | ok t6=>
       obtain⟨g6,pq,pz,rfl,PU,D5,D6,u_,GI,GK⟩:=jJ;have D7:=HF.out.call iV D5 D6 GI
       have zE:=GH.out.aK iV (fun e=>by
        have h1:=HF.out.cs.cB;have h2:=HF.out.cs.pB;have h3:=HF.out.hB;have h4:=HF.out.xU;have h5:=DC.out
        rcases e with e|e|e
        ·omega
        ·omega
        ·have:=QY.out _ e;omega)
       exact hK'.out _ _ _ (by simp only [y0,y1,y2,y3];rfl) trivial ⟨t6,rfl,g6,pq,pz,rfl,⟨D7,zE⟩,fV (aT (Nat.le_refl _) fun i hi hm=>⟨zD DZ.out DC.out GH.out.lt hm,rfl⟩) _ _ u_,g6,rfl⟩
     ·refine az.af rfl ?_
      obtain⟨v0,rfl⟩:=mD hm
      have y0:x 50=v0:=((D_ hd 17) 50 (by kernel_rfl) :);obtain⟨t6,nX,g6,pq,pz,rfl,hF⟩:=hF;have aO:=hF.1;have HG:=Z_ (cG.bH (aO.1.grow));have HF:=Z_ hF;clear hd hm hb hF aO;go_simp;exact hK'.out _ _ _ (by simp only [y0];rfl) trivial (⟨t6,nX,g6,pq,pz,rfl,(cG.fF chk.bZ (fun u' hE=>⟨HF.out.1.1.extend hE,HF.out.1.2.ext hE⟩) (fun i e=>(HG.out i e).2) HF.out rfl)⟩)
     ·refine az.af rfl ?_
      obtain⟨v0,v1,rfl⟩:=tN hm
      have y0:x 37=.slice ra j rc:=(D_ hd 4 :);have y1:x 51=v1:=((D_ hd 18) 51 (by kernel_rfl) :);obtain⟨t6,nX,g6,pq,pz,rfl,hF⟩:=hF;have hF2:=hF;obtain⟨aO,hxx,gg,rfl,hgb,hgr⟩:=hF2;obtain⟨us,hu1,ho,hu3⟩:=(aO.1.grow).ex;obtain⟨iW,iY,hz0,hz1,hz2⟩:=bu.aW cG.qx;have hbz:(X+1)≤u.heap.size:=by have:=aO.1.x.lt;omega
      refine wp_append_lies _ _ _ 341 rfl ((X+1)) 219 iW (.pointer none) 1 8 Tryz.underlying341 iY hz0 hz1 hz2 rfl (by decide) (.slice ra j rc) ks.length (us.flatMap fun u=>u.cells.toList) y0 ho ⟨gg,0,none⟩ 1 1 [.pointer (some ⟨g6,0,none⟩)] y1 rfl ?_ (by intro z_ mN;simp only [List.mem_cons,List.not_mem_nil,or_false] at mN;rcases mN with rfl<;>rfl) (by decide) (by unfold maxLen;have:=qL.out;omega) (by have:=qL.out;omega) hbz u.heap.size rfl ?_
      ·intro j q hj;have e:(⟨gg,0,none⟩:Addr).add j=⟨gg,j,none⟩:=(by unfold Addr.add;split<;>simp_all);rw [e,hgb.cell];simpa [Value.cells] using hj
      ·intro g9 c9 w9 ju iZ kU uI
       exact hK'.out _ _ _ rfl trivial (⟨t6,nX,g6,pq,pz,rfl,(cG.eG chk.bZ hF hu1 hu3 rfl (fun r tY hG hC ha=>⟨aO.1.more hG hC ha,aO.2.aK hC (fun e=>by have:=DZ.out _ e;omega)⟩) ju iZ kU)⟩)
     ·refine az.af rfl ?_
      have y0:x 33=.pointer (some ⟨X,0,none⟩):=(D_ hd 0 :);have HF:=Z_ hF;clear hd hm hb hF;go_simp;exact hK'.out _ _ _ (by simp only [y0];rfl) trivial ⟨rfl,HF.out⟩
     ·refine az.af rfl ?_
      have y0:x 53=.pointer (some ⟨X,0,none⟩):=(D_ hd 20 :);have HF:=Z_ hF;clear hd hm hb hF;go_simp;exact hK'.out _ _ _ (by simp only [y0];rfl) trivial ⟨rfl,HF.out⟩
     ·refine az.af rfl ?_
      obtain⟨v0,v1,v2,rfl⟩:=zF hm
      have y0:x 54=.pointer (some ⟨X,2,none⟩):=(D_ hd 21 :);have y1:x 52=v2:=((D_ hd 19) 52 (by kernel_rfl) :);obtain⟨t6,nX,g6,pq,pz,rfl,hF⟩:=hF;have hF2:=hF;obtain⟨aO,gg,cc,rfl⟩:=hF2;have hq:=aO.1.x.cell;have AL:=aO.1.x.frozen;have kW:=aO.1.x.lt;unfold jr at hq;have HF:=Z_ hF;clear hd hm hb hF aO;go_simp;exact hK'.out _ _ undef (by simp only [y0,y1];rfl) trivial (⟨t6,nX,g6,pq,pz,rfl,(cG.fG (z:=undef) HF.out (fun h=>⟨h.1.put (j:=2) rfl,h.2.setOther (p:=⟨X,2,none⟩) (by have:=DC.out;show Kb≠X;omega) _⟩))⟩)
    case JJ=>
     intro x9 qX w9 hl hF hk9;obtain⟨v0,v1,v2,v3,rfl⟩:=zG hl
     obtain⟨t6,nX,g6,pq,pz,-,hF⟩:=hF;have JH:=(show _∧_ from hF).1;subst nX;obtain⟨y6,L6⟩:=t6;obtain⟨⟨M6,rfl⟩,VK,-⟩:=JC Uy.out;have vN:=Z_ JH;have lu:=Z_ (show ((xY E pr ctx false (L++M++M6) deep (l.drop (j+1)) (q+fL y) (ks ++ [y6])).bind fun ks=>(.ok (.mk k 0 ks gq 0 ctx,L):Rz (Tr×List Loc)))=T from HT2.out);have oL:=Z_ (VK Zr.out);clear hk9 hl hF JH VK;go_wp2_with fail
     go_roundw
     case rel=>exact⟨j+1,q+fL y,_,pq,ks ++ [y6],M++M6,pz,by omega,by go_num,Z_ (by rw [List.length_append,qL.out];rfl),Z_ (by have:=pI.out;omega),by rw [←List.append_assoc];exact oL,by rw [←List.append_assoc];exact lu,by rw [←List.append_assoc];exact vN⟩
     case measure=>simp [intOf];omega
  ·obtain rfl:j=N:=by omega
   have hjd:decide ((j:Int)<(j:Int))=false:=by simp
   have hT:=HT.out;have hQ:=HQ.out;rw [List.drop_of_length_le (by rw [HN.out];exact Nat.le_refl _)] at hT hQ;have hR0:xY E pr ctx outer (L++M) deep [] q ks=.ok ks:=by unfold xY;simp [wJ,Rz.bind]
   rw [hR0] at hT;obtain rfl:q=pe:=hQ;have qp:=Z_ (show T=.ok (.mk k 0 ks gq 0 ctx,L) from hT.symm);obtain⟨ga,gc,hv,hv1,hv2⟩:=dZ HS.out.cs.loc;have hlen:n≤(L++M).length:=by rw [List.length_append,yJ.out];omega
   subst hv;obtain⟨gn,hgn⟩:∃ gn,(L++M).length=gn:=⟨_,rfl⟩;rw [hgn] at hlen hv1 HS;have HGN:=Z_ hgn;have hcc:=HS.out.cs.c.cell;have hcf:=HS.out.cs.c.frozen;have hcl:=HS.out.cs.c.lt;unfold qK at hcc;have hgi:(n:Int)≤(gc:Int):=by omega
   have hg0:(0:Int)≤(n:Int):=by omega
   clear hT hR0 HT HQ HI HIH hgn;go_wp2_with fail
   have iV:=ai (S:=C) (aB.refl _ wr) 2 (.slice ga n gc);have hC8:aB (LS C P (.slice ga gn gc)) wr (wr.setCell ⟨C,2,none⟩ (.slice ga n gc)):=iV.weak fun _ _ e=>.inl e
   have hgl:Grow 3 340 xX B (wr.setCell ⟨C,2,none⟩ (.slice ga n gc)) (.slice ga n gc) L:=by
    have h1:=HS.out.cs.loc.aK gz iV (fun i e=>by have:=HS.out.cs.cB;omega);have h2:=D8 h1;rw [yJ.out] at h2;exact h2
   have hown:∀ i,(Value.slice ga n gc).ownBlock=some i→(Value.slice ga gn gc).ownBlock=some i:=fun i e=>by
    cases ga with
    | none=>cases e
    | some z=>exact e
   have hcs:=HS.out.cs.JK hC8 (HS.out.cs.c.set 2 (.slice ga n gc)) (HS.out.cs.p.aK iV (fun e=>HS.out.cs.cP e.symm)) hgl;have hsb:=HS.out.call hC8 hcs HS.out.pc (fun i e=>.inl (hown i e));have htr:=Be (B:=u.heap.size) hsb.x hsb.grow (by have:=hsb.h0;have:=hsb.xU;omega) (by constructor<;>decide) (fun i e=>by rcases hsb.fresh i e with f|f<;>(have:=hsb.xU;omega)) hsb.apart;have GL:=Z_ (And.intro hsb (And.intro htr hcs));clear iV hC8 hgl hsb htr hcs hcc hcf hcl;go_ret
   refine⟨GL.out.1.aK,?_⟩
   rw [qp.out];exact⟨X,_,_,rfl,by have:=GL.out.1.h0;have:=GL.out.1.xU;omega,GL.out.2.2,GL.out.1.pc,GL.out.2.1,fun i e=>by rcases GL.out.1.fresh i e with f|f;exact .inl f.1;exact .inr (by have:=GL.out.1.h0;have:=GL.out.1.xU;omega),rfl⟩
end chk
end Go.Proofs.YtpcihajmcejliacGreatDoor
namespace Go.Proofs.YtpcihajmcejliacGreatDoor
open Go.RowKit
namespace chk
open bu cG
theorem NL {E:dI} {L:List Loc} {ctx:Int} {alone:Bool} {k:Int} {t:ByteArray} {m:Int} {ks:List Tr} {p:Nat} {y:Tr} (h:ve E L ctx alone k t m ks p=.ok y):y.kd=k∧y.kids=ks:=by
 unfold ve at h;split at h
 ·cases hv:vY E L t p with
  | bad c q=>rw [hv] at h;cases h
  | ok r=>
   rw [hv] at h;simp only [Rz.bind] at h;split at h
   ·cases h;exact⟨rfl,rfl⟩
   ·cases h
 ·split at h
  ·cases hv:rV E ctx alone t ks p with
   | bad c q=>rw [hv] at h;cases h
   | ok r=>rw [hv] at h;cases h;exact⟨rfl,rfl⟩
  ·cases h;exact⟨rfl,rfl⟩
theorem NM {E:dI} {L:List Loc} {ctx:Int}:∀ (l:List Nd) (p:Nat) (ks:List Tr),qZ E L ctx l p=.ok ks→ks.length=l.length:=by
 intro l;induction l with
 | nil=>intro p ks h;rw [qZ] at h;cases h;rfl
 | cons x r ih=>
  intro p ks h;rw [qZ] at h;cases h1:x_ E L ctx false x p with
  | bad c q=>rw [h1] at h;cases h
  | ok y=>
   rw [h1] at h;simp only [Rz.bind] at h;cases h2:qZ E L ctx r (p+fL x) with
   | bad c q=>rw [h2] at h;cases h
   | ok ys=>rw [h2] at h;cases h;rw [List.length_cons,List.length_cons,ih _ _ h2]
theorem Q7 {E:dI} {L:List Loc} {ctx:Int} {alone:Bool} {x:Nd} {p:Nat} {y:Tr} (h:x_ E L ctx alone x p=.ok y):y.kd=x.kd∧y.kids.length=x.kids.length:=by
 obtain⟨k,t,m,l⟩:=x;rw [x_] at h;cases h1:qZ E L ctx l (p+1) with
 | bad c q=>rw [h1] at h;cases h
 | ok ks=>
  rw [h1] at h;obtain⟨e1,e2⟩:=NL h;exact⟨e1,by rw [e2,NM _ _ _ h1];rfl⟩
theorem Q8 {E:dI} {pr:aI} {ctx:Int} {outer:Bool} {L:List Loc} {deep:Int} {x:Nd} {p:Nat} {y:Tr} (h:zC E pr ctx outer L deep x p=.ok y):y.kd=x.kd:=by
 obtain⟨k,t,m,l⟩:=x;rw [zC] at h;cases h1:wJ E pr ctx outer L deep l (p+1) with
 | bad c q=>rw [h1] at h;cases h
 | ok ks=>rw [h1] at h;cases h;rfl
theorem JL {x:Nd} (h:jw x) (hk:x.kd=17):0<x.kids.length:=by
 obtain⟨k,t,m,l⟩:=x;obtain rfl:k=17:=hk;have hf:=h.form;show 0<l.length
 cases hf
 simp
theorem JM {E:dI} {pr:aI} {ctx:Int} {alone:Bool} {L:List Loc} {deep:Int}:∀ (l:List Nd) (b:Option Int) (p:Nat) (ks:List Tr),kT E pr ctx alone L deep l b p=.ok ks→(∀ y∈l,jw y)→ks.length=l.length∧∀ y∈ks,y.kd=17→0<y.kids.length:=by
 intro l;induction l with
 | nil=>intro b p ks h _;rw [kT] at h;cases h;exact⟨rfl,fun y hy=>by cases hy⟩
 | cons x r ih=>
  intro b p ks h hn;rw [kT] at h;cases h1:(if x.kd=6 then zC E pr (iM ctx (b.getD 0)) false L (deep+1) x p else x_ E L ctx alone x p) with
  | bad c q=>rw [h1] at h;cases h
  | ok y=>
   rw [h1] at h;simp only [Rz.bind] at h;cases h2:kT E pr ctx alone L deep r (some (b.getD y.lab)) (p+fL x) with
   | bad c q=>rw [h2] at h;cases h
   | ok ys=>
    rw [h2] at h;cases h
    obtain⟨e1,e2⟩:=ih _ _ _ h2 (fun z hz=>hn z (List.mem_cons_of_mem _ hz));refine⟨by rw [List.length_cons,List.length_cons,e1],fun z hz hk=>?_⟩
    rcases List.mem_cons.1 hz with rfl|hz
    ·split at h1
     ·rename_i h6
      have:=Q8 h1;omega
     ·obtain⟨e3,e4⟩:=Q7 h1
      rw [e4];exact JL (hn x (List.mem_cons_self ..)) (by rw [←e3];exact hk)
    ·exact e2 z hz hk
def rX (z0:Value) (F:List Value→World→Prop):List Value→World→Prop
 | [],u=>F [] u
 | v::r,u=>v=z0∧F r u
theorem rX.ext {w0:World} {z:Int} {ls:List Int} {n:Nat} {z0:Value} {vs:List Value} {u:World} (h:rX z0 (jK w0 z ls n) vs u):Ext w0 u:=by
 match vs,h with
 | [],h=>exact h
 | _::_,h=>exact h.2.ext
theorem NP {ks:List Tr} (h:0<ks.length) {P:Tr→Prop} (hP:∀ y∈ks,P y):P (ks.headD default):=by
 rw [zy h];exact hP _ (List.getElem_mem h)
theorem tail_at {l:List Tr} (h:1<l.length):l.tail.headD default=l[1]:=by
 match l,h with
 | _::_::_,_=>rfl
theorem Bf {a b:ByteArray} (h:a≠b):(a.toList == b.toList)=false:=by rw [ByteArray.toList_eq,ByteArray.toList_eq];simpa using fun e=>h (ByteArray.ext (Array.toList_inj.1 e))
theorem JO {α : Type} {l:List α} {e:Nat} (h:e<l.length) {P:α→Bool}:(l.take (e+1)).any P=((l.take e).any P || P l[e]):=by
 rw [List.take_succ_eq_append_getElem h,List.any_append];simp
theorem Q9 {α : Type} {l:List α} {e:Nat} (h:e<l.length) {P:α→Bool}:P l[e]=true→l.any P=true:=fun hp=>List.any_eq_true.2 ⟨_,List.getElem_mem h,hp⟩
variable {W u0 u u':World} {C Mo D K P B Nb X:Nat} {E:dI} {yc vl:Value} {L:List Loc} {deep:Int} {at_:Nat} {cO dw:Value} {dc pc:Array Value} {pr:aI} {nc:Array Value}
theorem pR {k m:Int} {r:nD} {p0 p1 p2 p3 p4 p5:Value} {ctx:Int} {row:Value} {ks:List Tr} (h:SB W u0 u C Mo D K P B Nb X E yc vl L deep (at_:Nat) cO dw dc pc pr nc (fun rv=>jr k m rv r p0 p1 p2 p3 p4 p5 0 ctx) row row ks) (hr:vX r):zB W u0 C Mo D K P B E yc deep at_ cO dw dc pr k (.ok (.mk k m ks r 0 ctx,L)) (.returned (.pointer (some ⟨X,0,none⟩))) u:=by
 have h1:=h.h0;have h2:=h.xU
 have ho:=bH h.grow;refine⟨h.aK,X,vl,pc,rfl,by omega,h.cs,h.pc,Be (B:=u0.heap.size) h.x h.grow (by omega) hr (fun i e=>by rcases h.fresh i e with f|f<;>omega) h.apart,fun i e=>?_,rfl⟩
 rcases h.fresh i e with f|f
 ·exact .inl f.1
 ·exact .inr (by omega)
theorem nH {rN row:Value} {xc:Value→Array Value} {ks:List Tr} {at2:Int} {c:Int} {p:Nat} {kd:Int} (h:SB W u0 u C Mo D K P B Nb X E yc vl L deep at2 cO dw dc pc pr nc xc rN row ks):zB W u0 C Mo D K P B E yc deep at_ cO dw dc pr kd (.bad c p) (.panicked (nG c (p:Nat))) u:=⟨h.aK,rfl⟩
theorem Q_ {w:World} {Y:Nat→Bool} {B:Nat} {row:Value} {ks:List Tr} (h:jk Y 1 219 AK B w row ks) (hp:0<ks.length):∃ rb ro c,row=.slice (some ⟨rb,ro,none⟩) ks.length c∧rb<w.heap.size∧∀ (j:Nat) (h:j<ks.length),∃ g a2 c2 p0 p1 p2 p3 p4 p5,w.cell? ⟨rb,ro+j,none⟩=some (.pointer (some ⟨g,0,none⟩))∧g<w.heap.size∧qY w ks[j] (.pointer (some ⟨g,0,none⟩))∧(∀ i,i<16→w.cell? ⟨g,i,none⟩=(jr ks[j].kd ks[j].nm (.slice a2 ks[j].kids.length c2) ks[j].ref p0 p1 p2 p3 p4 p5 ks[j].lab ks[j].ctx)[i]?):=by
 obtain⟨a,c,e,-,-,h3⟩:=tZ h bZ rW;have h3:=h3.keeps (ah _ _) (kK (ah _ _));obtain⟨rb,ro,rfl,hb,-⟩:=h3 0 hp;refine⟨rb,ro,c,e,hb,fun j hj=>?_⟩
 obtain⟨rb2,ro2,e2,-,u,hu,ht⟩:=h3 j hj;cases e2
 obtain⟨g,a2,c2,p0,p1,p2,p3,p4,p5,rfl,hg,hc,-⟩:=nR ht;exact⟨g,a2,c2,p0,p1,p2,p3,p4,p5,by simpa using hu,hg,ht,hc⟩
end chk
end Go.Proofs.YtpcihajmcejliacGreatDoor
