/- The walk of the checker's block. What a statement's kids are, in plain Lean; the statement's tree when it is done. -/
import Derived.Test.YtpcihajmcejliacGreatDoorWeaveGm
namespace Go.Proofs.YtpcihajmcejliacGreatDoor
open Go.RowKit
namespace chk
open bn dn
def DZ (W:World) (C Mo D K P B:Nat) (E:dH) (cH dB:Value) (dc:Array Value) (pr:aI) (H:Nat→Bool) (x:Nd):Prop:=∀ (v:Value) (last:Bool) (ctx:Int) (u:World) (p:Nat) (vl:Value) (L:List Loc) (deep:Int) (pc:Array Value),CS W u C Mo D K P B E vl L deep (p:Nat) cH dB dc pc→yC pr pc→fE (hide H W) x v→p+fP x≤1000→L.length≤20→0≤deep→deep+fP x≤2000→
 Calls Tryz.prog 235 #[.pointer (some ⟨C,0,none⟩),v,.int .i64 ctx,.bool last] u (yD W u C Mo D K P B E vl deep (p+fP x) cH dB dc pr x.kd (D5 E pr ctx last L deep x p))
def uP (W:World) (C Mo D K P B:Nat) (E:dH) (cH dB:Value) (dc:Array Value) (pr:aI) (H:Nat→Bool) (x:Nd):Prop:=∀ (v:Value) (outer:Bool) (ctx:Int) (u:World) (p:Nat) (vl:Value) (L:List Loc) (deep:Int) (pc:Array Value),CS W u C Mo D K P B E vl L deep (p:Nat) cH dB dc pc→yC pr pc→fE (hide H W) x v→p+fP x≤1000→L.length≤20→0≤deep→deep+fP x≤2000→
 Calls Tryz.prog 187 #[.pointer (some ⟨C,0,none⟩),v,.int .i64 ctx,.bool outer] u (yD W u C Mo D K P B E vl deep (p+fP x) cH dB dc pr x.kd ((yE E pr ctx outer L deep x p).bind fun t=>.ok (t,L)))
def oJ (pre:World→Prop) (sb:Value→List Loc→Array Value→World→Value→Value→List Tr→Prop) (X:Nat) (row:Value) (ks:List Tr) (T:Rz (Tr×List Loc)):List Value→World→Prop
 | [],u=>pre u
 | v::r,u=>∃ t,T=.ok t∧∃ g vl pc,v=.pointer (some ⟨g,0,none⟩)∧dn.eu (sb vl t.2 pc) (dn.ownB vl) zH (X+1) 219 row ks t.1 v r u
theorem oJ.any {pre:World→Prop} {sb:Value→List Loc→Array Value→World→Value→Value→List Tr→Prop} {X:Nat} {row:Value} {ks:List Tr} {T:Rz (Tr×List Loc)} {vs:List Value} {u:World} {Q:Prop} (h:oJ pre sb X row ks T vs u) (h1:pre u→Q) (h2:∀ vl L pc rN r lq,sb vl L pc u rN r lq→Q):Q:=by
 match vs,h with
 | [],h=>exact h1 h
 | _::_,h=>
  obtain⟨t,-,g,vl,pc,-,hp⟩:=h;obtain⟨rN,r,l,hb⟩:=dn.eu.any hp;exact h2 _ _ _ _ _ _ hb
theorem oJ.low {pre:World→Prop} {sb:Value→List Loc→Array Value→World→Value→Value→List Tr→Prop} {X:Nat} {row:Value} {ks:List Tr} {T:Rz (Tr×List Loc)} {vs:List Value} {u:World} {Q:Prop} (h:oJ pre sb X row ks T vs u) (hl:vs.length≤2) (h1:pre u→Q) (h2:∀ vl L pc,sb vl L pc u row row ks→Q):Q:=by
 match vs,hl,h with
 | [],_,h=>exact h1 h
 | _::_,hl,h=>
  obtain⟨t,-,g,vl,pc,-,hp⟩:=h;exact h2 _ _ _ (dn.eu.B hp (by simpa using hl))
theorem KC {pr:aI} {L:List Loc} {deep ctx:Int} {last:Bool} {k:Int} {t:ByteArray} {m:Int} {ks:List Tr} {p:Nat} {y:Tr} {L':List Loc} (h:t_ pr L deep ctx last k t m ks p=.ok (y,L')):(∃ M,L'=L++M)∧(L.length≤20→L'.length≤20)∧y.kd=k:=by
 have same:∀ {z:Tr},(.ok (z,L):Rz (Tr×List Loc))=.ok (y,L')→z.kd=k→(∃ M,L'=L++M)∧(L.length≤20→L'.length≤20)∧y.kd=k:=fun e hk=>by
  cases e;exact⟨⟨[],by simp⟩,id,hk⟩
 unfold t_ at h
 repeat' split at h
 all_goals first
  | (cases h;done)
  | exact same h rfl
  | skip
 rename_i h7 h8 h9 h10
 cases h
 exact⟨⟨_,rfl⟩,fun _=>by rw [List.length_append,List.length_singleton];omega,rfl⟩
theorem G_ {E:dH} {pr:aI} {ctx:Int} {last:Bool} {L:List Loc} {deep:Int} {x:Nd} {p:Nat} {y:Tr} {L':List Loc} (h:D5 E pr ctx last L deep x p=.ok (y,L')):(∃ M,L'=L++M)∧(L.length≤20→L'.length≤20)∧y.kd=x.kd:=by
 obtain⟨k,t,m,l⟩:=x;rw [D5] at h;cases hs:kz E pr ctx (decide (k=9)) L deep l none (p+1) with
 | bad c q=>rw [hs] at h;cases h
 | ok ks=>rw [hs] at h;exact KC h
def wW (E:dH) (pr:aI) (ctx:Int) (outer:Bool) (L:List Loc) (deep:Int) (l:List Nd) (p:Nat) (ks:List Tr):Rz (List Tr):=(uQ E pr ctx outer L deep l p).bind fun ys=>.ok (ks++ys)
theorem EK {E:dH} {pr:aI} {ctx:Int} {outer:Bool} {L:List Loc} {deep:Int} {x:Nd} {r:List Nd} {p:Nat} {ks:List Tr}:wW E pr ctx outer L deep (x::r) p ks=match D5 E pr ctx (outer&&r.isEmpty) L deep x p with
 | .bad c q=>.bad c q
 | .ok y=>wW E pr ctx outer y.2 deep r (p+fP x) (ks ++ [y.1]):=by
 unfold wW;rw [uQ];cases D5 E pr ctx (outer&&r.isEmpty) L deep x p with
 | bad c q=>rfl
 | ok y=>
  simp only [Rz.bind];cases uQ E pr ctx outer y.2 deep r (p+fP x) with
  | bad c q=>rfl
  | ok ys=>simp
theorem yF {X Kb S i:Nat} {row vl:Value} (hr:∀ i,row.ownBlock=some i→i<Kb) (hx:X<Kb) (hs:Kb<S) (hm:bM S vl i=false):(bM (X+1) row i || dn.ownB vl i)=false:=by
 simp only [bM,dn.ownB,Bool.or_eq_false_iff,decide_eq_false_iff_not] at hm ⊢;exact⟨⟨by omega,fun e=>by have:=hr i e;omega⟩,hm.2⟩
set_option maxRecDepth 100000 in
set_option maxHeartbeats 16000000 in
theorem r_ {W:World} {C Mo D K P B:Nat} {E:dH} {cH dB:Value} {dc:Array Value} {pr:aI} {H:Nat→Bool} (x:Nd) (SN:∀ y∈x.kids,DZ W C Mo D K P B E cH dB dc pr H y):uP W C Mo D K P B E cH dB dc pr H x:=by
 intro v outer ctx u p vl L deep pc hCS hpc hnd hsz hL hd0 hd1;obtain⟨k,t,m,l⟩:=x;rw [cG] at hnd;obtain⟨a,cc,rfl,hl1,hl2,hl3,hl4⟩:=hnd;obtain⟨T,hT⟩:∃ T,(yE E pr ctx outer L deep (.mk k t m l) p).bind (fun t=>(.ok (t,L):Rz (Tr×List Loc)))=T:=⟨_,rfl⟩;rw [hT];rw [yE] at hT;have HIH:=Z_ (show ∀ y∈l,DZ W C Mo D K P B E cH dB dc pr H y from SN);obtain⟨N,hN⟩:∃ N,l.length=N:=⟨_,rfl⟩;rw [hN] at hl1 ⊢;have HN:=Z_ hN;obtain⟨pe,hpe⟩:∃ pe,p+fP (.mk k t m l)=pe:=⟨_,rfl⟩;have He:deep+(kJ l:Int)≤2000:=by simp only [fP] at hd1;omega
 rw [hpe] at hsz ⊢;have zY:p+1+kJ l=pe:=by rw [←hpe];simp only [fP];omega
 have SQ:=Z_ zY;have HI:=Z_ (fun (u:World) (hE:Ext W u)=>hl4.keeps (aC hE fun i _ e=>e.elim) fun b o y=>fL (aC hE fun i _ e=>e.elim) b o y);have HT:=Z_ (show ((wW E pr ctx outer L deep l (p+1) []).bind fun ks=>(.ok (.mk k 0 ks gG 0 ctx,L):Rz (Tr×List Loc)))=T by rw [←hT];unfold wW;cases uQ E pr ctx outer L deep l (p+1)<;>rfl);have Hf:=Z_ (fun i e=>(bh hCS.loc i e).2);have Q4:=Z_ hL;have EL:=Z_ hCS.hu;have uS:=Z_ (And.intro hd0 He);have hE0:=(aB.refl (fun _=>False) u).alloc (.cells #[.int .i64 k,.string t,.int .i64 m,.slice a N cc] 24);have HC:=Z_ (hCS.extend hE0);have HB:=Z_ (aH.made u #[.int .i64 k,.string t,.int .i64 m,.slice a N cc] 24);have HE:=Z_ (hE0.weak (S':=LS C P vl) fun _ _ e=>e.elim);have SR:=Z_ hpc
 obtain⟨Nb,hNb⟩:∃ Nb,u.heap.size=Nb:=⟨_,rfl⟩;have yG:=Z_ hNb;rw [hNb] at HB Hf EL;have hNl:N≤1000:=by have h1:=nX l;omega
 have hp:p≤1000:=by omega
 obtain⟨n,hn⟩:∃ n,L.length=n:=⟨_,rfl⟩;have xx:=Z_ hn;have Yk:n≤20:=by omega
 clear hE0 hCS hl4 hT SN hN hpe zY hpc hL hd0 hd1 He hn;go_enter Tryz.func187,Tryz.ntmps187
 go_upto_region 1 with (fail)
 try rw [hNb]
 generalize u.alloc (.cells #[.int .i64 k,.string t,.int .i64 m,.slice a N cc] 24)=u1 at *;go_wp2_with fail
 refine(next_any HC.out.c (by omega) (by omega)).mono ?_
 rintro e w2 ⟨rfl,hC2,hB2⟩;have HC2:=Z_ (HC.out.kV hC2 hB2);have HB2:=Z_ (HB.out.aO hC2 (by have:=HC.out.cB;have:=EL.out;omega));have nY:=Z_ (HE.out.then (hC2.weak fun i _ e=>.inl e));clear hC2 hB2 HC HB HE;have hbc:=HB2.out.cell;obtain⟨la,lc,hvl,-,-⟩:=dV HC2.out.loc;rw [xx.out] at hvl;have hcc:=HC2.out.c.cell;unfold qw at hcc;subst hvl;go_upto_region 4 with (fail)
 have HX:=Z_ (show aH (w2.alloc (.cells #[.int .i64 k,.int .i64 0,.slice none 0 0,.int .i64 0,.string ⟨#[]⟩,.string ⟨#[]⟩,.int .i64 0,.int .i64 0,.string ⟨#[]⟩,.bool false,.slice none 0 0,.int .i64 0,.bool false,.int .i64 0,.int .i64 0,.int .i64 ctx] 345)) w2.heap.size #[.int .i64 k,.int .i64 0,.slice none 0 0,.int .i64 0,.string ⟨#[]⟩,.string ⟨#[]⟩,.int .i64 0,.int .i64 0,.string ⟨#[]⟩,.bool false,.slice none 0 0,.int .i64 0,.bool false,.int .i64 0,.int .i64 0,.int .i64 ctx] 345 from aH.made w2 _ _);have HB3:=Z_ (HB2.out.alloc (.cells #[.int .i64 k,.int .i64 0,.slice none 0 0,.int .i64 0,.string ⟨#[]⟩,.string ⟨#[]⟩,.int .i64 0,.int .i64 0,.string ⟨#[]⟩,.bool false,.slice none 0 0,.int .i64 0,.bool false,.int .i64 0,.int .i64 0,.int .i64 ctx] 345));have wV:=Z_ (HC2.out.extend ((aB.refl _ w2).alloc (.cells #[.int .i64 k,.int .i64 0,.slice none 0 0,.int .i64 0,.string ⟨#[]⟩,.string ⟨#[]⟩,.int .i64 0,.int .i64 0,.string ⟨#[]⟩,.bool false,.slice none 0 0,.int .i64 0,.bool false,.int .i64 0,.int .i64 0,.int .i64 ctx] 345)))
 have wR:=Z_ (nY.out.alloc (.cells #[.int .i64 k,.int .i64 0,.slice none 0 0,.int .i64 0,.string ⟨#[]⟩,.string ⟨#[]⟩,.int .i64 0,.int .i64 0,.string ⟨#[]⟩,.bool false,.slice none 0 0,.int .i64 0,.bool false,.int .i64 0,.int .i64 0,.int .i64 ctx] 345));obtain⟨X,hX⟩:∃ X,w2.heap.size=X:=⟨_,rfl⟩;rw [hX] at HX;have wS:Nb<X:=by have:=HB2.out.lt;omega
 try rw [hX]
 clear hbc hcc hX HC2 HB2 nY;generalize w2.alloc (.cells #[.int .i64 k,.int .i64 0,.slice none 0 0,.int .i64 0,.string ⟨#[]⟩,.string ⟨#[]⟩,.int .i64 0,.int .i64 0,.string ⟨#[]⟩,.bool false,.slice none 0 0,.int .i64 0,.bool false,.int .i64 0,.int .i64 0,.int .i64 ctx] 345)=u3 at *;have OJ:=Z_ (show SB W u u3 C Mo D K P B Nb X E (.slice la n lc) (.slice la n lc) L deep ((p+1):Nat) cH dB dc pc pr #[.int .i64 k,.string t,.int .i64 m,.slice a N cc] (fun rv=>jh k 0 rv gG (.string ⟨#[]⟩) (.bool false) (.slice none 0 0) (.int .i64 0) (.bool false) (.int .i64 0) 0 ctx) (.slice none 0 0) (.slice none 0 0) [] from⟨wV.out,SR.out,HB3.out,HX.out,su _ _ _ _ _ _,wR.out,fun i e=>.inl ⟨e,Hf.out i e⟩,fun i e=>(by cases e),by have:=yG.out;omega,EL.out,wS⟩);clear wV SR HB3 HX wR;have hbc:=OJ.out.nb.cell;go_wp2_with fail
 clear hbc;go_loopw [28] (fun i wr=>∃ (j q:Nat) (row CW:Value) (ks:List Tr) (M:List Loc) (D6:Array Value),j≤N∧i=.int .i64 (j:Nat)∧Hid (ks.length=j)∧Hid (q+kJ (l.drop j)=pe)∧Hid ((L++M).length≤20)∧Hid (((wW E pr ctx outer (L++M) deep (l.drop j) q ks).bind fun ks=>(.ok (.mk k 0 ks gG 0 ctx,L):Rz (Tr×List Loc)))=T)∧Hid (SB W u wr C Mo D K P B Nb X E (.slice la n lc) CW (L++M) deep (q:Nat) cH dB dc D6 pr #[.int .i64 k,.string t,.int .i64 m,.slice a N cc] (fun rv=>jh k 0 rv gG (.string ⟨#[]⟩) (.bool false) (.slice none 0 0) (.int .i64 0) (.bool false) (.int .i64 0) 0 ctx) row row ks)) (fun i _=>N-(intOf i).toNat)
 case atStart=>exact⟨0,p+1,.slice none 0 0,.slice la n lc,[],[],_,Nat.zero_le _,rfl,Z_ rfl,Z_ (by have:=SQ.out;rw [List.drop_zero];exact this),Z_ (by rw [List.append_nil];exact Q4.out),by rw [List.append_nil,List.drop_zero];exact HT,by rw [List.append_nil];exact OJ⟩
 clear OJ HT
 case round=>
  obtain⟨j,q,row,CW,ks,M,D6,hj,rfl,qx,HQ,Xm,HT,HS⟩:=hrel;by_cases hlt:j<N
  ·have hji:(j:Int)<(N:Int):=by omega
   have hjd:decide ((j:Int)<(N:Int))=true:=by simpa using hji
   have hjl:j<l.length:=by rw [HN.out];exact hlt
   obtain⟨b,o,rfl,hb,uv,hu,hus,hcl⟩:=HI.out W (aB.refl _ _) j hjl;rw [bK] at hb;have hE:=HS.out.cs.ext;have hbl:=Nat.lt_of_lt_of_le hb hE.size;have KD:=Z_ (HIH.out l[j] (List.getElem_mem hjl));have hT:=HT.out;rw [List.drop_eq_getElem_cons hjl,EK] at hT;have hQ:=HQ.out;rw [List.drop_eq_getElem_cons hjl] at hQ;simp only [kJ] at hQ;have KE:=Z_ (show fP l[j]≤kJ l by have h1:=SS.CX l j;rw [List.drop_eq_getElem_cons hjl] at h1;simp only [kJ] at h1;omega);obtain⟨lb,hlb⟩:∃ lb,(l.drop (j+1)).isEmpty=lb:=⟨_,rfl⟩
   have SU:((j:Int) == (N:Int)-1)=lb:=by
    rw [←hlb];by_cases e:j+1=N
    ·rw [List.drop_of_length_le (by rw [HN.out];omega)]
     have:(j:Int)=(N:Int)-1:=by omega
     simp [this]
    ·have h1:¬ ((j:Int)=(N:Int)-1):=by omega
     have h2:(l.drop (j+1)).isEmpty=false:=by
      rw [List.isEmpty_eq_false_iff];intro h3;rw [List.drop_eq_nil_iff] at h3;rw [HN.out] at h3;omega
     rw [h2];exact beq_eq_false_iff_ne.2 h1
   rw [hlb] at hT;generalize l[j]=y at hu hT hQ KD KE;have HU:=Z_ hu;obtain⟨k1,t1,m1,a1,N1,c1,rfl⟩:=bU hu;have q0:wr.cell? ⟨b,o+j*4,none⟩=some (.int .i64 k1):=(hE.cell (p:=⟨b,o+j*4,none⟩) hb id).trans ((az _ W).2 _ _ ((hcl 0 (by decide)).trans rfl));have q1:wr.cell? ⟨b,o+j*4+1,none⟩=some (.string t1):=(hE.cell (p:=⟨b,o+j*4+1,none⟩) hb id).trans ((az _ W).2 _ _ ((hcl 1 (by decide)).trans rfl));have q2:wr.cell? ⟨b,o+j*4+2,none⟩=some (.int .i64 m1):=(hE.cell (p:=⟨b,o+j*4+2,none⟩) hb id).trans ((az _ W).2 _ _ ((hcl 2 (by decide)).trans rfl));have q3:wr.cell? ⟨b,o+j*4+3,none⟩=some (.slice a1 N1 c1):=(hE.cell (p:=⟨b,o+j*4+3,none⟩) hb id).trans ((az _ W).2 _ _ ((hcl 3 (by decide)).trans rfl));have HK:=Z_ (aH.made wr #[.int .i64 k1,.string t1,.int .i64 m1,.slice a1 N1 c1] 24)
   have uT:=Z_ (HS.out.extend ((aB.refl (fun _=>False) wr).alloc (.cells #[.int .i64 k1,.string t1,.int .i64 m1,.slice a1 N1 c1] 24)));have hw5:=HS.out.x.lt;have CY:=Z_ (fun i e=>(bH HS.out.grow i e).2);have OL:=Z_ (fun i e=>(bh HS.out.cs.loc i e).2);obtain⟨Kb,hKb⟩:∃ Kb,wr.heap.size=Kb:=⟨_,rfl⟩;rw [hKb] at HK hw5 CY OL;have Cm:=Z_ hw5;obtain⟨RY,OM⟩:∃ RY,D5 E pr ctx (outer&&lb) (L++M) deep y q=RY:=⟨_,rfl⟩;rw [OM] at hT;have Q5:=Z_ OM;have HT2:=Z_ hT;have oK:=Z_ hQ;have hwN:IntKind.i64.wrap ((N:Int)-1)=(N:Int)-1:=IntWalk.i64_in _ (by omega);clear hT hQ HT HQ hcl hus hu hw5 HS hE hlb OM;go_upto_region 7 with (fail)
   try rw [hKb]
   generalize wr.alloc (.cells #[.int .i64 k1,.string t1,.int .i64 m1,.slice a1 N1 c1] 24)=u5 at *;clear q0 q1 q2 q3 hKb;obtain⟨ra,rc,hrow,-,-⟩:=dn.lT uT.out.grow;rw [qx.out] at hrow;subst hrow;cases outer with
   | true=>
    refine di [17,18,19,22] (fun i v _=>v=([.pointer (some ⟨X,0,none⟩),.pointer (some ⟨X,0,none⟩),.pointer (some ⟨X,0,none⟩),.pointer (some ⟨X,2,none⟩),.slice ra j rc,.pointer (some ⟨C,0,none⟩),.agg #[.int .i64 k1,.string t1,.int .i64 m1,.slice a1 N1 c1],.int .i64 ctx,.bool true,.bool true,.int .i64 (j:Nat),.pointer (some ⟨Nb,3,none⟩),.slice (some ⟨b,o,none⟩) N cc,.int .i64 (N:Nat),.int .i64 ((N:Int)-1),.bool lb,.bool lb,undef,undef,undef,.pointer (some ⟨X,0,none⟩),.pointer (some ⟨X,2,none⟩),undef]:List Value).getD i undef) (oJ (fun u9=>SB W u u9 C Mo D K P B Nb X E (.slice la n lc) CW (L++M) deep (q:Nat) cH dB dc D6 pr #[.int .i64 k,.string t,.int .i64 m,.slice (some ⟨b,o,none⟩) N cc] (fun rv=>jh k 0 rv gG (.string ⟨#[]⟩) (.bool false) (.slice none 0 0) (.int .i64 0) (.bool false) (.int .i64 0) 0 ctx) (.slice ra j rc) (.slice ra j rc) ks∧aH u9 Kb #[.int .i64 k1,.string t1,.int .i64 m1,.slice a1 N1 c1] 24) (fun D7 L9 GH u9 OO r9 OT=>SB W u u9 C Mo D K P B Nb X E (.slice la n lc) D7 L9 deep ((q+fP y):Nat) cH dB dc GH pr #[.int .i64 k,.string t,.int .i64 m,.slice (some ⟨b,o,none⟩) N cc] (fun rv=>jh k 0 rv gG (.string ⟨#[]⟩) (.bool false) (.slice none 0 0) (.int .i64 0) (.bool false) (.int .i64 0) 0 ctx) OO r9 OT∧aH u9 Kb #[.int .i64 k1,.string t1,.int .i64 m1,.slice a1 N1 c1] 24) X (.slice ra j rc) ks RY) (fun _ _=>True) (frame:=?Yl) (fun x=>?OU) bn.mixed (by kernel_rfl) (by kernel_rfl) (fun _ _ _ _ h _=>h) ?h0t ?stt ?OV
    case OU=>
     simp only [chain.aK,chain.fill,chain.bf,chain.aW,jJ,jK,jL,jM,jO,jP,jQ,jR,jS];exact rfl
    case h0t=>exact⟨uT.out.extend (aB.refl _ _).drew,HK.out.drew⟩
    case stt=>
     iterate 23 (refine ai.cons (fun x vs u hF hm hb hd K' hK'=>?_) ?_;rotate_left)
     exact ai.nil
     ·refine aj.af rfl ?_
      have HF:=Z_ hF;clear hd hm hb hF;go_simp;exact hK'.out _ _ _ (rfl) trivial ⟨rfl,HF.out⟩
     ·refine aj.af rfl ?_
      have HF:=Z_ hF;clear hd hm hb hF;go_simp;exact hK'.out _ _ _ (rfl) trivial ⟨rfl,HF.out⟩
     ·refine aj.af rfl ?_
      have y0:x 34=.pointer (some ⟨X,0,none⟩):=(D_ hd 1 :);have HF:=Z_ hF;clear hd hm hb hF;go_simp;exact hK'.out _ _ _ (by simp only [y0];rfl) trivial ⟨rfl,HF.out⟩
     ·refine aj.af rfl ?_
      have y0:x 35=.pointer (some ⟨X,0,none⟩):=(D_ hd 2 :);have HF:=Z_ hF;clear hd hm hb hF;go_simp;exact hK'.out _ _ _ (by simp only [y0];rfl) trivial ⟨rfl,HF.out⟩
     ·refine aj.af rfl ?_
      have hq:=oJ.low hF (by have:=hb 2 _ (by decide) rfl (by kernel_rfl);omega) (Q:=u.cell? ⟨X,2,none⟩=some (.slice ra j rc)) (fun h=>(h.1.x.cell 2).trans rfl) (fun _ _ _ h=>(h.1.x.cell 2).trans rfl);have y0:x 36=.pointer (some ⟨X,2,none⟩):=(D_ hd 3 :);have HF:=Z_ hF;clear hd hm hb hF;go_simp;exact hK'.out _ _ _ (by simp only [y0];rfl) trivial ⟨rfl,HF.out⟩
     ·refine aj.af rfl ?_
      have HF:=Z_ hF;clear hd hm hb hF;go_simp;exact hK'.out _ _ _ (rfl) trivial ⟨rfl,HF.out⟩
     ·refine aj.af rfl ?_
      have hq:=oJ.any hF (Q:=∀ o9,u.cell? ⟨Kb,o9,none⟩=#[.int .i64 k1,.string t1,.int .i64 m1,.slice a1 N1 c1][o9]?) (fun h=>h.2.cell) (fun _ _ _ _ _ _ h=>h.2.cell);have HF:=Z_ hF;clear hd hm hb hF;go_simp;exact hK'.out _ _ _ (rfl) trivial ⟨rfl,HF.out⟩
     ·refine aj.af rfl ?_
      have HF:=Z_ hF;clear hd hm hb hF;go_simp;exact hK'.out _ _ _ (rfl) trivial ⟨rfl,HF.out⟩
     ·refine aj.af rfl ?_
      have HF:=Z_ hF;clear hd hm hb hF;go_simp;exact hK'.out _ _ _ (rfl) trivial ⟨rfl,HF.out⟩
     ·refine aj.af rfl ?_
      have y0:x 41=.bool true:=(D_ hd 8 :);have HF:=Z_ hF;clear hd hm hb hF;go_simp;exact hK'.out _ _ _ (by simp only [y0];rfl) trivial ⟨rfl,HF.out⟩
     ·have y0:x 42=.bool true:=(D_ hd 9 :);refine aj.dN rfl (by simp only [y0];rfl) ?_
      have HF:=Z_ hF;clear hd hm hb hF;go_simp;exact hK'.out _ _ _ (by simp only [y0];rfl) trivial ⟨rfl,HF.out⟩
     ·have y0:x 42=.bool true:=(D_ hd 9 :);refine aj.dN rfl (by simp only [y0];rfl) ?_
      have HF:=Z_ hF;clear hd hm hb hF;go_simp;exact hK'.out _ _ _ (by simp only [y0];rfl) trivial ⟨rfl,HF.out⟩
     ·have hq:=oJ.any hF (Q:=∀ o9,u.cell? ⟨Nb,o9,none⟩=#[.int .i64 k,.string t,.int .i64 m,.slice (some ⟨b,o,none⟩) N cc][o9]?) (fun h=>h.1.nb.cell) (fun _ _ _ _ _ _ h=>h.1.nb.cell);have y0:x 42=.bool true:=(D_ hd 9 :);have y1:x 44=.pointer (some ⟨Nb,3,none⟩):=(D_ hd 11 :);refine aj.dN rfl (by simp only [y0];rfl) ?_
      have HF:=Z_ hF;clear hd hm hb hF;go_simp;exact hK'.out _ _ _ (by simp only [y0,y1];rfl) trivial ⟨rfl,HF.out⟩
     ·have y0:x 42=.bool true:=(D_ hd 9 :);have y1:x 45=.slice (some ⟨b,o,none⟩) N cc:=(D_ hd 12 :);refine aj.dN rfl (by simp only [y0];rfl) ?_
      have HF:=Z_ hF;clear hd hm hb hF;go_simp;exact hK'.out _ _ _ (by simp only [y0,y1];rfl) trivial ⟨rfl,HF.out⟩
     ·have y0:x 42=.bool true:=(D_ hd 9 :);have y1:x 46=.int .i64 (N:Nat):=(D_ hd 13 :);refine aj.dN rfl (by simp only [y0];rfl) ?_
      have HF:=Z_ hF;clear hd hm hb hF;go_simp;exact hK'.out _ _ _ (by simp only [y0,y1];rfl) trivial ⟨rfl,HF.out⟩
     ·have y0:x 42=.bool true:=(D_ hd 9 :);have y1:x 43=.int .i64 (j:Nat):=(D_ hd 10 :);have y2:x 47=.int .i64 ((N:Int)-1):=(D_ hd 14 :);refine aj.dN rfl (by simp only [y0];rfl) ?_
      have HF:=Z_ hF;clear hd hm hb hF;go_simp;exact hK'.out _ _ _ (by simp only [y0,y1,y2];rfl) trivial ⟨rfl,HF.out⟩
     ·refine aj.af rfl ?_
      have y0:x 42=.bool true:=(D_ hd 9 :);have y1:x 48=.bool lb:=(D_ hd 15 :);have HF:=Z_ hF;clear hd hm hb hF;go_simp;exact hK'.out _ _ _ (by simp only [y0,y1];rfl) trivial ⟨rfl,HF.out⟩
     ·refine aj.af rfl ?_
      obtain rfl:=kF hm;have y0:x 38=.pointer (some ⟨C,0,none⟩):=(D_ hd 5 :);have y1:x 39=.agg #[.int .i64 k1,.string t1,.int .i64 m1,.slice a1 N1 c1]:=(D_ hd 6 :);have y2:x 40=.int .i64 ctx:=(D_ hd 7 :);have y3:x 49=.bool lb:=(D_ hd 16 :);have kR:=Z_ (KD.out _ lb ctx u q CW (L++M) deep D6 hF.1.cs hF.1.pc HU.out (by have:=oK.out;omega) Xm.out uS.out.1 (by have h1:=uS.out.2;have h2:=KE.out;omega));have qy:=(show _∧_ from hF);have HF:=Z_ qy.1;have EM:=Z_ qy.2;have qy:=(show _∧_ from hF);have HF:=Z_ qy.1;have EM:=Z_ qy.2;clear hd hm hb hF qy;go_simp;refine kR.out.mono ?_
      rintro e u2 ⟨iU,jH⟩;have OW:=Q5.out;replace OW:D5 E pr ctx lb (L++M) deep y q=RY:=OW;rw [OW] at jH;cases RY with
      | bad c9 p9=>
       obtain rfl:e=_:=jH;have uz:=HF.out.aO.trans iU HF.out.ls;go_wp2_with fail
       exact⟨rfl,uz,by rw [←HT2.out];rfl⟩
      | ok t6=>
       obtain⟨g6,oD,oG,rfl,ND,CZ,C0,uf,EN,EO⟩:=jH;have C7:=HF.out.call iU CZ C0 EN
       have yH:=EM.out.aO iU (fun e=>by
        have h1:=HF.out.cs.cB;have h2:=HF.out.cs.pB;have h3:=HF.out.hB;have h4:=HF.out.wS;have h5:=Cm.out
        rcases e with e|e|e
        ·omega
        ·omega
        ·have:=OL.out _ e;omega)
       exact hK'.out _ _ _ (by simp only [y0,y1,y2,y3];rfl) trivial ⟨t6,rfl,g6,oD,oG,rfl,⟨C7,yH⟩,gm (aZ (Nat.le_refl _) fun i hi hm=>⟨yF CY.out Cm.out EM.out.lt hm,rfl⟩) _ _ uf,g6,rfl⟩
     ·refine aj.af rfl ?_
      obtain⟨v0,rfl⟩:=lK hm
      have y0:x 50=v0:=((D_ hd 17) 50 (by kernel_rfl) :);obtain⟨t6,ng,g6,oD,oG,rfl,hF⟩:=hF;have aP:=hF.1;have HG:=Z_ (dn.bH (aP.1.grow));have HF:=Z_ hF;clear hd hm hb hF aP;go_simp;exact hK'.out _ _ _ (by simp only [y0];rfl) trivial (⟨t6,ng,g6,oD,oG,rfl,(dn.fF chk.b_ (fun u' hE=>⟨HF.out.1.1.extend hE,HF.out.1.2.ext hE⟩) (fun i e=>(HG.out i e).2) HF.out rfl)⟩)
     ·refine aj.af rfl ?_
      obtain⟨v0,v1,rfl⟩:=qX hm
      have y0:x 37=.slice ra j rc:=(D_ hd 4 :);have y1:x 51=v1:=((D_ hd 18) 51 (by kernel_rfl) :);obtain⟨t6,ng,g6,oD,oG,rfl,hF⟩:=hF;have hF2:=hF;obtain⟨aP,hxx,gg,rfl,hgb,hgr⟩:=hF2;obtain⟨us,hu1,ho,hu3⟩:=(aP.1.grow).ex;obtain⟨jc,jd,hz0,hz1,hz2⟩:=bn.aX dn.pK;have hbz:(X+1)≤u.heap.size:=by have:=aP.1.x.lt;omega
      refine wp_append_lies _ _ _ 341 rfl ((X+1)) 219 jc (.pointer none) 1 8 Tryz.underlying341 jd hz0 hz1 hz2 rfl (by decide) (.slice ra j rc) ks.length (us.flatMap fun u=>u.cells.toList) y0 ho ⟨gg,0,none⟩ 1 1 [.pointer (some ⟨g6,0,none⟩)] y1 rfl ?_ (by intro z_ kW;simp only [List.mem_cons,List.not_mem_nil,or_false] at kW;rcases kW with rfl<;>rfl) (by decide) (by unfold maxLen;have:=qx.out;omega) (by have:=qx.out;omega) hbz u.heap.size rfl ?_
      ·intro j q hj;have e:(⟨gg,0,none⟩:Addr).add j=⟨gg,j,none⟩:=(by unfold Addr.add;split<;>simp_all);rw [e,hgb.cell];simpa [Value.cells] using hj
      ·intro g9 c9 w9 iQ iJ jU qF
       exact hK'.out _ _ _ rfl trivial (⟨t6,ng,g6,oD,oG,rfl,(dn.eF chk.b_ hF hu1 hu3 rfl (fun r sD hG hC ha=>⟨aP.1.more hG hC ha,aP.2.aO hC (fun e=>by have:=CY.out _ e;omega)⟩) iQ iJ jU)⟩)
     ·refine aj.af rfl ?_
      have y0:x 33=.pointer (some ⟨X,0,none⟩):=(D_ hd 0 :);have HF:=Z_ hF;clear hd hm hb hF;go_simp;exact hK'.out _ _ _ (by simp only [y0];rfl) trivial ⟨rfl,HF.out⟩
     ·refine aj.af rfl ?_
      have y0:x 53=.pointer (some ⟨X,0,none⟩):=(D_ hd 20 :);have HF:=Z_ hF;clear hd hm hb hF;go_simp;exact hK'.out _ _ _ (by simp only [y0];rfl) trivial ⟨rfl,HF.out⟩
     ·refine aj.af rfl ?_
      obtain⟨v0,v1,v2,rfl⟩:=xy hm
      have y0:x 54=.pointer (some ⟨X,2,none⟩):=(D_ hd 21 :);have y1:x 52=v2:=((D_ hd 19) 52 (by kernel_rfl) :);obtain⟨t6,ng,g6,oD,oG,rfl,hF⟩:=hF;have hF2:=hF;obtain⟨aP,gg,cc,rfl⟩:=hF2;have hq:=aP.1.x.cell;have yI:=aP.1.x.frozen;have kN:=aP.1.x.lt;unfold jh at hq;have HF:=Z_ hF;clear hd hm hb hF aP;go_simp;exact hK'.out _ _ undef (by simp only [y0,y1];rfl) trivial (⟨t6,ng,g6,oD,oG,rfl,(dn.fG (z:=undef) HF.out (fun h=>⟨h.1.put (j:=2) rfl,h.2.setOther (p:=⟨X,2,none⟩) (by have:=Cm.out;show Kb≠X;omega) _⟩))⟩)
    case OV=>
     intro x9 qj w9 hl hF hk9;obtain⟨v0,v1,v2,v3,rfl⟩:=xA hl
     obtain⟨t6,ng,g6,oD,oG,-,hF⟩:=hF;have Hg:=(show _∧_ from hF).1;subst ng;obtain⟨y6,L6⟩:=t6;obtain⟨⟨M6,rfl⟩,SV,-⟩:=G_ Q5.out;have tH:=Z_ Hg;have kS:=Z_ (show ((wW E pr ctx true (L++M++M6) deep (l.drop (j+1)) (q+fP y) (ks ++ [y6])).bind fun ks=>(.ok (.mk k 0 ks gG 0 ctx,L):Rz (Tr×List Loc)))=T from HT2.out);have nZ:=Z_ (SV Xm.out);clear hk9 hl hF Hg SV;go_wp2_with fail
     go_roundw
     case rel=>exact⟨j+1,q+fP y,_,oD,ks ++ [y6],M++M6,oG,by omega,by go_num,Z_ (by rw [List.length_append,qx.out];rfl),Z_ (by have:=oK.out;omega),by rw [←List.append_assoc];exact nZ,by rw [←List.append_assoc];exact kS,by rw [←List.append_assoc];exact tH⟩
     case measure=>simp [intOf];omega
   | false=>
    refine di [17,18,19,22] (fun i v _=>v=([.pointer (some ⟨X,0,none⟩),.pointer (some ⟨X,0,none⟩),.pointer (some ⟨X,0,none⟩),.pointer (some ⟨X,2,none⟩),.slice ra j rc,.pointer (some ⟨C,0,none⟩),.agg #[.int .i64 k1,.string t1,.int .i64 m1,.slice a1 N1 c1],.int .i64 ctx,.bool false,.bool false,undef,undef,undef,undef,undef,undef,.bool false,undef,undef,undef,.pointer (some ⟨X,0,none⟩),.pointer (some ⟨X,2,none⟩),undef]:List Value).getD i undef) (oJ (fun u9=>SB W u u9 C Mo D K P B Nb X E (.slice la n lc) CW (L++M) deep (q:Nat) cH dB dc D6 pr #[.int .i64 k,.string t,.int .i64 m,.slice (some ⟨b,o,none⟩) N cc] (fun rv=>jh k 0 rv gG (.string ⟨#[]⟩) (.bool false) (.slice none 0 0) (.int .i64 0) (.bool false) (.int .i64 0) 0 ctx) (.slice ra j rc) (.slice ra j rc) ks∧aH u9 Kb #[.int .i64 k1,.string t1,.int .i64 m1,.slice a1 N1 c1] 24) (fun D7 L9 GH u9 OO r9 OT=>SB W u u9 C Mo D K P B Nb X E (.slice la n lc) D7 L9 deep ((q+fP y):Nat) cH dB dc GH pr #[.int .i64 k,.string t,.int .i64 m,.slice (some ⟨b,o,none⟩) N cc] (fun rv=>jh k 0 rv gG (.string ⟨#[]⟩) (.bool false) (.slice none 0 0) (.int .i64 0) (.bool false) (.int .i64 0) 0 ctx) OO r9 OT∧aH u9 Kb #[.int .i64 k1,.string t1,.int .i64 m1,.slice a1 N1 c1] 24) X (.slice ra j rc) ks RY) (fun _ _=>True) (frame:=?SX) (fun x=>?Hh) bn.mixed (by kernel_rfl) (by kernel_rfl) (fun _ _ _ _ h _=>h) ?SY ?SZ ?Hj
    case Hh=>
     simp only [chain.aK,chain.fill,chain.bf,chain.aW,jJ,jK,jL,jM,jO,jP,jQ,jR,jS];exact rfl
    case SY=>exact⟨uT.out.extend (aB.refl _ _).drew,HK.out.drew⟩
    case SZ=>
     iterate 23 (refine ai.cons (fun x vs u hF hm hb hd K' hK'=>?_) ?_;rotate_left)
     exact ai.nil
     ·refine aj.af rfl ?_
      have HF:=Z_ hF;clear hd hm hb hF;go_simp;exact hK'.out _ _ _ (rfl) trivial ⟨rfl,HF.out⟩
     ·refine aj.af rfl ?_
      have HF:=Z_ hF;clear hd hm hb hF;go_simp;exact hK'.out _ _ _ (rfl) trivial ⟨rfl,HF.out⟩
     ·refine aj.af rfl ?_
      have y0:x 34=.pointer (some ⟨X,0,none⟩):=(D_ hd 1 :);have HF:=Z_ hF;clear hd hm hb hF;go_simp;exact hK'.out _ _ _ (by simp only [y0];rfl) trivial ⟨rfl,HF.out⟩
     ·refine aj.af rfl ?_
      have y0:x 35=.pointer (some ⟨X,0,none⟩):=(D_ hd 2 :);have HF:=Z_ hF;clear hd hm hb hF;go_simp;exact hK'.out _ _ _ (by simp only [y0];rfl) trivial ⟨rfl,HF.out⟩
     ·refine aj.af rfl ?_
      have hq:=oJ.low hF (by have:=hb 2 _ (by decide) rfl (by kernel_rfl);omega) (Q:=u.cell? ⟨X,2,none⟩=some (.slice ra j rc)) (fun h=>(h.1.x.cell 2).trans rfl) (fun _ _ _ h=>(h.1.x.cell 2).trans rfl);have y0:x 36=.pointer (some ⟨X,2,none⟩):=(D_ hd 3 :);have HF:=Z_ hF;clear hd hm hb hF;go_simp;exact hK'.out _ _ _ (by simp only [y0];rfl) trivial ⟨rfl,HF.out⟩
     ·refine aj.af rfl ?_
      have HF:=Z_ hF;clear hd hm hb hF;go_simp;exact hK'.out _ _ _ (rfl) trivial ⟨rfl,HF.out⟩
     ·refine aj.af rfl ?_
      have hq:=oJ.any hF (Q:=∀ o9,u.cell? ⟨Kb,o9,none⟩=#[.int .i64 k1,.string t1,.int .i64 m1,.slice a1 N1 c1][o9]?) (fun h=>h.2.cell) (fun _ _ _ _ _ _ h=>h.2.cell);have HF:=Z_ hF;clear hd hm hb hF;go_simp;exact hK'.out _ _ _ (rfl) trivial ⟨rfl,HF.out⟩
     ·refine aj.af rfl ?_
      have HF:=Z_ hF;clear hd hm hb hF;go_simp;exact hK'.out _ _ _ (rfl) trivial ⟨rfl,HF.out⟩
     ·refine aj.af rfl ?_
      have HF:=Z_ hF;clear hd hm hb hF;go_simp;exact hK'.out _ _ _ (rfl) trivial ⟨rfl,HF.out⟩
     ·refine aj.af rfl ?_
      have y0:x 41=.bool false:=(D_ hd 8 :);have HF:=Z_ hF;clear hd hm hb hF;go_simp;exact hK'.out _ _ _ (by simp only [y0];rfl) trivial ⟨rfl,HF.out⟩
     ·have y0:x 42=.bool false:=(D_ hd 9 :);have HF:=Z_ hF;refine aj.gq (c:=false) rfl (by simp only [y0];rfl) rfl ?_
      exact hK'.out _ _ _ rfl trivial ⟨rfl,HF.out⟩
     ·have y0:x 42=.bool false:=(D_ hd 9 :);have HF:=Z_ hF;refine aj.gq (c:=false) rfl (by simp only [y0];rfl) rfl ?_
      exact hK'.out _ _ _ rfl trivial ⟨rfl,HF.out⟩
     ·have y0:x 42=.bool false:=(D_ hd 9 :);have HF:=Z_ hF;refine aj.gq (c:=false) rfl (by simp only [y0];rfl) rfl ?_
      exact hK'.out _ _ _ rfl trivial ⟨rfl,HF.out⟩
     ·have y0:x 42=.bool false:=(D_ hd 9 :);have HF:=Z_ hF;refine aj.gq (c:=false) rfl (by simp only [y0];rfl) rfl ?_
      exact hK'.out _ _ _ rfl trivial ⟨rfl,HF.out⟩
     ·have y0:x 42=.bool false:=(D_ hd 9 :);have HF:=Z_ hF;refine aj.gq (c:=false) rfl (by simp only [y0];rfl) rfl ?_
      exact hK'.out _ _ _ rfl trivial ⟨rfl,HF.out⟩
     ·have y0:x 42=.bool false:=(D_ hd 9 :);have HF:=Z_ hF;refine aj.gq (c:=false) rfl (by simp only [y0];rfl) rfl ?_
      exact hK'.out _ _ _ rfl trivial ⟨rfl,HF.out⟩
     ·refine aj.af rfl ?_
      have y0:x 42=.bool false:=(D_ hd 9 :);have y1:x 48=undef:=(D_ hd 15 :);have HF:=Z_ hF;clear hd hm hb hF;go_simp;exact hK'.out _ _ _ (by simp only [y0,y1];rfl) trivial ⟨rfl,HF.out⟩
     ·refine aj.af rfl ?_
      obtain rfl:=kF hm;have y0:x 38=.pointer (some ⟨C,0,none⟩):=(D_ hd 5 :);have y1:x 39=.agg #[.int .i64 k1,.string t1,.int .i64 m1,.slice a1 N1 c1]:=(D_ hd 6 :);have y2:x 40=.int .i64 ctx:=(D_ hd 7 :);have y3:x 49=.bool false:=(D_ hd 16 :);have kR:=Z_ (KD.out _ false ctx u q CW (L++M) deep D6 hF.1.cs hF.1.pc HU.out (by have:=oK.out;omega) Xm.out uS.out.1 (by have h1:=uS.out.2;have h2:=KE.out;omega));have qy:=(show _∧_ from hF);have HF:=Z_ qy.1;have EM:=Z_ qy.2;have qy:=(show _∧_ from hF);have HF:=Z_ qy.1;have EM:=Z_ qy.2;clear hd hm hb hF qy;go_simp;refine kR.out.mono ?_
      rintro e u2 ⟨iU,jH⟩;have OW:=Q5.out;replace OW:D5 E pr ctx false (L++M) deep y q=RY:=OW;rw [OW] at jH;cases RY with
      | bad c9 p9=>
       obtain rfl:e=_:=jH;have uz:=HF.out.aO.trans iU HF.out.ls;go_wp2_with fail
       exact⟨rfl,uz,by rw [←HT2.out];rfl⟩
      | ok t6=>
       obtain⟨g6,oD,oG,rfl,ND,CZ,C0,uf,EN,EO⟩:=jH;have C7:=HF.out.call iU CZ C0 EN
       have yH:=EM.out.aO iU (fun e=>by
        have h1:=HF.out.cs.cB;have h2:=HF.out.cs.pB;have h3:=HF.out.hB;have h4:=HF.out.wS;have h5:=Cm.out
        rcases e with e|e|e
        ·omega
        ·omega
        ·have:=OL.out _ e;omega)
       exact hK'.out _ _ _ (by simp only [y0,y1,y2,y3];rfl) trivial ⟨t6,rfl,g6,oD,oG,rfl,⟨C7,yH⟩,gm (aZ (Nat.le_refl _) fun i hi hm=>⟨yF CY.out Cm.out EM.out.lt hm,rfl⟩) _ _ uf,g6,rfl⟩
     ·refine aj.af rfl ?_
      obtain⟨v0,rfl⟩:=lK hm
      have y0:x 50=v0:=((D_ hd 17) 50 (by kernel_rfl) :);obtain⟨t6,ng,g6,oD,oG,rfl,hF⟩:=hF;have aP:=hF.1;have HG:=Z_ (dn.bH (aP.1.grow));have HF:=Z_ hF;clear hd hm hb hF aP;go_simp;exact hK'.out _ _ _ (by simp only [y0];rfl) trivial (⟨t6,ng,g6,oD,oG,rfl,(dn.fF chk.b_ (fun u' hE=>⟨HF.out.1.1.extend hE,HF.out.1.2.ext hE⟩) (fun i e=>(HG.out i e).2) HF.out rfl)⟩)
     ·refine aj.af rfl ?_
      obtain⟨v0,v1,rfl⟩:=qX hm
      have y0:x 37=.slice ra j rc:=(D_ hd 4 :);have y1:x 51=v1:=((D_ hd 18) 51 (by kernel_rfl) :);obtain⟨t6,ng,g6,oD,oG,rfl,hF⟩:=hF;have hF2:=hF;obtain⟨aP,hxx,gg,rfl,hgb,hgr⟩:=hF2;obtain⟨us,hu1,ho,hu3⟩:=(aP.1.grow).ex;obtain⟨jc,jd,hz0,hz1,hz2⟩:=bn.aX dn.pK;have hbz:(X+1)≤u.heap.size:=by have:=aP.1.x.lt;omega
      refine wp_append_lies _ _ _ 341 rfl ((X+1)) 219 jc (.pointer none) 1 8 Tryz.underlying341 jd hz0 hz1 hz2 rfl (by decide) (.slice ra j rc) ks.length (us.flatMap fun u=>u.cells.toList) y0 ho ⟨gg,0,none⟩ 1 1 [.pointer (some ⟨g6,0,none⟩)] y1 rfl ?_ (by intro z_ kW;simp only [List.mem_cons,List.not_mem_nil,or_false] at kW;rcases kW with rfl<;>rfl) (by decide) (by unfold maxLen;have:=qx.out;omega) (by have:=qx.out;omega) hbz u.heap.size rfl ?_
      ·intro j q hj;have e:(⟨gg,0,none⟩:Addr).add j=⟨gg,j,none⟩:=(by unfold Addr.add;split<;>simp_all);rw [e,hgb.cell];simpa [Value.cells] using hj
      ·intro g9 c9 w9 iQ iJ jU qF
       exact hK'.out _ _ _ rfl trivial (⟨t6,ng,g6,oD,oG,rfl,(dn.eF chk.b_ hF hu1 hu3 rfl (fun r sD hG hC ha=>⟨aP.1.more hG hC ha,aP.2.aO hC (fun e=>by have:=CY.out _ e;omega)⟩) iQ iJ jU)⟩)
     ·refine aj.af rfl ?_
      have y0:x 33=.pointer (some ⟨X,0,none⟩):=(D_ hd 0 :);have HF:=Z_ hF;clear hd hm hb hF;go_simp;exact hK'.out _ _ _ (by simp only [y0];rfl) trivial ⟨rfl,HF.out⟩
     ·refine aj.af rfl ?_
      have y0:x 53=.pointer (some ⟨X,0,none⟩):=(D_ hd 20 :);have HF:=Z_ hF;clear hd hm hb hF;go_simp;exact hK'.out _ _ _ (by simp only [y0];rfl) trivial ⟨rfl,HF.out⟩
     ·refine aj.af rfl ?_
      obtain⟨v0,v1,v2,rfl⟩:=xy hm
      have y0:x 54=.pointer (some ⟨X,2,none⟩):=(D_ hd 21 :);have y1:x 52=v2:=((D_ hd 19) 52 (by kernel_rfl) :);obtain⟨t6,ng,g6,oD,oG,rfl,hF⟩:=hF;have hF2:=hF;obtain⟨aP,gg,cc,rfl⟩:=hF2;have hq:=aP.1.x.cell;have yI:=aP.1.x.frozen;have kN:=aP.1.x.lt;unfold jh at hq;have HF:=Z_ hF;clear hd hm hb hF aP;go_simp;exact hK'.out _ _ undef (by simp only [y0,y1];rfl) trivial (⟨t6,ng,g6,oD,oG,rfl,(dn.fG (z:=undef) HF.out (fun h=>⟨h.1.put (j:=2) rfl,h.2.setOther (p:=⟨X,2,none⟩) (by have:=Cm.out;show Kb≠X;omega) _⟩))⟩)
    case Hj=>
     intro x9 qj w9 hl hF hk9;obtain⟨v0,v1,v2,v3,rfl⟩:=xA hl
     obtain⟨t6,ng,g6,oD,oG,-,hF⟩:=hF;have Hg:=(show _∧_ from hF).1;subst ng;obtain⟨y6,L6⟩:=t6;obtain⟨⟨M6,rfl⟩,SV,-⟩:=G_ Q5.out;have tH:=Z_ Hg;have kS:=Z_ (show ((wW E pr ctx false (L++M++M6) deep (l.drop (j+1)) (q+fP y) (ks ++ [y6])).bind fun ks=>(.ok (.mk k 0 ks gG 0 ctx,L):Rz (Tr×List Loc)))=T from HT2.out);have nZ:=Z_ (SV Xm.out);clear hk9 hl hF Hg SV;go_wp2_with fail
     go_roundw
     case rel=>exact⟨j+1,q+fP y,_,oD,ks ++ [y6],M++M6,oG,by omega,by go_num,Z_ (by rw [List.length_append,qx.out];rfl),Z_ (by have:=oK.out;omega),by rw [←List.append_assoc];exact nZ,by rw [←List.append_assoc];exact kS,by rw [←List.append_assoc];exact tH⟩
     case measure=>simp [intOf];omega
  ·obtain rfl:j=N:=by omega
   have hjd:decide ((j:Int)<(j:Int))=false:=by simp
   have hT:=HT.out;have hQ:=HQ.out;rw [List.drop_of_length_le (by rw [HN.out];exact Nat.le_refl _)] at hT hQ;have hR0:wW E pr ctx outer (L++M) deep [] q ks=.ok ks:=by unfold wW;simp [uQ,Rz.bind]
   rw [hR0] at hT;obtain rfl:q=pe:=hQ;have pJ:=Z_ (show T=.ok (.mk k 0 ks gG 0 ctx,L) from hT.symm);obtain⟨ga,gc,hv,hv1,hv2⟩:=dV HS.out.cs.loc;have hlen:n≤(L++M).length:=by rw [List.length_append,xx.out];omega
   subst hv;obtain⟨gn,hgn⟩:∃ gn,(L++M).length=gn:=⟨_,rfl⟩;rw [hgn] at hlen hv1 HS;have HGN:=Z_ hgn;have hcc:=HS.out.cs.c.cell;have hcf:=HS.out.cs.c.frozen;have hcl:=HS.out.cs.c.lt;unfold qw at hcc;have hgi:(n:Int)≤(gc:Int):=by omega
   have hg0:(0:Int)≤(n:Int):=by omega
   clear hT hR0 HT HQ HI HIH hgn;go_wp2_with fail
   have iU:=ak (S:=C) (aB.refl _ wr) 2 (.slice ga n gc);have Ym:aB (LS C P (.slice ga gn gc)) wr (wr.setCell ⟨C,2,none⟩ (.slice ga n gc)):=iU.weak fun _ _ e=>.inl e
   have hgl:Grow 3 340 wX B (wr.setCell ⟨C,2,none⟩ (.slice ga n gc)) (.slice ga n gc) L:=by
    have h1:=HS.out.cs.loc.aO gJ iU (fun i e=>by have:=HS.out.cs.cB;omega);have h2:=C9 h1;rw [xx.out] at h2;exact h2
   have hown:∀ i,(Value.slice ga n gc).ownBlock=some i→(Value.slice ga gn gc).ownBlock=some i:=fun i e=>by
    cases ga with
    | none=>cases e
    | some z=>exact e
   have hcs:=HS.out.cs.Hl Ym (HS.out.cs.c.set 2 (.slice ga n gc)) (HS.out.cs.p.aO iU (fun e=>HS.out.cs.cP e.symm)) hgl;have hsb:=HS.out.call Ym hcs HS.out.pc (fun i e=>.inl (hown i e));have htr:=zZ (B:=u.heap.size) hsb.x hsb.grow (by have:=hsb.h0;have:=hsb.wS;omega) (by constructor<;>decide) (fun i e=>by rcases hsb.fresh i e with f|f<;>(have:=hsb.wS;omega)) hsb.apart;have EP:=Z_ (And.intro hsb (And.intro htr hcs));clear iU Ym hgl hsb htr hcs hcc hcf hcl;go_ret
   refine⟨EP.out.1.aO,?_⟩
   rw [pJ.out];exact⟨X,_,_,rfl,by have:=EP.out.1.h0;have:=EP.out.1.wS;omega,EP.out.2.2,EP.out.1.pc,EP.out.2.1,fun i e=>by rcases EP.out.1.fresh i e with f|f;exact .inl f.1;exact .inr (by have:=EP.out.1.h0;have:=EP.out.1.wS;omega),rfl⟩
end chk
end Go.Proofs.YtpcihajmcejliacGreatDoor
namespace Go.Proofs.YtpcihajmcejliacGreatDoor
open Go.RowKit
namespace chk
open bn dn
theorem KF {E:dH} {L:List Loc} {ctx:Int} {alone:Bool} {k:Int} {t:ByteArray} {m:Int} {ks:List Tr} {p:Nat} {y:Tr} (h:ug E L ctx alone k t m ks p=.ok y):y.kd=k∧y.kids=ks:=by
 unfold ug at h;split at h
 ·cases hv:uU E L t p with
  | bad c q=>rw [hv] at h;cases h
  | ok r=>
   rw [hv] at h;simp only [Rz.bind] at h;split at h
   ·cases h;exact⟨rfl,rfl⟩
   ·cases h
 ·split at h
  ·cases hv:qV E ctx alone t ks p with
   | bad c q=>rw [hv] at h;cases h
   | ok r=>rw [hv] at h;cases h;exact⟨rfl,rfl⟩
  ·cases h;exact⟨rfl,rfl⟩
theorem KG {E:dH} {L:List Loc} {ctx:Int}:∀ (l:List Nd) (p:Nat) (ks:List Tr),qG E L ctx l p=.ok ks→ks.length=l.length:=by
 intro l;induction l with
 | nil=>intro p ks h;rw [qG] at h;cases h;rfl
 | cons x r ih=>
  intro p ks h;rw [qG] at h;cases h1:wY E L ctx false x p with
  | bad c q=>rw [h1] at h;cases h
  | ok y=>
   rw [h1] at h;simp only [Rz.bind] at h;cases h2:qG E L ctx r (p+fP x) with
   | bad c q=>rw [h2] at h;cases h
   | ok ys=>rw [h2] at h;cases h;rw [List.length_cons,List.length_cons,ih _ _ h2]
theorem OX {E:dH} {L:List Loc} {ctx:Int} {alone:Bool} {x:Nd} {p:Nat} {y:Tr} (h:wY E L ctx alone x p=.ok y):y.kd=x.kd∧y.kids.length=x.kids.length:=by
 obtain⟨k,t,m,l⟩:=x;rw [wY] at h;cases h1:qG E L ctx l (p+1) with
 | bad c q=>rw [h1] at h;cases h
 | ok ks=>
  rw [h1] at h;obtain⟨e1,e2⟩:=KF h;exact⟨e1,by rw [e2,KG _ _ _ h1];rfl⟩
theorem OY {E:dH} {pr:aI} {ctx:Int} {outer:Bool} {L:List Loc} {deep:Int} {x:Nd} {p:Nat} {y:Tr} (h:yE E pr ctx outer L deep x p=.ok y):y.kd=x.kd:=by
 obtain⟨k,t,m,l⟩:=x;rw [yE] at h;cases h1:uQ E pr ctx outer L deep l (p+1) with
 | bad c q=>rw [h1] at h;cases h
 | ok ks=>rw [h1] at h;cases h;rfl
theorem Ho {x:Nd} (h:jk x) (hk:x.kd=17):0<x.kids.length:=by
 obtain⟨k,t,m,l⟩:=x;obtain rfl:k=17:=hk;have hf:=h.form;show 0<l.length
 cases hf
 simp
theorem Hq {E:dH} {pr:aI} {ctx:Int} {alone:Bool} {L:List Loc} {deep:Int}:∀ (l:List Nd) (b:Option Int) (p:Nat) (ks:List Tr),kz E pr ctx alone L deep l b p=.ok ks→(∀ y∈l,jk y)→ks.length=l.length∧∀ y∈ks,y.kd=17→0<y.kids.length:=by
 intro l;induction l with
 | nil=>intro b p ks h _;rw [kz] at h;cases h;exact⟨rfl,fun y hy=>by cases hy⟩
 | cons x r ih=>
  intro b p ks h hn;rw [kz] at h;cases h1:(if x.kd=6 then yE E pr (iM ctx (b.getD 0)) false L (deep+1) x p else wY E L ctx alone x p) with
  | bad c q=>rw [h1] at h;cases h
  | ok y=>
   rw [h1] at h;simp only [Rz.bind] at h;cases h2:kz E pr ctx alone L deep r (some (b.getD y.lab)) (p+fP x) with
   | bad c q=>rw [h2] at h;cases h
   | ok ys=>
    rw [h2] at h;cases h
    obtain⟨e1,e2⟩:=ih _ _ _ h2 (fun z hz=>hn z (List.mem_cons_of_mem _ hz));refine⟨by rw [List.length_cons,List.length_cons,e1],fun z hz hk=>?_⟩
    rcases List.mem_cons.1 hz with rfl|hz
    ·split at h1
     ·rename_i h6
      have:=OY h1;omega
     ·obtain⟨e3,e4⟩:=OX h1
      rw [e4];exact Ho (hn x (List.mem_cons_self ..)) (by rw [←e3];exact hk)
    ·exact e2 z hz hk
def qY (z0:Value) (F:List Value→World→Prop):List Value→World→Prop
 | [],u=>F [] u
 | v::r,u=>v=z0∧F r u
theorem qY.ext {w0:World} {z:Int} {ls:List Int} {n:Nat} {z0:Value} {vs:List Value} {u:World} (h:qY z0 (jr w0 z ls n) vs u):Ext w0 u:=by
 match vs,h with
 | [],h=>exact h
 | _::_,h=>exact h.2.ext
theorem KH {ks:List Tr} (h:0<ks.length) {P:Tr→Prop} (hP:∀ y∈ks,P y):P (ks.headD default):=by
 rw [yJ h];exact hP _ (List.getElem_mem h)
theorem tail_at {l:List Tr} (h:1<l.length):l.tail.headD default=l[1]:=by
 match l,h with
 | _::_::_,_=>rfl
theorem Aa {a b:ByteArray} (h:a≠b):(a.toList == b.toList)=false:=by rw [ByteArray.toList_eq,ByteArray.toList_eq];simpa using fun e=>h (ByteArray.ext (Array.toList_inj.1 e))
theorem Hr {α : Type} {l:List α} {e:Nat} (h:e<l.length) {P:α→Bool}:(l.take (e+1)).any P=((l.take e).any P || P l[e]):=by
 rw [List.take_succ_eq_append_getElem h,List.any_append];simp
theorem OZ {α : Type} {l:List α} {e:Nat} (h:e<l.length) {P:α→Bool}:P l[e]=true→l.any P=true:=fun hp=>List.any_eq_true.2 ⟨_,List.getElem_mem h,hp⟩
variable {W u0 u u':World} {C Mo D K P B Nb X:Nat} {E:dH} {wZ vl:Value} {L:List Loc} {deep:Int} {at_:Nat} {cH dB:Value} {dc pc:Array Value} {pr:aI} {nc:Array Value}
theorem oO {k m:Int} {r:mG} {p0 p1 p2 p3 p4 p5:Value} {ctx:Int} {row:Value} {ks:List Tr} (h:SB W u0 u C Mo D K P B Nb X E wZ vl L deep (at_:Nat) cH dB dc pc pr nc (fun rv=>jh k m rv r p0 p1 p2 p3 p4 p5 0 ctx) row row ks) (hr:uM r):yD W u0 C Mo D K P B E wZ deep at_ cH dB dc pr k (.ok (.mk k m ks r 0 ctx,L)) (.returned (.pointer (some ⟨X,0,none⟩))) u:=by
 have h1:=h.h0;have h2:=h.wS
 have ho:=bH h.grow;refine⟨h.aO,X,vl,pc,rfl,by omega,h.cs,h.pc,zZ (B:=u0.heap.size) h.x h.grow (by omega) hr (fun i e=>by rcases h.fresh i e with f|f<;>omega) h.apart,fun i e=>?_,rfl⟩
 rcases h.fresh i e with f|f
 ·exact .inl f.1
 ·exact .inr (by omega)
theorem mL {rN row:Value} {xc:Value→Array Value} {ks:List Tr} {at2:Int} {c:Int} {p:Nat} {kd:Int} (h:SB W u0 u C Mo D K P B Nb X E wZ vl L deep at2 cH dB dc pc pr nc xc rN row ks):yD W u0 C Mo D K P B E wZ deep at_ cH dB dc pr kd (.bad c p) (.panicked (mJ c (p:Nat))) u:=⟨h.aO,rfl⟩
theorem O0 {w:World} {Y:Nat→Bool} {B:Nat} {row:Value} {ks:List Tr} (h:je Y 1 219 zH B w row ks) (hp:0<ks.length):∃ rb ro c,row=.slice (some ⟨rb,ro,none⟩) ks.length c∧rb<w.heap.size∧∀ (j:Nat) (h:j<ks.length),∃ g a2 c2 p0 p1 p2 p3 p4 p5,w.cell? ⟨rb,ro+j,none⟩=some (.pointer (some ⟨g,0,none⟩))∧g<w.heap.size∧qH w ks[j] (.pointer (some ⟨g,0,none⟩))∧(∀ i,i<16→w.cell? ⟨g,i,none⟩=(jh ks[j].kd ks[j].nm (.slice a2 ks[j].kids.length c2) ks[j].ref p0 p1 p2 p3 p4 p5 ks[j].lab ks[j].ctx)[i]?):=by
 obtain⟨a,c,e,-,-,h3⟩:=sF h b_ qZ;have h3:=h3.keeps (az _ _) (jT (az _ _));obtain⟨rb,ro,rfl,hb,-⟩:=h3 0 hp;refine⟨rb,ro,c,e,hb,fun j hj=>?_⟩
 obtain⟨rb2,ro2,e2,-,u,hu,ht⟩:=h3 j hj;cases e2
 obtain⟨g,a2,c2,p0,p1,p2,p3,p4,p5,rfl,hg,hc,-⟩:=mZ ht;exact⟨g,a2,c2,p0,p1,p2,p3,p4,p5,by simpa using hu,hg,ht,hc⟩
end chk
end Go.Proofs.YtpcihajmcejliacGreatDoor
