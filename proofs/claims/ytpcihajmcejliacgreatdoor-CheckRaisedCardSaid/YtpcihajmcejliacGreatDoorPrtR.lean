/- The walks of the printer's variable, proc, module. The printer's recover. -/
import Derived.Recover
import Derived.Test.YtpcihajmcejliacGreatDoorPrtB
namespace Go.Proofs.YtpcihajmcejliacGreatDoor
open Go.RowKit
namespace prt
open bH
theorem BP {m:Int} (h0:0≤m) (h1:m≤11):bits .and .i64 m 1=m % 2:=by
 have h:m=0∨m=1∨m=2∨m=3∨m=4∨m=5∨m=6∨m=7∨m=8∨m=9∨m=10∨m=11:=by omega
 rcases h with rfl|rfl|rfl|rfl|rfl|rfl|rfl|rfl|rfl|rfl|rfl|rfl<;>rfl
theorem MO {m:Int} (h0:0≤m) (h1:m≤11):(bits .and .i64 m 1 != 0)=decide (m % 2=1):=by
 rw [BP h0 h1];by_cases h:m % 2=1
 ·rw [h];rfl
 ·rw [show m % 2=0 by omega];rfl
theorem qV {t:ByteArray} {m:Int} {n:Nat} {a b c:Int} (h:eH t m n a b c=true):0≤m∧m≤c∧a≤(n:Int)∧(b<0∨(n:Int)≤b):=by
 unfold eH nH at h;simp only [Bool.and_eq_true,Bool.or_eq_true,decide_eq_true_eq] at h;exact⟨h.2.1.1.1,h.2.1.1.2,h.2.1.2,h.2.2⟩
def yz (x:Nd):PO:=(bu (decide (x.kd=15))).then ((ah [ov]).then ((fJ 0 x).then (ah [lN])))
theorem Ar (m:Int):(rK m).length≤1:=by unfold rK;split<;>simp
def VaC (W:World) (S:Nat) (x:Nd):Prop:=∀ (v:Value) (u:World) (row:Value) (acc:List ByteArray),PW W u S row acc→nO W x v→acc.length+12*dL x≤1000000→
 Calls Tryz.prog 102 #[.pointer (some ⟨S,0,none⟩),v] u (wO W u S row acc (rJ x))
set_option maxRecDepth 100000 in
set_option maxHeartbeats 16000000 in
theorem oP {W:World} {S:Nat} (hv:ErrVar W) (hmv:dG W) (htab:Lib.TabIs Tryz.prog W "internal/strconv.uint64pow10" .u64 Lib.pow10Tab) (k:Int) (t:ByteArray) (m:Int) (l:List Nd):VaC W S (.mk k t m l):=by
 intro v u row acc h hnd hm;rw [lJ] at hnd;obtain⟨a,cc,rfl,hc1,hc2,⟨hts,zK⟩,hrow⟩:=hnd;obtain⟨N,hN⟩:∃ N,l.length=N:=⟨_,rfl⟩;rw [hN] at hc1 ⊢;have Uc:N≤9223372036854775807:=by unfold maxLen at hc2;omega
 have HN:=Z_ hN;have HI:=Z_ hrow;have HEX:=Z_ (qj (S:=S) hv hmv htab);have Qi:=Z_ (SX (S:=S) hv hmv htab);have HV:=Z_ hv;have rC:=Z_ hmv;have HLEN:=Z_ (show acc.length+12*(1+gm l)≤1000000 from by simp only [dL] at hm;omega);have Je:=Z_ hts;have HB:=Z_ (PB.made h #[.int .i64 k,.string t,.int .i64 m,.slice a N cc]).nil;obtain⟨Nb,hNb⟩:∃ Nb,u.heap.size=Nb:=⟨_,rfl⟩;rw [hNb] at HB;obtain⟨ks,hks⟩:∃ ks,l.map yz=ks:=⟨_,rfl⟩;have vG:=Z_ hks;obtain⟨T,hT⟩:∃ T,rJ (.mk k t m l)=T:=⟨_,rfl⟩;rw [hT];obtain⟨lb,hlb⟩:∃ lb,(bits .and .i64 m 1 != 0)=lb:=⟨_,rfl⟩;have W_:=Z_ hlb;have HT:=Z_ (show PO.then (true,[]) ((bu (eH t m N 0 1 3)).then ((ah (rK m)).then ((ah [jh (decide (m % 2=1))]).then ((ah [t]).then ((mG ks).then ((ah [aW]).then (ah [])))))))=T by rw [←hT,←hks,←hN,←fE (ah [aW]),←dP];rfl)
 clear hT hrow hv hmv htab hm hts zK h hN hks;obtain⟨pb,hpb⟩:∃ pb,eH t m N 0 1 3=pb:=⟨_,rfl⟩;have jX:=Z_ (fun w (hE:Ext W w)=>oM k m t a N cc 0 1 3 w Je.out (HV.out.ext hE) (rC.out.ext hE));rw [hpb] at jX HT;have ug:=Z_ hpb;clear hpb;go_enter Tryz.func102,Tryz.ntmps102
 go_upto_region 1 with (fail)
 try rw [hNb]
 generalize u.alloc (.cells #[.int .i64 k,.string t,.int .i64 m,.slice a N cc] 24)=u0 at *;clear hNb;have hbc:=HB.out.nb.cell;go_wp2_with fail
 try clear hbc
 refine(jX.out _ HB.out.f.pw.ext).mono ?_
 rintro e w3 ⟨he,jq⟩;replace HB:=Z_ (HB.out.extend jq);clear jq;cases pb with
 | false=>
  obtain rfl:e=_:=he;simp only [Bool.false_eq_true,if_false];go_wp2_with fail
  exact⟨rfl,aG (by rw [←HT.out,eC]) HB.out.f⟩
 | true=>
  obtain rfl:e=_:=he;rw [dw] at HT;simp only [if_true];obtain⟨hm0,hm3,-⟩:=qV ug.out;have E5:=Z_ (show 0≤m∧m≤11 from by omega);clear hm0 hm3;have HO:=Z_ (show decide (m % 2=1)=lb from by rw [←W_.out,MO E5.out.1 E5.out.2]);rw [HO.out] at HT;have hpl:=Ar m;generalize hpw:rK m=pw at *;have G6:=Z_ (fun (u:World) (row:Value) (acc:List ByteArray) (h:PW W u S row acc) hm=>MG h k m t a N cc E5.out.1 E5.out.2 hm);rw [hpw] at G6;clear hpw;have hbc:=HB.out.nb.cell;go_wp2_with fail
  try clear hbc
  refine(G6.out _ _ _ HB.out.f.pw (by have h9:=HLEN.out;first|omega|(simp at h9 ⊢;omega))).mono ?_
  rintro e w3 ⟨rfl,row3,hF3⟩;replace HB:=Z_ (HB.out.call hF3).assoc;clear hF3 G6;rw [aT] at HT;have hbc:=HB.out.nb.cell;go_wp2_with fail
  try clear hbc
  try rw [hlb]
  refine(cE HB.out.f.pw lb (by have h9:=HLEN.out;first|omega|(simp at h9 ⊢;omega))).mono ?_
  rintro e w3 ⟨rfl,row3,hF3⟩;replace HB:=Z_ (HB.out.call hF3).assoc;clear hF3;rw [aT] at HT;have hbc:=HB.out.nb.cell;go_wp2_with fail
  try clear hbc
  refine(bQ HB.out.f.pw [t] _ rfl 1 rfl (by decide) (by have h9:=HLEN.out;first|omega|(simp at h9 ⊢;omega))).mono ?_
  rintro e w3 ⟨rfl,row3,hF3⟩;replace HB:=Z_ (HB.out.call hF3).assoc;clear hF3;rw [aT] at HT;have hbc:=HB.out.nb.cell;go_upto_region 5 with (fail)
  go_wp2_with fail
  clear hbc;have rF:=Z_ (show acc.length+([]++pw ++ [jh lb] ++ [t]).length+12*gm l+6≤1000000 from by have h9:=HLEN.out;simp;omega);generalize []++pw ++ [jh lb] ++ [t]=Vo at *;go_loopw [25] (fun i wr=>∃ (j:Nat) (ws:List ByteArray) (r:Value),j≤N∧i=.int .i64 (j:Nat)∧Hid (PO.then (true,ws) ((mG (ks.drop j)).then ((ah [aW]).then (ah [])))=T)∧Hid (PB W u wr S Nb row r (acc++ws) #[.int .i64 k,.string t,.int .i64 m,.slice a N cc])∧Hid (acc.length+ws.length+12*gm (l.drop j)+6≤1000000+3*j)) (fun i _=>N-(intOf i).toNat)
  case atStart=>exact⟨0,Vo,_,Nat.zero_le _,rfl,by rw [List.drop_zero];exact HT,HB,by rw [List.drop_zero];exact Z_ (by have:=rF.out;omega)⟩
  clear HT HB
  case round=>
   obtain⟨j,ws,r,hj,rfl,HT,HB,jQ⟩:=hrel;by_cases hlt:j<N
   ·
    have hji:(j:Int)<(N:Int):=by omega
    have hjd:decide ((j:Int)<(N:Int))=true:=by simpa using hji
    have hjl:j<l.length:=by rw [HN.out];exact hlt
    have hN1:N≤1:=by have:=(qV ug.out).2.2.2;omega
    obtain⟨b,o,k1,t1,m1,a1,n1,c1,ha,hu,q0,q1,q2,q3⟩:=gI HB.out.f.pw.ext HI.out j hjl;subst ha;have hdr:ks.drop j=yz l[j]::ks.drop (j+1):=by rw [←vG.out,List.drop_eq_getElem_cons (by simpa using hjl)];simp
    have hln:=jQ.out;rw [List.drop_eq_getElem_cons hjl] at hln;simp only [gm] at hln;generalize l[j]=x at *;rw [hdr,mG] at HT;unfold yz at HT;simp only [then_assoc] at HT;have hkd:=MC hu;rw [hkd] at HT;obtain⟨p,hp⟩:∃ p,fJ 0 x=p:=⟨_,rfl⟩;have hpl2:=iL x 0;rw [hp] at hpl2 HT;have SV:=Z_ hp;replace jQ:=Z_ hln;clear hp hdr hkd hln;obtain⟨K,hK⟩:∃ K,wr.heap.size=K:=⟨_,rfl⟩;have HKB:=Z_ (show aJ (wr.alloc (.cells #[.int .i64 k1,.string t1,.int .i64 m1,.slice a1 n1 c1] 24)) K #[.int .i64 k1,.string t1,.int .i64 m1,.slice a1 n1 c1] 24 by rw [←hK];exact aJ.made wr _ _);have DC:=Z_ (show S<K∧∀ i,r.ownBlock=some i→i<K from⟨by rw [←hK];exact HB.out.f.pw.s.lt,fun i e=>by rw [←hK];exact(HB.out.f.pw.own i e).2⟩);replace HB:=Z_ (HB.out.extend ((aB.refl (fun _=>False) wr).alloc (.cells #[.int .i64 k1,.string t1,.int .i64 m1,.slice a1 n1 c1] 24)))
    go_upto_region 8 with (fail)
    try rw [hK]
    generalize wr.alloc (.cells #[.int .i64 k1,.string t1,.int .i64 m1,.slice a1 n1 c1] 24)=u5 at *;clear q0 q1 q2 q3 hK;have hkc:=HKB.out.cell;go_wp2_with fail
    clear hkc;refine(gq (decide (k1=15)) _).mono ?_
    rintro e w3 ⟨rfl,rfl⟩;cases hpc:decide (k1=15) with
    | false=>
     rw [hpc] at HT;simp only [Bool.false_eq_true,if_false];go_wp2_with fail
     exact⟨rfl,aG (by rw [←HT.out,eC]) HB.out.f⟩
    | true=>
     rw [hpc,dw] at HT;simp only [if_true];clear hpc;go_wp2_with fail
     refine(bQ HB.out.f.pw [ov] _ rfl 1 rfl (by decide) (by have h9:=jQ.out;simp;omega)).mono ?_
     rintro e w3 ⟨rfl,row3,hF3⟩;replace HB:=Z_ (HB.out.call hF3).assoc;replace HKB:=Z_ (HKB.out.aU hF3.aU (fun e=>by rcases e with e|e;(have:=DC.out.1;omega);(have:=DC.out.2 _ e;omega)));clear hF3;rw [aT] at HT;have iz:=Z_ (HEX.out x _ _ _ _ 0 HB.out.f.pw hu (by have h9:=jQ.out;simp;omega) (by decide) (by decide));rw [SV.out] at iz;have hkc:=HKB.out.cell;go_wp2_with fail
     clear hkc hu;refine iz.out.mono ?_
     rintro e w3 ⟨⟨row3,hF3⟩,he⟩;replace HB:=Z_ (HB.out.call hF3).assoc;clear hF3 iz;obtain⟨pb,pw2⟩:=p;cases pb with
     | false=>
      obtain rfl:e=_:=he;simp only [Bool.false_eq_true,if_false];go_wp2_with fail
      exact⟨rfl,aG (by rw [←HT.out,di]) HB.out.f⟩
     | true=>
      obtain rfl:e=_:=he;rw [then_ok] at HT;simp only [if_true]
      try simp only at hpl2
      go_wp2_with fail
      refine(bQ HB.out.f.pw [lN] _ rfl 1 rfl (by decide) (by have h9:=jQ.out;simp;omega)).mono ?_
      rintro e w3 ⟨rfl,row3,hF3⟩;replace HB:=Z_ (HB.out.call hF3).assoc;clear hF3;rw [aT] at HT;go_wp2_with fail
      go_roundw
      case rel=>exact⟨j+1,_,_,hlt,by go_num,HT,HB,Z_ (by have h9:=jQ.out;simp;omega)⟩
      case measure=>simp [intOf];omega
   ·obtain rfl:j=N:=by omega
    have hjd:decide ((j:Int)<(j:Int))=false:=by simp
    have hdn:ks.drop j=[]:=by rw [←vG.out];exact List.drop_eq_nil_of_le (by rw [List.length_map,HN.out];exact Nat.le_refl _)
    rw [hdn,mG,aT] at HT;replace HB:=Z_ HB.out.nil;rw [List.append_assoc] at HB;go_wp2_with fail
    have h8:=rF.out;have h9:=jQ.out;have hN1:j≤1:=by have:=(qV ug.out).2.2.2;omega
    refine(bQ HB.out.f.pw [aW] _ rfl 1 rfl (by decide) (by simp;omega)).mono ?_
    rintro e w3 ⟨rfl,row3,hF3⟩;replace HB:=Z_ (HB.out.call hF3).assoc;clear hF3;rw [aT] at HT;go_wp2_with fail
    go_end0
    exact eU (by rw [←HT.out,fH]) HB.out.f
theorem Tn {w:World} {x:Nd} {k m:Int} {t:ByteArray} {a:Option Addr} {n c:Nat} (h:nO w x (.agg #[.int .i64 k,.string t,.int .i64 m,.slice a n c])):∃ l,x=.mk k t m l∧l.length=n∧t.size≤maxLen:=by
 cases x with
 | mk k0 t0 m0 l0=>
  rw [lJ] at h;obtain⟨a0,c0,e,-,-,h3,-⟩:=h;simp only [Value.agg.injEq,Array.mk.injEq,List.cons.injEq,Value.int.injEq,Value.string.injEq,Value.slice.injEq] at e;obtain⟨⟨-,rfl⟩,rfl,⟨-,rfl⟩,⟨-,rfl,-⟩,-⟩:=e;exact⟨l0,rfl,rfl,h3.1⟩
theorem Ci (b:Nd):∀ l:List Nd,gm (l ++ [b])=gm l+dL b
 | []=>by simp [gm]
 | x::r=>by rw [List.cons_append,gm,gm,Ci b r];omega
theorem IM:∀ (l:List Nd) (i j:Nat) (hj:j<l.length),kS (l.drop j) i=(zT i l[j]).then (kS (l.drop (j+1)) (i+1))
 | x::r,i,0,_=>by rw [List.drop_zero,kS];rfl
 | x::r,i,j+1,hj=>by
  rw [List.drop_succ_cons,List.drop_succ_cons,IM r i j (by simpa using hj)];rfl
def PrC (W:World) (S:Nat) (x:Nd):Prop:=∀ (v:Value) (u:World) (row:Value) (acc:List ByteArray),PW W u S row acc→nO W x v→acc.length+12*dL x≤1000000→
 Calls Tryz.prog 103 #[.pointer (some ⟨S,0,none⟩),v] u (wO W u S row acc (mY x))
set_option maxRecDepth 100000 in
set_option maxHeartbeats 16000000 in
theorem Cj {W:World} {S:Nat} (hv:ErrVar W) (hmv:dG W) (htab:Lib.TabIs Tryz.prog W "internal/strconv.uint64pow10" .u64 Lib.pow10Tab) (k:Int) (t:ByteArray) (m:Int) (l:List Nd):PrC W S (.mk k t m l):=by
 intro v u row acc h hnd hm;rw [lJ] at hnd;obtain⟨a,cc,rfl,hc1,hc2,⟨hts,zK⟩,hrow⟩:=hnd;obtain⟨N,hN⟩:∃ N,l.length=N:=⟨_,rfl⟩;rw [hN] at hc1 ⊢;have Uc:N≤9223372036854775807:=by unfold maxLen at hc2;omega
 have HN:=Z_ hN;have HI:=Z_ hrow;have HEX:=Z_ (qj (S:=S) hv hmv htab);have Qi:=Z_ (SX (S:=S) hv hmv htab);have HV:=Z_ hv;have rC:=Z_ hmv;have HLEN:=Z_ (show acc.length+12*(1+gm l)≤1000000 from by simp only [dL] at hm;omega);have Je:=Z_ hts;have HB:=Z_ (PB.made h #[.int .i64 k,.string t,.int .i64 m,.slice a N cc]).nil;obtain⟨Nb,hNb⟩:∃ Nb,u.heap.size=Nb:=⟨_,rfl⟩;rw [hNb] at HB;obtain⟨T,hT⟩:∃ T,mY (.mk k t m l)=T:=⟨_,rfl⟩;rw [hT];obtain⟨lb,hlb⟩:∃ lb,(bits .and .i64 m 1 != 0)=lb:=⟨_,rfl⟩;have W_:=Z_ hlb;have HT:=Z_ (show PO.then (true,[]) ((bu (eH t m N 1 (-1) 11)).then ((ah (rK m)).then ((ah [qh,t,dh]).then ((kS l.dropLast 0).then ((ah [aV]).then ((ah [jh (decide (m % 2=1))]).then ((if 4≤m then (ah [iJ]).then (ah [jh (decide (8≤m))]) else ah []).then ((qH (l.getLastD kE)).then (ah [])))))))) )=T by rw [←hT,←hN,←fE (qH _),←dP];rfl)
 clear hT hrow hv hmv htab hm hts zK h hN;obtain⟨pb,hpb⟩:∃ pb,eH t m N 1 (-1) 11=pb:=⟨_,rfl⟩;have jX:=Z_ (fun w (hE:Ext W w)=>oM k m t a N cc 1 (-1) 11 w Je.out (HV.out.ext hE) (rC.out.ext hE));rw [hpb] at jX HT;have ug:=Z_ hpb;clear hpb;go_enter Tryz.func103,Tryz.ntmps103
 go_upto_region 1 with (fail)
 try rw [hNb]
 generalize u.alloc (.cells #[.int .i64 k,.string t,.int .i64 m,.slice a N cc] 24)=u0 at *;clear hNb;have hbc:=HB.out.nb.cell;go_wp2_with fail
 try clear hbc
 refine(jX.out _ HB.out.f.pw.ext).mono ?_
 rintro e w3 ⟨he,jq⟩;replace HB:=Z_ (HB.out.extend jq);clear jq;cases pb with
 | false=>
  obtain rfl:e=_:=he;simp only [Bool.false_eq_true,if_false];go_wp2_with fail
  exact⟨rfl,aG (by rw [←HT.out,eC]) HB.out.f⟩
 | true=>
  obtain rfl:e=_:=he;rw [dw] at HT;simp only [if_true];obtain⟨hm0,hm3,hn1,-⟩:=qV ug.out;have E5:=Z_ (show 0≤m∧m≤11 from by omega);obtain⟨ps,bb,rfl⟩:∃ ps bb,l=ps ++ [bb]:=by rcases List.eq_nil_or_concat l with e|⟨ps,bb,e⟩;(have:=HN.out;rw [e] at this;simp at this;omega);exact⟨ps,bb,by simpa using e⟩
  obtain⟨n,hn⟩:∃ n,ps.length=n:=⟨_,rfl⟩;obtain rfl:N=n+1:=by rw [←HN.out,←hn];simp
  have AL:=Z_ hn;rw [List.dropLast_concat,List.getLastD_concat] at HT;have Xn:=Z_ (show acc.length+12*(1+(gm ps+dL bb))≤1000000 from by have:=HLEN.out;rw [Ci] at this;exact this);clear HLEN;have HLEN:=Xn;clear Xn hm0 hm3 hn1 hn;have HO:=Z_ (show decide (m % 2=1)=lb from by rw [←W_.out,MO E5.out.1 E5.out.2]);rw [HO.out] at HT;have hpl:=Ar m;generalize hpw:rK m=pw at *;have G6:=Z_ (fun (u:World) (row:Value) (acc:List ByteArray) (h:PW W u S row acc) hm=>MG h k m t a (n+1) cc E5.out.1 E5.out.2 hm);rw [hpw] at G6;clear hpw;have hbc:=HB.out.nb.cell;go_wp2_with fail
  try clear hbc
  refine(G6.out _ _ _ HB.out.f.pw (by have h9:=HLEN.out;first|omega|(simp at h9 ⊢;omega))).mono ?_
  rintro e w3 ⟨rfl,row3,hF3⟩;replace HB:=Z_ (HB.out.call hF3).assoc;clear hF3 G6;rw [aT] at HT;have hbc:=HB.out.nb.cell;go_wp2_with fail
  try clear hbc
  refine(bQ HB.out.f.pw [qh,t,dh] _ rfl 3 rfl (by decide) (by have h9:=HLEN.out;first|omega|(simp at h9 ⊢;omega))).mono ?_
  rintro e w3 ⟨rfl,row3,hF3⟩;replace HB:=Z_ (HB.out.call hF3).assoc;clear hF3;rw [aT] at HT;have hwn:IntKind.i64.wrap ((n:Int)+1-1)=(n:Int):=by rw [wrap_small _ (by omega) (by omega)];omega
  have hni:(n:Int)≤(cc:Int):=by omega
  have hn0:(0:Int)≤(n:Int):=by omega
  have hbc:=HB.out.nb.cell;go_upto_region 5 with (fail)
  go_wp2_with fail
  clear hbc hwn hni hn0;have rF:=Z_ (show acc.length+([]++pw ++ [qh,t,dh]).length+12*gm ps+12*dL bb+4≤1000000 from by have h9:=HLEN.out;simp;omega);generalize []++pw ++ [qh,t,dh]=Vo at *;go_loopw [27] (fun i wr=>∃ (j:Nat) (ws:List ByteArray) (r:Value),j≤n∧i=.int .i64 (j:Nat)∧Hid (PO.then (true,ws) ((kS (ps.drop j) j).then ((ah [aV]).then ((ah [jh lb]).then ((if 4≤m then (ah [iJ]).then (ah [jh (decide (8≤m))]) else ah []).then ((qH bb).then (ah []))))))=T)∧Hid (PB W u wr S Nb row r (acc++ws) #[.int .i64 k,.string t,.int .i64 m,.slice a (n+1) cc])∧Hid (acc.length+ws.length+12*gm (ps.drop j)+12*dL bb+4≤1000000)) (fun i _=>n-(intOf i).toNat)
  case atStart=>exact⟨0,Vo,_,Nat.zero_le _,rfl,by rw [List.drop_zero];exact HT,HB,by rw [List.drop_zero];exact rF⟩
  clear HT HB rF
  case round=>
   obtain⟨j,ws,r,hj,rfl,HT,HB,jQ⟩:=hrel;by_cases hlt:j<n
   ·
    have hji:(j:Int)<(n:Int):=by omega
    have hjd:decide ((j:Int)<(n:Int))=true:=by simpa using hji
    have DK:j<ps.length:=by rw [AL.out];exact hlt
    have hjl:j<(ps ++ [bb]).length:=by rw [List.length_append];omega
    obtain⟨b,o,k1,t1,m1,a1,n1,c1,ha,hu,q0,q1,q2,q3⟩:=gI HB.out.f.pw.ext HI.out j hjl;subst ha;have hye:(ps ++ [bb])[j]=ps[j]:=List.getElem_append_left DK;rw [hye] at hu;have hdr:=IM ps j j DK;have hln:=jQ.out;rw [List.drop_eq_getElem_cons DK] at hln;simp only [gm] at hln;generalize ps[j]=x at *;obtain⟨l1,rfl,hl1,Tq⟩:=Tn hu;rw [hdr] at HT;unfold zT at HT;simp only [then_assoc] at HT;replace HT:=Z_ (show PO.then (true,ws) ((bu (decide (k1=5))).then ((ah (if 0<j then [fL] else [])).then ((bu (eH t1 m1 l1.length 0 0 1)).then ((ah [jh (decide (m1=1))]).then ((ah [t1]).then ((kS (ps.drop (j+1)) (j+1)).then ((ah [aV]).then ((ah [jh lb]).then ((if 4≤m then (ah [iJ]).then (ah [jh (decide (8≤m))]) else ah []).then ((qH bb).then (ah [])))))))))))=T from HT.out)
    rw [hl1] at HT;have Vy:=Z_ Tq;have hsx:1≤dL (.mk k1 t1 m1 l1):=by simp only [dL];omega
    generalize dL (.mk k1 t1 m1 l1)=sx at *;replace jQ:=Z_ hln;clear hdr hln hye hu Tq hl1;obtain⟨K,hK⟩:∃ K,wr.heap.size=K:=⟨_,rfl⟩;have HKB:=Z_ (show aJ (wr.alloc (.cells #[.int .i64 k1,.string t1,.int .i64 m1,.slice a1 n1 c1] 24)) K #[.int .i64 k1,.string t1,.int .i64 m1,.slice a1 n1 c1] 24 by rw [←hK];exact aJ.made wr _ _);have DC:=Z_ (show S<K∧∀ i,r.ownBlock=some i→i<K from⟨by rw [←hK];exact HB.out.f.pw.s.lt,fun i e=>by rw [←hK];exact(HB.out.f.pw.own i e).2⟩);replace HB:=Z_ (HB.out.extend ((aB.refl (fun _=>False) wr).alloc (.cells #[.int .i64 k1,.string t1,.int .i64 m1,.slice a1 n1 c1] 24)));go_upto_region 8 with (fail)
    try rw [hK]
    generalize wr.alloc (.cells #[.int .i64 k1,.string t1,.int .i64 m1,.slice a1 n1 c1] 24)=u5 at *;clear q0 q1 q2 q3 hK;have hkc:=HKB.out.cell;go_wp2_with fail
    clear hkc;refine(gq (decide (k1=5)) _).mono ?_
    rintro e w3 ⟨rfl,rfl⟩;cases hpc:decide (k1=5) with
    | false=>
     rw [hpc] at HT;simp only [Bool.false_eq_true,if_false];go_wp2_with fail
     exact⟨rfl,aG (by rw [←HT.out,eC]) HB.out.f⟩
    | true=>
     rw [hpc,dw] at HT;simp only [if_true];clear hpc;by_cases hj0:j=0
     ·
      have hjz:¬ (0:Int)<(j:Int):=by omega
      have ax3:decide ((0:Int)<(j:Int))=false:=by simpa using hjz
      rw [if_neg (by omega),aT] at HT;replace HB:=Z_ HB.out.nil;rw [List.append_assoc] at HB;obtain⟨nb,hnb⟩:∃ nb,eH t1 m1 n1 0 0 1=nb:=⟨_,rfl⟩;rw [hnb] at HT;have hkc:=HKB.out.cell;go_wp2_with fail
      clear hkc;have JU:=Z_ (oM k1 m1 t1 a1 n1 c1 0 0 1 _ Vy.out (HV.out.ext HB.out.f.pw.ext) (rC.out.ext HB.out.f.pw.ext));rw [hnb] at JU;clear hnb;refine JU.out.mono ?_
      rintro e w3 ⟨he,jq⟩;replace HB:=Z_ (HB.out.extend jq);replace HKB:=Z_ (HKB.out.ext jq);have ax4:=DC;clear jq JU;cases nb with
      | false=>
       obtain rfl:e=_:=he;simp only [Bool.false_eq_true,if_false];go_wp2_with fail
       exact⟨rfl,aG (by rw [←HT.out,eC]) HB.out.f⟩
      | true=>
       obtain rfl:e=_:=he;rw [dw] at HT;simp only [if_true];have hkc:=HKB.out.cell;go_wp2_with fail
       clear hkc;refine(cE HB.out.f.pw (decide (m1=1)) (by have h9:=jQ.out;simp;omega)).mono ?_
       rintro e w3 ⟨rfl,row3,hF3⟩;replace HB:=Z_ (HB.out.call hF3).assoc;clear hF3;rw [aT] at HT;go_wp2_with fail
       refine(bQ HB.out.f.pw [t1] _ rfl 1 rfl (by decide) (by have h9:=jQ.out;simp;omega)).mono ?_
       rintro e w3 ⟨rfl,row3,hF3⟩;replace HB:=Z_ (HB.out.call hF3).assoc;clear hF3;rw [aT] at HT;go_wp2_with fail
       go_roundw
       case rel=>exact⟨j+1,_,_,hlt,by go_num,HT,HB,Z_ (by have h9:=jQ.out;simp;omega)⟩
       case measure=>simp [intOf];omega
     ·
      have hjz:(0:Int)<(j:Int):=by omega
      have ax3:decide ((0:Int)<(j:Int))=true:=by simpa using hjz
      rw [if_pos (by omega)] at HT;go_wp2_with fail
      refine(bQ HB.out.f.pw [fL] _ rfl 1 rfl (by decide) (by have h9:=jQ.out;simp;omega)).mono ?_
      rintro e w3 ⟨rfl,row3,hF3⟩;replace HB:=Z_ (HB.out.call hF3).assoc;replace HKB:=Z_ (HKB.out.aU hF3.aU (fun e=>by rcases e with e|e;(have:=DC.out.1;omega);(have:=DC.out.2 _ e;omega)));clear hF3;rw [aT] at HT;obtain⟨nb,hnb⟩:∃ nb,eH t1 m1 n1 0 0 1=nb:=⟨_,rfl⟩;rw [hnb] at HT;have hkc:=HKB.out.cell;go_wp2_with fail
      clear hkc;have JU:=Z_ (oM k1 m1 t1 a1 n1 c1 0 0 1 _ Vy.out (HV.out.ext HB.out.f.pw.ext) (rC.out.ext HB.out.f.pw.ext));rw [hnb] at JU;clear hnb;refine JU.out.mono ?_
      rintro e w3 ⟨he,jq⟩;replace HB:=Z_ (HB.out.extend jq);replace HKB:=Z_ (HKB.out.ext jq);have ax4:=DC;clear jq JU;cases nb with
      | false=>
       obtain rfl:e=_:=he;simp only [Bool.false_eq_true,if_false];go_wp2_with fail
       exact⟨rfl,aG (by rw [←HT.out,eC]) HB.out.f⟩
      | true=>
       obtain rfl:e=_:=he;rw [dw] at HT;simp only [if_true];have hkc:=HKB.out.cell;go_wp2_with fail
       clear hkc;refine(cE HB.out.f.pw (decide (m1=1)) (by have h9:=jQ.out;simp;omega)).mono ?_
       rintro e w3 ⟨rfl,row3,hF3⟩;replace HB:=Z_ (HB.out.call hF3).assoc;clear hF3;rw [aT] at HT;go_wp2_with fail
       refine(bQ HB.out.f.pw [t1] _ rfl 1 rfl (by decide) (by have h9:=jQ.out;simp;omega)).mono ?_
       rintro e w3 ⟨rfl,row3,hF3⟩;replace HB:=Z_ (HB.out.call hF3).assoc;clear hF3;rw [aT] at HT;go_wp2_with fail
       go_roundw
       case rel=>exact⟨j+1,_,_,hlt,by go_num,HT,HB,Z_ (by have h9:=jQ.out;simp;omega)⟩
       case measure=>simp [intOf];omega
   ·obtain rfl:j=n:=by omega
    have hjd:decide ((j:Int)<(j:Int))=false:=by simp
    have hdn:ps.drop j=[]:=List.drop_eq_nil_of_le (by rw [AL.out];exact Nat.le_refl _);have h8:=jQ.out;rw [hdn] at HT h8;rw [kS,aT] at HT;replace HB:=Z_ HB.out.nil;rw [List.append_assoc] at HB;simp only [gm] at h8;replace jQ:=Z_ h8;clear h8 hdn;go_wp2_with fail
    refine(bQ HB.out.f.pw [aV] _ rfl 1 rfl (by decide) (by have h9:=jQ.out;simp;omega)).mono ?_
    rintro e w3 ⟨rfl,row3,hF3⟩;replace HB:=Z_ (HB.out.call hF3).assoc;clear hF3;rw [aT] at HT;have hbc:=HB.out.nb.cell;go_wp2_with fail
    try clear hbc
    refine(cE HB.out.f.pw lb (by have h9:=jQ.out;simp;omega)).mono ?_
    rintro e w3 ⟨rfl,row3,hF3⟩;replace HB:=Z_ (HB.out.call hF3).assoc;clear hF3;rw [aT] at HT;by_cases h4:4≤m
    ·
     have h4d:decide (4≤m)=true:=by simpa using h4
     rw [if_pos h4] at HT;simp only [then_assoc] at HT;have hbc:=HB.out.nb.cell;go_wp2_with fail
     try clear hbc
     refine(bQ HB.out.f.pw [iJ] _ rfl 1 rfl (by decide) (by have h9:=jQ.out;simp;omega)).mono ?_
     rintro e w3 ⟨rfl,row3,hF3⟩;replace HB:=Z_ (HB.out.call hF3).assoc;clear hF3;rw [aT] at HT;have hbc:=HB.out.nb.cell;go_wp2_with fail
     try clear hbc
     refine(cE HB.out.f.pw (decide (8≤m)) (by have h9:=jQ.out;simp;omega)).mono ?_
     rintro e w3 ⟨rfl,row3,hF3⟩;replace HB:=Z_ (HB.out.call hF3).assoc;clear hF3;rw [aT] at HT;have hjl:j<(ps ++ [bb]).length:=by rw [List.length_append,AL.out];simp
     obtain⟨b,o,k1,t1,m1,a1,n1,c1,ha,hu,q0,q1,q2,q3⟩:=gI HB.out.f.pw.ext HI.out j hjl;subst ha;have hye:(ps ++ [bb])[j]=bb:=by rw [List.getElem_append_right (by rw [AL.out];exact Nat.le_refl _)];simp [AL.out]
     rw [hye] at hu;have iz:=Z_ ((Qi.out bb).2 _ _ _ _ HB.out.f.pw hu (by have h9:=jQ.out;simp;omega));obtain⟨p,hp⟩:∃ p,qH bb=p:=⟨_,rfl⟩;rw [hp] at iz HT;have ax5:(0:Int)≤(j:Int):=by omega
     have ax6:(j:Int)<(j:Int)+1:=by omega
     have hbc:=HB.out.nb.cell;clear hye hp hu hjl;go_wp2_with fail
     try clear hbc
     clear q0 q1 q2 q3;refine iz.out.mono ?_
     rintro e w3 ⟨⟨row3,hF3⟩,he⟩;replace HB:=Z_ (HB.out.call hF3).assoc;clear hF3 iz;obtain⟨pb,pw2⟩:=p;cases pb with
     | false=>
      obtain rfl:e=_:=he;simp only [Bool.false_eq_true,if_false];go_wp2_with fail
      exact⟨rfl,aG (by rw [←HT.out,di]) HB.out.f⟩
     | true=>
      obtain rfl:e=_:=he;rw [then_ok] at HT;simp only [if_true];go_wp2_with fail
      go_end0
      exact eU (by rw [←HT.out,fH]) HB.out.f
    ·
     have h4d:decide (4≤m)=false:=by simpa using h4
     rw [if_neg h4,aT] at HT;replace HB:=Z_ HB.out.nil;rw [List.append_assoc] at HB;have hjl:j<(ps ++ [bb]).length:=by rw [List.length_append,AL.out];simp
     obtain⟨b,o,k1,t1,m1,a1,n1,c1,ha,hu,q0,q1,q2,q3⟩:=gI HB.out.f.pw.ext HI.out j hjl;subst ha;have hye:(ps ++ [bb])[j]=bb:=by rw [List.getElem_append_right (by rw [AL.out];exact Nat.le_refl _)];simp [AL.out]
     rw [hye] at hu;have iz:=Z_ ((Qi.out bb).2 _ _ _ _ HB.out.f.pw hu (by have h9:=jQ.out;simp;omega));obtain⟨p,hp⟩:∃ p,qH bb=p:=⟨_,rfl⟩;rw [hp] at iz HT;have ax5:(0:Int)≤(j:Int):=by omega
     have ax6:(j:Int)<(j:Int)+1:=by omega
     have hbc:=HB.out.nb.cell;clear hye hp hu hjl;go_wp2_with fail
     try clear hbc
     clear q0 q1 q2 q3;refine iz.out.mono ?_
     rintro e w3 ⟨⟨row3,hF3⟩,he⟩;replace HB:=Z_ (HB.out.call hF3).assoc;clear hF3 iz;obtain⟨pb,pw2⟩:=p;cases pb with
     | false=>
      obtain rfl:e=_:=he;simp only [Bool.false_eq_true,if_false];go_wp2_with fail
      exact⟨rfl,aG (by rw [←HT.out,di]) HB.out.f⟩
     | true=>
      obtain rfl:e=_:=he;rw [then_ok] at HT;simp only [if_true];go_wp2_with fail
      go_end0
      exact eU (by rw [←HT.out,fH]) HB.out.f
theorem MJ (x:Nd):(rJ x).2.length+1≤12*dL x:=by
 obtain⟨k,t,m,l⟩:=x
 have hK:∀ (r:List Nd),sumP (r.map yz)≤12*gm r+2*r.length:=by
  intro r;induction r with
  | nil=>simp [sumP]
  | cons x r ih=>
   have h1:=iL x 0
   have h2:(yz x).2.length≤(fJ 0 x).2.length+2:=by
    unfold yz;refine Nat.le_trans (iV _ _) ?_
    rw [iD];have h3:=jK (fJ 0 x) (ah [lN]);have h4:(ah [lN]).2.length=1:=rfl;simp only [List.length_cons,List.length_nil] at *;omega
   simp only [sumP,List.map_cons,List.sum_cons,gm,List.length_cons] at ih ⊢;omega
 have h0:(rJ (.mk k t m l)).2.length≤12*gm l+6:=by
  unfold rJ;refine yh fun hp=>?_
  obtain⟨-,-,-,hN⟩:=qV hp;have hN1:l.length≤1:=by omega
  have h1:=hK l;have h2:=Ar m;have h3:=FN (l.map yz);have h4:=jK (mG (l.map yz)) (ah [aW]);have h5:(ah [aW]).2.length=1:=rfl;have h6:(mG (l.map fun x=>(bu (decide (x.kd=15))).then ((ah [ov]).then ((fJ 0 x).then (ah [lN])))))=mG (l.map yz):=rfl;rw [iD,iD,iD,h6];simp only [List.length_cons,List.length_nil] at *;omega
 simp only [dL];omega
theorem FO (x:Nd):1≤dL x:=by cases x;simp only [dL];omega
theorem IP:∀ (l:List Nd) (i:Nat),(kS l i).2.length≤12*gm l
 | [],_=>by simp [kS,ah]
 | x::r,i=>by
  have h1:=IP r (i+1);have h2:=jK (zT i x) (kS r (i+1))
  have h3:(zT i x).2.length≤3:=by
   unfold zT;refine Nat.le_trans (iV _ _) ?_
   rw [iD];have h4:=iV (eH x.tx x.nm x.kids.length 0 0 1) ((ah [jh (decide (x.nm=1))]).then (ah [x.tx]));rw [iD] at h4;have h5:(ah [x.tx]).2.length=1:=rfl;have h6:(if 0<i then [fL] else ([]:List ByteArray)).length≤1:=by split<;>simp
   simp only [List.length_cons,List.length_nil] at *;omega
  have h4:=FO x;rw [kS];simp only [gm];omega
theorem II (x:Nd):(mY x).2.length+1≤12*dL x:=by
 obtain⟨k,t,m,l⟩:=x
 have h0:(mY (.mk k t m l)).2.length≤12*gm l+8:=by
  unfold mY;refine yh fun hp=>?_
  obtain⟨-,-,hN,-⟩:=qV hp;rcases List.eq_nil_or_concat l with e|⟨ps,bb,e⟩
  ·rw [e] at hN;simp at hN
  ·rw [List.concat_eq_append] at e
   subst e;rw [List.dropLast_concat,List.getLastD_concat,Ci];have h1:=IP ps 0;have h2:=Ar m;have h3:=(wu bb).2;have h4:=jK (kS ps 0) ((ah [aV]).then ((ah [jh (decide (m % 2=1))]).then ((if 4≤m then (ah [iJ]).then (ah [jh (decide (8≤m))]) else ah []).then (qH bb))));have h5:=jK (if 4≤m then (ah [iJ]).then (ah [jh (decide (8≤m))]) else ah []) (qH bb);have h6:(if 4≤m then (ah [iJ]).then (ah [jh (decide (8≤m))]) else ah []).2.length≤2:=by split<;>simp [ah,PO.then]
   rw [iD,iD] at h4;rw [iD,iD];simp only [List.length_cons,List.length_nil] at *;omega
 simp only [dL];omega
theorem Cm:∀ (l:List Nd) (d:Bool) (j:Nat) (hj:j<l.length),iP (l.drop j) d=(xI d l[j]).then (iP (l.drop (j+1)) (d || !decide (l[j].kd=2)))
 | x::r,d,0,_=>by rw [List.drop_zero,iP];rfl
 | x::r,d,j+1,hj=>by
  rw [List.drop_succ_cons,List.drop_succ_cons,Cm r d j (by simpa using hj)];rfl
def MoC (W:World) (S:Nat) (x:Nd):Prop:=∀ (v:Value) (u:World) (row:Value) (acc:List ByteArray),PW W u S row acc→nO W x v→acc.length+12*dL x≤1000000→
 Calls Tryz.prog 51 #[.pointer (some ⟨S,0,none⟩),v] u (wO W u S row acc (nX x))
set_option maxRecDepth 100000 in
set_option maxHeartbeats 16000000 in
theorem Vz {W:World} {S:Nat} (hv:ErrVar W) (hmv:dG W) (htab:Lib.TabIs Tryz.prog W "internal/strconv.uint64pow10" .u64 Lib.pow10Tab) (k:Int) (t:ByteArray) (m:Int) (l:List Nd):MoC W S (.mk k t m l):=by
 intro v u row acc h hnd hm;rw [lJ] at hnd;obtain⟨a,cc,rfl,hc1,hc2,⟨hts,zK⟩,hrow⟩:=hnd;obtain⟨N,hN⟩:∃ N,l.length=N:=⟨_,rfl⟩;rw [hN] at hc1 ⊢;have Uc:N≤9223372036854775807:=by unfold maxLen at hc2;omega
 have HN:=Z_ hN;have HI:=Z_ hrow;have HVA:=Z_ (oP (S:=S) hv hmv htab);have LZ:=Z_ (Cj (S:=S) hv hmv htab);have HV:=Z_ hv;have rC:=Z_ hmv;have HLEN:=Z_ (show acc.length+12*(1+gm l)≤1000000 from by simp only [dL] at hm;omega);have Je:=Z_ hts;have HB:=Z_ (PB.made h #[.int .i64 k,.string t,.int .i64 m,.slice a N cc]).nil;obtain⟨Nb,hNb⟩:∃ Nb,u.heap.size=Nb:=⟨_,rfl⟩;rw [hNb] at HB;obtain⟨T,hT⟩:∃ T,nX (.mk k t m l)=T:=⟨_,rfl⟩;rw [hT];have HT:=Z_ (show PO.then (true,[]) ((bu (decide (k=1))).then ((bu (eH t m N 0 (-1) 0)).then ((ah [nK,t,aW]).then ((iP l false).then (ah [])))))=T by rw [←hT,←hN,←fE (iP _ _),←dP];rfl);clear hT hrow hv hmv htab hm hts zK h hN;obtain⟨pb,hpb⟩:∃ pb,eH t m N 0 (-1) 0=pb:=⟨_,rfl⟩
 have jX:=Z_ (fun w (hE:Ext W w)=>oM k m t a N cc 0 (-1) 0 w Je.out (HV.out.ext hE) (rC.out.ext hE));rw [hpb] at jX HT;have ug:=Z_ hpb;clear hpb;go_enter Tryz.func51,Tryz.ntmps51
 go_upto_region 1 with (fail)
 try rw [hNb]
 generalize u.alloc (.cells #[.int .i64 k,.string t,.int .i64 m,.slice a N cc] 24)=u0 at *;clear hNb;have hbc:=HB.out.nb.cell;go_wp2_with fail
 try clear hbc
 refine(gq (decide (k=1)) _).mono ?_
 rintro e w3 ⟨rfl,rfl⟩;cases hpc:decide (k=1) with
 | false=>
  rw [hpc] at HT;simp only [Bool.false_eq_true,if_false];go_wp2_with fail
  exact⟨rfl,aG (by rw [←HT.out,eC]) HB.out.f⟩
 | true=>
  rw [hpc,dw] at HT;simp only [if_true];clear hpc;have hbc:=HB.out.nb.cell;go_wp2_with fail
  try clear hbc
  refine(jX.out _ HB.out.f.pw.ext).mono ?_
  rintro e w3 ⟨he,jq⟩;replace HB:=Z_ (HB.out.extend jq);clear jq;cases pb with
  | false=>
   obtain rfl:e=_:=he;simp only [Bool.false_eq_true,if_false];go_wp2_with fail
   exact⟨rfl,aG (by rw [←HT.out,eC]) HB.out.f⟩
  | true=>
   obtain rfl:e=_:=he;rw [dw] at HT;simp only [if_true];have hbc:=HB.out.nb.cell;go_wp2_with fail
   try clear hbc
   refine(bQ HB.out.f.pw [nK,t,aW] _ rfl 3 rfl (by decide) (by have h9:=HLEN.out;first|omega|(simp at h9 ⊢;omega))).mono ?_
   rintro e w3 ⟨rfl,row3,hF3⟩;replace HB:=Z_ (HB.out.call hF3).assoc;clear hF3;rw [aT] at HT;have hbc:=HB.out.nb.cell;go_upto_region 4 with (fail)
   go_wp2_with fail
   clear hbc;have rF:=Z_ (show acc.length+([] ++ [nK,t,aW]).length+12*gm l≤1000000 from by have h9:=HLEN.out;simp;omega);generalize [] ++ [nK,t,aW]=Vo at *;go_loopw [4,19] (fun dv i wr=>∃ (j:Nat) (d:Bool) (ws:List ByteArray) (r:Value),j≤N∧i=.int .i64 (j:Nat)∧dv=.bool d∧Hid (PO.then (true,ws) ((iP (l.drop j) d).then (ah []))=T)∧Hid (PB W u wr S Nb row r (acc++ws) #[.int .i64 k,.string t,.int .i64 m,.slice a N cc])∧Hid (acc.length+ws.length+12*gm (l.drop j)≤1000000)) (fun _ i _=>N-(intOf i).toNat)
   case atStart=>exact⟨0,false,Vo,_,Nat.zero_le _,rfl,rfl,by rw [List.drop_zero];exact HT,HB,by rw [List.drop_zero];exact rF⟩
   clear HT HB rF
   case round=>
    obtain⟨j,d,ws,r,hj,rfl,rfl,HT,HB,jQ⟩:=hrel;by_cases hlt:j<N
    ·
     have hji:(j:Int)<(N:Int):=by omega
     have hjd:decide ((j:Int)<(N:Int))=true:=by simpa using hji
     have hjl:j<l.length:=by rw [HN.out];exact hlt
     obtain⟨b,o,k1,t1,m1,a1,n1,c1,ha,hu,q0,q1,q2,q3⟩:=gI HB.out.f.pw.ext HI.out j hjl;subst ha;have hdr:=Cm l d j hjl;have hln:=jQ.out;rw [List.drop_eq_getElem_cons hjl] at hln;simp only [gm] at hln;generalize l[j]=x at *;obtain⟨l1,rfl,hl1,Tq⟩:=Tn hu;rw [hdr] at HT;simp only [then_assoc] at HT;replace HT:=Z_ (show PO.then (true,ws) ((if k1=2 then (bu (!d)).then ((bu (eH t1 m1 l1.length 0 0 0)).then (ah [kz,t1,aW])) else if k1=3 then rJ (.mk k1 t1 m1 l1) else (bu (decide (k1=4))).then (mY (.mk k1 t1 m1 l1))).then ((iP (l.drop (j+1)) (d || !decide (k1=2))).then (ah [])))=T from HT.out);rw [hl1] at HT;have Vy:=Z_ Tq;have YG:=Z_ (fun u row acc h hm=>HVA.out k1 t1 m1 l1 _ u row acc h hu hm);have HPX:=Z_ (fun u row acc h hm=>LZ.out k1 t1 m1 l1 _ u row acc h hu hm)
     have hvl:=MJ (.mk k1 t1 m1 l1);have hpl:=II (.mk k1 t1 m1 l1);have hsx:=FO (.mk k1 t1 m1 l1);generalize dL (.mk k1 t1 m1 l1)=sx at *;generalize rJ (.mk k1 t1 m1 l1)=vp at *;generalize mY (.mk k1 t1 m1 l1)=pp at *;replace jQ:=Z_ hln;clear hdr hln hu Tq hl1;obtain⟨K,hK⟩:∃ K,wr.heap.size=K:=⟨_,rfl⟩;have HKB:=Z_ (show aJ (wr.alloc (.cells #[.int .i64 k1,.string t1,.int .i64 m1,.slice a1 n1 c1] 24)) K #[.int .i64 k1,.string t1,.int .i64 m1,.slice a1 n1 c1] 24 by rw [←hK];exact aJ.made wr _ _);have DC:=Z_ (show S<K∧∀ i,r.ownBlock=some i→i<K from⟨by rw [←hK];exact HB.out.f.pw.s.lt,fun i e=>by rw [←hK];exact(HB.out.f.pw.own i e).2⟩);replace HB:=Z_ (HB.out.extend ((aB.refl (fun _=>False) wr).alloc (.cells #[.int .i64 k1,.string t1,.int .i64 m1,.slice a1 n1 c1] 24)))
     go_upto_region 7 with (fail)
     try rw [hK]
     generalize wr.alloc (.cells #[.int .i64 k1,.string t1,.int .i64 m1,.slice a1 n1 c1] 24)=u5 at *;clear q0 q1 q2 q3 hK;by_cases k2:k1=2
     ·
      subst k2;rw [if_pos rfl] at HT;simp only [then_assoc] at HT;replace HT:=Z_ (show PO.then (true,ws) ((bu (!d)).then ((bu (eH t1 m1 n1 0 0 0)).then ((ah [kz,t1,aW]).then ((iP (l.drop (j+1)) d).then (ah [])))))=T by have h:=HT.out;simp only [decide_true,Bool.not_true,Bool.or_false] at h;exact h);have hkc:=HKB.out.cell;go_wp2_with fail
      clear hkc;refine(gq (!d) _).mono ?_
      rintro e w3 ⟨rfl,rfl⟩;cases d with
      | true=>
       simp only [Bool.not_true,Bool.false_eq_true,if_false] at HT ⊢;go_wp2_with fail
       exact⟨rfl,aG (by rw [←HT.out,eC]) HB.out.f⟩
      | false=>
       simp only [Bool.not_false,if_true] at HT ⊢;rw [dw] at HT;obtain⟨nb,hnb⟩:∃ nb,eH t1 m1 n1 0 0 0=nb:=⟨_,rfl⟩;rw [hnb] at HT;have hkc:=HKB.out.cell;go_wp2_with fail
       clear hkc;have JU:=Z_ (oM 2 m1 t1 a1 n1 c1 0 0 0 _ Vy.out (HV.out.ext HB.out.f.pw.ext) (rC.out.ext HB.out.f.pw.ext));rw [hnb] at JU;clear hnb;refine JU.out.mono ?_
       rintro e w3 ⟨he,jq⟩;replace HB:=Z_ (HB.out.extend jq);clear jq JU;cases nb with
       | false=>
        obtain rfl:e=_:=he;simp only [Bool.false_eq_true,if_false];go_wp2_with fail
        exact⟨rfl,aG (by rw [←HT.out,eC]) HB.out.f⟩
       | true=>
        obtain rfl:e=_:=he;rw [dw] at HT;simp only [if_true];go_wp2_with fail
        refine(bQ HB.out.f.pw [kz,t1,aW] _ rfl 3 rfl (by decide) (by have h9:=jQ.out;simp;omega)).mono ?_
        rintro e w3 ⟨rfl,row3,hF3⟩;replace HB:=Z_ (HB.out.call hF3).assoc;clear hF3;rw [aT] at HT;go_wp2_with fail
        go_roundw
        case rel=>exact⟨j+1,false,_,_,hlt,by go_num,rfl,HT,HB,Z_ (by have h9:=jQ.out;simp;omega)⟩
        case measure=>simp [intOf];omega
     by_cases k3:k1=3
     ·
      subst k3;clear k2;rw [if_neg (by decide),if_pos rfl,show (d || !decide ((3:Int)=2))=true from by simp] at HT;have iz:=Z_ (YG.out _ _ _ HB.out.f.pw (by have h9:=jQ.out;simp;omega));have hkc:=HKB.out.cell;go_wp2_with fail
      clear hkc;refine iz.out.mono ?_
      rintro e w3 ⟨⟨row3,hF3⟩,he⟩;replace HB:=Z_ (HB.out.call hF3).assoc;clear hF3 iz;obtain⟨pb,pw⟩:=vp;cases pb with
      | false=>
       obtain rfl:e=_:=he;simp only [Bool.false_eq_true,if_false];go_wp2_with fail
       exact⟨rfl,aG (by rw [←HT.out,di]) HB.out.f⟩
      | true=>
       obtain rfl:e=_:=he;rw [then_ok] at HT;simp only [if_true]
       try simp only at hvl
       go_wp2_with fail
       go_roundw
       case rel=>exact⟨j+1,true,_,_,hlt,by go_num,rfl,HT,HB,Z_ (by have h9:=jQ.out;simp;omega)⟩
       case measure=>simp [intOf];omega
     rw [if_neg k2,if_neg k3,show (d || !decide (k1=2))=true from by simp [k2]] at HT;simp only [then_assoc] at HT;have b2:(k1 == 2)=false:=beq_eq_false_iff_ne.2 k2;have b3:(k1 == 3)=false:=beq_eq_false_iff_ne.2 k3;clear k2 k3;have hkc:=HKB.out.cell;go_wp2_with fail
     clear hkc b2 b3;refine(gq (decide (k1=4)) _).mono ?_
     rintro e w3 ⟨rfl,rfl⟩;cases hpc:decide (k1=4) with
     | false=>
      rw [hpc] at HT;simp only [Bool.false_eq_true,if_false];go_wp2_with fail
      exact⟨rfl,aG (by rw [←HT.out,eC]) HB.out.f⟩
     | true=>
      rw [hpc,dw] at HT;simp only [if_true];clear hpc;have iz:=Z_ (HPX.out _ _ _ HB.out.f.pw (by have h9:=jQ.out;simp;omega));have hkc:=HKB.out.cell;go_wp2_with fail
      clear hkc;refine iz.out.mono ?_
      rintro e w3 ⟨⟨row3,hF3⟩,he⟩;replace HB:=Z_ (HB.out.call hF3).assoc;clear hF3 iz;obtain⟨pb,pw⟩:=pp;cases pb with
      | false=>
       obtain rfl:e=_:=he;simp only [Bool.false_eq_true,if_false];go_wp2_with fail
       exact⟨rfl,aG (by rw [←HT.out,di]) HB.out.f⟩
      | true=>
       obtain rfl:e=_:=he;rw [then_ok] at HT;simp only [if_true]
       try simp only at hpl
       go_wp2_with fail
       go_roundw
       case rel=>exact⟨j+1,true,_,_,hlt,by go_num,rfl,HT,HB,Z_ (by have h9:=jQ.out;simp;omega)⟩
       case measure=>simp [intOf];omega
    ·obtain rfl:j=N:=by omega
     have hjd:decide ((j:Int)<(j:Int))=false:=by simp
     have hdn:l.drop j=[]:=List.drop_eq_nil_of_le (by rw [HN.out];exact Nat.le_refl _);rw [hdn,iP,aT] at HT;replace HB:=Z_ HB.out.nil;rw [List.append_assoc] at HB;go_wp2_with fail
     go_end0
     exact eU (by rw [←HT.out,fH]) HB.out.f
end prt
end Go.Proofs.YtpcihajmcejliacGreatDoor
namespace Go.Proofs.YtpcihajmcejliacGreatDoor
open Go.RowKit
namespace prt
open bH
theorem VA (v:Value) (w:World):(Instr.typeAssert (.iface 113 v) 20 113 true).run Tryz.prog w=.ok (.tuple #[v,.bool true]) w:=by kernel_rfl
def Tt (R F:Nat) (w:World) (e:Exit) (a:Act) (w':World):Prop:=e=.normal∧a.defers=[]∧aJ w' R #[.string aF] 9∧aJ w' F #[.int .i64 2] 25∧aB (fun i=>i=R∨i=F) w w'
set_option maxRecDepth 100000 in
set_option maxHeartbeats 4000000 in
theorem IQ (R F:Nat) (c0 f0:Value) (w:World) (hR:aJ w R #[c0] 9) (hF:aJ w F #[f0] 25) (hne:R≠F) :
  CallsD Tryz.prog 50 #[.pointer (some ⟨R,0,none⟩),.pointer (some ⟨F,0,none⟩)] (.panicking Ej) w fun e u' w'=>
   e=.returned (.tuple #[])∧u'=.panicking [{ v:=.iface 113 (.agg #[]),recovered:=true }]∧aJ w' R #[.string aF] 9∧aJ w' F #[.int .i64 2] 25∧aB (fun i=>i=R∨i=F) w w':=by
 have hta:=VA;have JL:=hR.lt;have JM:=hF.lt;obtain⟨B,hB⟩:∃ B,w.heap.size=B:=⟨_,rfl⟩;have hR0:=hR.alloc (.cells #[] 113);have oO:=hF.alloc (.cells #[] 113);have uQ:=(aB.refl (fun i=>i=R∨i=F) w).alloc (.cells #[] 113);refine callsD_of_wpS Tryz.func50 rfl fun c₀ cs hu=>?_
 unfold Ej at hu;apply wpS_seq
 apply wpS_region
 simp [wpOpsS,go_sem,recoverD,hu,Tryz.ntmps50,Exit.thenS]
 simp only [Array.replicate,List.replicate,List.append_toArray,List.setIfInBounds_toArray,List.set_cons_zero,List.set_cons_succ,List.cons_append,List.nil_append];refine wpS_of_wp (Code.wp_mono (Q:=Tt R F w) ?_ ?_)
 ·rintro e a w1 ⟨rfl,hd,h1,h2,h3⟩
  exact⟨hd,_,rfl,_,results_none rfl _ _ _,rfl,rfl,h1,h2,h3⟩
 clear hu;have HR0:=Z_ hR0;have vP:=Z_ oO;have HX0:=Z_ uQ;clear hR hF hR0 oO uQ;unfold Tt;go_upto_region 7 with (fail)
 try rw [hB]
 generalize w.alloc (.cells #[] 113)=u0 at *;have hR1:=HR0.out.set 0 (.string aF);have hF1:=vP.out.setOther (p:=⟨R,0,none⟩) (fun e=>hne e.symm) (.string aF);have hX1:=HX0.out.setCell (p:=⟨R,0,none⟩) (fun _=>.inl rfl) (.string aF);have hR2:=hR1.setOther (p:=⟨F,0,none⟩) hne (.int .i64 2);have hF2:=hF1.set 0 (.int .i64 2);have Hq:=hX1.setCell (p:=⟨F,0,none⟩) (fun _=>.inr rfl) (.int .i64 2);have HH:=Z_ (And.intro hR2 (And.intro hF2 Hq));have a1:=HR0.out.cell;have a2:=HR0.out.frozen;have a3:=HR0.out.lt;have b1:=vP.out.cell;have b2:=vP.out.frozen;have b3:=vP.out.lt;clear hR1 hF1 hX1 hR2 hF2 Hq;go_wp2_with (fail)
 exact HH.out
theorem CB (R F:Nat) (w:World) :
  CallsD Tryz.prog 50 #[.pointer (some ⟨R,0,none⟩),.pointer (some ⟨F,0,none⟩)] .returning w fun e u' w'=>e=.returned (.tuple #[])∧u'=.returning∧w'=w:=by
 refine callsD_of_wpS Tryz.func50 rfl fun c₀ cs hu=>?_
 apply wpS_seq
 apply wpS_region
 simp [wpOpsS,go_sem,recoverD,hu,Tryz.ntmps50,Exit.thenS]
 simp only [Array.replicate,List.replicate,List.append_toArray,List.setIfInBounds_toArray,List.set_cons_zero,List.set_cons_succ,List.cons_append,List.nil_append];refine wpS_of_wp (Code.wp_mono (Q:=fun e a' w'=>e=.normal∧a'.defers=[]∧w'=w) ?_ ?_)
 ·rintro e a w1 ⟨rfl,hd,rfl⟩
  exact⟨hd,.returning,by cases c₀;simp_all,_,results_none rfl _ _ _,rfl,rfl,rfl⟩
 clear hu;go_wp2_with (fail)
end prt
end Go.Proofs.YtpcihajmcejliacGreatDoor
