/- Which module is ready. The order by what modules import. Whether a program may begin with one of these procedures. Look's recover: trouble is told. The row of declarations while it grows; what Look comes to. The program while it is made: where its parts lie. -/
import Derived.WalkMore
import Derived.Deep.LoopGhost
import Derived.Test.YtpcihajmcejliacGreatDoorSyn4o
import Derived.Test.YtpcihajmcejliacGreatDoorOrdMo
import Derived.Test.YtpcihajmcejliacGreatDoorOfKo
import Derived.Test.YtpcihajmcejliacGreatDoorOfCo
namespace Go.Proofs.YtpcihajmcejliacGreatDoor
open Go.RowKit Go.WideMaps Go.Maps
namespace ord
open bu cG jf
theorem Am {w:World} {b:Nat} {L:List (ByteArray×Int)} (h:iQ w b L) {s:ByteArray} (hs:s.size≤maxLen) :
  (Instr.lookup 126 (.map (some b)) (.string s) false).run Tryz.prog w=.ok (.int .i64 ((dD L s).getD 0)) w:=by
 obtain⟨D,hown,-,h2⟩:=h;have hkey:=keyOf_string_mk (P:=Tryz.prog) (k:=9) Tryz.underlying9 hs;obtain⟨c,hrun,hat,-⟩:=hown.lookup_int (t:=126) keyed Tryz.underlying126 Tryz.underlying3 (Qp w) hkey;rw [(h2 s).2 c hat] at hrun;exact hrun
def uN (w:World) (b o:Nat) (D:Nat):Prop:=w.cell? ⟨b,o,none⟩=some (.pointer (some ⟨D,0,none⟩))
structure vG (M M':Nat→Bool) (w w':World):Prop where
 size:w.heap.size≤w'.heap.size
 same:∀ i,i<w.heap.size→M i=false→M' i=false∧w'.heap[i]? = w.heap[i]?
theorem vG.keeps {M M':Nat→Bool} {w w':World} (h:vG M M' w w'):bV (hide M w) (hide M' w'):=aT h.size h.same
theorem vG.aK {M:Nat→Bool} {w w':World} {S:Nat→Prop} (h:aB S w w') (hS:∀ i,S i→M i=true):vG M M w w':=
 ⟨h.size,fun i hi hm=>⟨hm,h.block i hi fun e=>by rw [hS i e] at hm;cases hm⟩⟩
structure n_ (M:Nat→Bool) (w:World) (D:Nat) (s:ByteArray):Prop where
 ex:∃ a1 c1 a2 c2 a3 c3 d3 d4 d5 d6 Ma A,(M D=false∧aC w D #[.string (iz s),.slice a1 (dP (aJ s).1.kids).length c1,.slice a2 (aP (aJ s).1.kids).length c2,d3,d4,d5,d6,.slice a3 (ig s).length c3,.map (some Ma)] 128)∧(M Ma=false∧iQ w Ma A)∧
  bC 4 gy (hide M w) a1 (dP (aJ s).1.kids)∧bC 6 dB (hide M w) a2 (aP (aJ s).1.kids)∧kJ 1 jo (ig s) (.slice a3 (ig s).length c3) (hide M w)∧
  ((dP (aJ s).1.kids).length≤c1∧c1≤maxLen∧(aP (aJ s).1.kids).length≤c2∧c2≤maxLen)∧(dP (aJ s).1.kids).length≤1000∧(aP (aJ s).1.kids).length≤1000∧(iz s).size≤10000∧∀ y∈(aJ s).1.kids,y.tx.size≤10000
theorem LR {M M':Nat→Bool} {w w':World} (h:vG M M' w w') {b:Nat} (hb:M b=false) {L:List (ByteArray×Int)} (hL:iQ w b L):M' b=false∧iQ w' b L:=by
 have h1:=h.same b hL.lt hb;obtain⟨D,⟨es,clock,hh,F,hs,hD⟩,h2⟩:=hL;exact⟨h1.1,D,⟨es,clock,h1.2.trans hh,F,hs,hD⟩,h2⟩
theorem n_.sure {M M':Nat→Bool} {w w':World} (h:vG M M' w w') {D:Nat} {s:ByteArray} (hD:n_ M w D s):n_ M' w' D s:=by
 obtain⟨a1,c1,a2,c2,a3,c3,d3,d4,d5,d6,Ma,A,⟨m1,b1⟩,⟨m2,b2⟩,h3,h4,⟨a9,c9,e9,q1,q2,q3⟩,h6⟩:=hD.ex;have k1:=h.same D b1.lt m1;exact⟨a1,c1,a2,c2,a3,c3,d3,d4,d5,d6,Ma,A,⟨k1.1,k1.2.trans b1⟩,LR h m2 b2,h3.keeps h.keeps fun _ _ _=>gy.keeps h.keeps,h4.keeps h.keeps fun _ _ _=>dB.keeps h.keeps,⟨a9,c9,e9,q1,q2,q3.keeps h.keeps fun b o y hy=>⟨h.keeps.2 _ _ hy.1,hy.2⟩⟩,h6⟩
theorem Ti {w0 w':World} {s:ByteArray} {e:Ending} (h:J4.lJ w0 (jg s) (aJ s).1 e w') (h0:(jg s).2.2.1=0):∃ D,e=.returned (.tuple #[.pointer (some ⟨D,0,none⟩),.agg #[.int .i64 0,.int .i64 (jg s).2.2.2]])∧n_ (below w0.heap.size) w' D s:=by
 obtain⟨hE,vp,he,hx⟩:=h;obtain⟨D,a1,c1,a2,c2,a3,c3,d3,d4,d5,d6,d8,rfl,-,k3,k4,k5,k6,k7,k8,k9,k10,k11,Ma,A,rfl,k13,k14,k15,-⟩:=hx h0;have hb:∀ i,w0.heap.size≤i→below w0.heap.size i=false:=fun i hi=>by unfold below;rw [decide_eq_false_iff_not];omega
 exact⟨D,by rw [he,h0],a1,c1,a2,c2,a3,c3,d3,d4,d5,d6,Ma,A,⟨hb _ k15,k4⟩,⟨hb _ k14,k13⟩,k5,k6,k7,k3,k8,k9,k10,k11⟩
theorem IE {s t:ByteArray} (h:∀ y∈(aJ s).1.kids,y.tx.size≤10000) (ht:t∈ig s):t.size≤maxLen:=by
 unfold ig dK at ht;obtain⟨y,hy,rfl⟩:=List.mem_map.1 ht;have:=h y (List.mem_filter.1 hy).1;unfold maxLen;omega
theorem LU {l:List ByteArray} {k:Nat} {f:ByteArray→Bool} (h:k<l.length):(l.drop k).all f=(f l[k]&&(l.drop (k+1)).all f):=by
 rw [List.drop_eq_getElem_cons h,List.all_cons]
set_option maxRecDepth 100000 in
set_option maxHeartbeats 4000000 in
theorem IG {M:Nat→Bool} {w:World} {Lb Ob Nb Nm n nc k oc:Nat} {la oa:Option Addr} {Ds:List Nat} {ts:List ByteArray} {L:List (ByteArray×Int)} {out:List Int} (i:Nat) (hi:i<ts.length) (hD:Ds.length=ts.length) (hn:ts.length=n)
  (hL:aC w Lb #[.slice la n nc] 234) (hla:bC 1 uN w la Ds) (hdec:n_ M w (Ds[i]'(by omega)) ts[i]) (hO:aC w Ob #[.slice oa k oc] 46) (hoa:bC 1 dJ w oa out) (hk:out.length=k) (hk6:k≤100) (hN:aC w Nb #[.map (some Nm)] 126) (Oa:iQ w Nm L) :
  Calls Tryz.prog 189 #[.int .i64 (i:Nat),.pointer (some ⟨Lb,0,none⟩),.pointer (some ⟨Ob,0,none⟩),.pointer (some ⟨Nb,0,none⟩)] w fun e w'=>e=.returned (.bool (nK L ts out i))∧Ext w w':=by
 obtain⟨R,hR⟩:∃ R,nK L ts out i=R:=⟨_,rfl⟩;rw [hR];obtain⟨b,o,rfl,hb,hp⟩:=hla i (by omega);have hgd:ts.getD i ⟨#[]⟩=ts[i]:=by rw [List.getD_eq_getElem?_getD,List.getElem?_eq_getElem hi];rfl
 unfold nK at hR;rw [hgd] at hR;obtain⟨D,hDq⟩:∃ D,Ds[i]'(by omega)=D:=⟨_,rfl⟩;have hpc:w.cell? ⟨b,o+i,none⟩=some (.pointer (some ⟨D,0,none⟩)):=by have h:=hp;unfold uN at h;rw [Nat.mul_one] at h;rw [h];congr
 rw [hDq] at hdec;generalize ts[i]=s at *;obtain⟨a1,c1,a2,c2,a3,c3,d3,d4,d5,d6,Ma,A,⟨m1,b1⟩,-,-,-,⟨a9,c9,e9,q1,q2,q3⟩,-,-,-,-,hsm⟩:=hdec.ex;cases e9
 have hin:(i:Int)<(n:Int):=by omega
 have hin0:(0:Int)≤(i:Int):=by omega
 obtain⟨N,hNl⟩:∃ N,(ig s).length=N:=⟨_,rfl⟩;rw [hNl] at b1 q1;have ag8:N≤9223372036854775807:=by unfold maxLen at q2;omega
 have Jp:=Z_ hNl;have HI:=Z_ (q3.keeps (ah M w) fun b o y hy=>⟨(ah M w).2 _ _ hy.1,hy.2⟩:bC 1 jo w a3 (ig s));have MV:=Z_ (fun t (ht:t∈ig s)=>IE hsm ht);have HO:=Z_ hO;have HOA:=Z_ hoa;have HN:=Z_ hN;have HM:=Z_ Oa;have HK:=Z_ hk;have HR:=Z_ hR;have hl0:=hL.cell;have hd0:=b1.cell;have hdl:=b1.lt;have hC:=Z_ (fun (u:World) (hE:Ext w u) (x:Int)=>qV oa out k oc x u hk hk6 (hoa.keeps (Ext.keeps hE) fun b o y hy=>(Ext.keeps hE).2 _ _ hy));clear hoa hO hN Oa hk hR hNl q3 hsm hla hdec hp hgd hD hDq hn hL b1 m1 hi;go_enter Tryz.func189,Tryz.ntmps189
 go_wp2_with fail
 have vZ:=Z_ (show N≤9223372036854775807 from ag8);clear hl0 hd0 hdl hpc;go_loopw [16] (fun x wr=>∃ q:Nat,q≤N∧x=.int .i64 q∧Ext w wr∧Hid ((((ig s).drop q).all (fun t=>inB out ((dD L t).getD 0)) && !inB out (i:Int))=R)) (fun x _=>N-(intOf x).toNat)
 case atStart=>exact⟨0,Nat.zero_le _,rfl,aB.refl _ _,HR⟩
 case round=>
  obtain⟨q,hq,rfl,hE,hr⟩:=hrel;have hob:=(HO.out.ext hE).cell;have hnb:=(HN.out.ext hE).cell;by_cases hlt:q<N
  ·have kW:q<(ig s).length:=by rw [Jp.out];exact hlt
   have hqi:(q:Int)<(N:Int):=by omega
   obtain⟨b2,o2,rfl,hb2,hst⟩:=(HI.out.keeps (Ext.keeps hE) fun b o y hy=>⟨(Ext.keeps hE).2 _ _ hy.1,hy.2⟩) q kW;have hsz:=MV.out _ (List.getElem_mem kW);have hr2:=hr.out;rw [LU kW] at hr2;have hst2:wr.cell? ⟨b2,o2+q,none⟩=some (.string (ig s)[q]):=by have h:=hst.1;rw [Nat.mul_one] at h;exact h
   generalize (ig s)[q]=t at *;have hlook:=Am (HM.out.aK hE id) hsz;obtain⟨c,hc⟩:∃ c,(dD L t).getD 0=c:=⟨_,rfl⟩;rw [hc] at hlook hr2;have HC2:=Z_ (hC.out wr hE c);rw [show (out.any fun x=>decide (c=x))=inB out c from rfl] at HC2;obtain⟨B,hB⟩:∃ B,inB out c=B:=⟨_,rfl⟩;rw [hB] at HC2 hr2;have HR2:=Z_ hr2;have HE:=Z_ hE;clear hr hr2 hst hc hB hE hsz;go_wp2_with fail
   refine HC2.out.mono ?_
   rintro e w2 ⟨rfl,hE2⟩;have lG:=Z_ (HE.out.ext hE2);clear hob hnb hst2 hlook hE2;cases B with
   | true=>
    have HR3:=Z_ (show (((ig s).drop (q+1)).all (fun t=>inB out ((dD L t).getD 0)) && !inB out (i:Int))=R by have:=HR2.out;simpa using this);clear HR2;go_wp2_with fail
    go_roundw
    case rel=>exact⟨q+1,by omega,by go_num,lG.out,HR3⟩
    case measure=>simp [intOf];omega
   | false=>
    have HR3:=Z_ (show R=false by have:=HR2.out;simpa using this.symm);clear HR2;go_wp2_with fail
    go_ret
    rw [HR3.out];exact⟨rfl,lG.out⟩
  ·obtain rfl:q=N:=by omega
   have hnl:¬ ((q:Int)<(q:Int)):=by omega
   have HR2:=Z_ (show (!inB out (i:Int))=R by have h:=hr.out;rw [List.drop_of_length_le (by rw [Jp.out];exact Nat.le_refl _)] at h;simpa using h);have HC2:=Z_ (hC.out wr hE (i:Int));rw [show (out.any fun x=>decide ((i:Int)=x))=inB out (i:Int) from rfl] at HC2;generalize inB out (i:Int)=B at *;have HE:=Z_ hE;clear hr hE;go_wp2_with fail
   refine HC2.out.mono ?_
   rintro e w2 ⟨rfl,hE2⟩;have lG:=Z_ (HE.out.ext hE2);go_wp2_with fail
   go_ret
   exact⟨by rw [←HR2.out];rfl,lG.out⟩
end ord
end Go.Proofs.YtpcihajmcejliacGreatDoor
namespace Go.Proofs.YtpcihajmcejliacGreatDoor
open Go.RowKit Go.WideMaps Go.Maps
namespace ord
open bu cG jf
theorem BF:∀ (n:Nat) (out:List Int),(∀ i:Nat,i<n→(i:Int)∈out)→n≤out.length:=by
 intro n;induction n with
 | zero=>intro out _;exact Nat.zero_le _
 | succ n ih=>
  intro out h;have h1:=h n (by omega);have h2:=ih (out.erase (n:Int)) fun i hi=>(List.mem_erase_of_ne (by omega)).2 (h i (by omega))
  rw [List.length_erase_of_mem h1] at h2;have h3:0<out.length:=List.length_pos_of_mem h1;omega
theorem Kv {out:List Int} {x:Int} (h:inB out x=true):x∈out:=by
 unfold inB at h;obtain⟨y,hy,e⟩:=List.any_eq_true.1 h;obtain rfl:x=y:=by simpa using e
 exact hy
theorem yL {out:List Int}:∀ (k i:Nat),lC out k i=none→∀ j,i≤j→j<i+k→(j:Int)∈out:=by
 intro k;induction k with
 | zero=>intro i _ j h1 h2;omega
 | succ k ih=>
  intro i h j h1 h2;unfold lC at h;by_cases hi:inB out i=true
  ·rw [if_pos hi] at h
   by_cases e:j=i
   ·subst e;exact Kv hi
   ·exact ih (i+1) h j (by omega) (by omega)
  ·rw [if_neg hi] at h;cases h
theorem _root_.Go.Proofs.YtpcihajmcejliacGreatDoor.Grow.uz {α:Type} {k:Nat} {E:TypeId} {V:α→Value→World→Prop} {B:Nat} {w:World} {row:Value} {acc:List α} (h:Grow k E V B w row acc) {i:Nat} (e:row.ownBlock=some i):B≤i∧i<w.heap.size:=by
 obtain⟨us,_,ho,_⟩:=h.ex
 exact World.ownsRow.lt ho i e
theorem Di {B:Nat} {w:World} {row:Value} {out:List Int} (h:Grow 1 3 CE B w row out):∃ a c,row=.slice a out.length c∧bC 1 dJ w a out:=by
 obtain⟨a,c,e,-,-,h3⟩:=h.row gK xC;exact⟨a,c,e,h3.keeps (ah _ _) fun b o y hy=>(ah _ _).2 _ _ hy⟩
theorem II {L:List (ByteArray×Int)} {ts:List ByteArray} {out:List Int} {n q:Nat} (h:q<n):lT L ts out (n-q) q=if nK L ts out q=true then some q else lT L ts out (n-(q+1)) (q+1):=by
 rw [show n-q=(n-(q+1))+1 by omega,lT]
theorem IJ {out:List Int} {n q:Nat} (h:q<n):lC out (n-q) q=if inB out q=true then lC out (n-(q+1)) (q+1) else some q:=by
 rw [show n-q=(n-(q+1))+1 by omega,lC]
theorem zeroS (w:World):(zeroValue 46).run Tryz.prog w=.ok (.slice none 0 0) w:=by kernel_rfl
theorem IK {B A:Nat} {w:World} {row:Value} {out:List Int} (h:Grow 1 3 CE B w row out) (hA:A≤B):∃ a c,row=.slice a out.length c∧bC 1 dJ (hide (below A) w) a out:=by
 obtain⟨a,c,e,-,-,h3⟩:=h.row gK xC;refine⟨a,c,e,h3.keeps (aT (Nat.le_refl _) fun i hi hm=>⟨by simp [below] at hm ⊢;omega,rfl⟩) fun b o y hy=>?_⟩
 exact(aT (M:=below B) (M':=below A) (Nat.le_refl _) fun i hi hm=>⟨by simp [below] at hm ⊢;omega,rfl⟩).2 _ _ hy
def IL (w:World) (T:qP (List Int)) (e:Ending) (w':World):Prop:=Ext w w'∧match T with
 | .ok O=>∃ a c,e=.returned (.slice a O.length c)∧bC 1 dJ (hide (below w.heap.size) w') a O
 | .no m c=>e=.panicked (tq m c 0)
set_option maxRecDepth 100000 in
set_option maxHeartbeats 8000000 in
theorem IB {M:Nat→Bool} {w:World} {Nm n nc:Nat} {la:Option Addr} {Ds:List Nat} {ts:List ByteArray} {L:List (ByteArray×Int)} (hD:Ds.length=ts.length) (hn:ts.length=n) (hn6:n≤6)
  (hla:bC 1 uN w la Ds) (hdec:∀ (j:Nat) (h:j<ts.length),n_ M w (Ds[j]'(by omega)) ts[j]) (Oa:iQ w Nm L) :
  Calls Tryz.prog 118 #[.slice la n nc,.map (some Nm)] w (IL w (iC L ts n [])):=by
 obtain⟨T,hT⟩:∃ T,iC L ts n []=T:=⟨_,rfl⟩;rw [hT];have HT:=Z_ hT;obtain⟨Lb,hLb⟩:∃ Lb,w.heap.size=Lb:=⟨_,rfl⟩;have hE0:=(((aB.refl (fun _=>False) w).alloc (.cells #[.slice la n nc] 234)).alloc (.cells #[.map (some Nm)] 126)).alloc (.cells #[.slice none 0 0] 46);have hL0:=((aC.made w #[.slice la n nc] 234).alloc (.cells #[.map (some Nm)] 126)).alloc (.cells #[.slice none 0 0] 46);have hN0:=(aC.made2 w (.cells #[.slice la n nc] 234) #[.map (some Nm)] 126).alloc (.cells #[.slice none 0 0] 46);have hO0:=aC.made ((w.alloc (.cells #[.slice la n nc] 234)).alloc (.cells #[.map (some Nm)] 126)) #[.slice none 0 0] 46;rw [show ((w.alloc (.cells #[.slice la n nc] 234)).alloc (.cells #[.map (some Nm)] 126)).heap.size=Lb+1+1 by simp [hLb]] at hO0
 rw [hLb] at hL0 hN0;have HN:=Z_ hn;have HDL:=Z_ hD;have HLA:=Z_ hla;have ag9:=Z_ hdec;have Nw:=Z_ Oa;have SK:=Z_ hLb;have HE0:=Z_ hE0;have HL0:=Z_ hL0;have U3:=Z_ hN0;have HO0:=Z_ hO0;clear hT hla hdec Oa hE0 hL0 hN0 hO0;have hz:=zeroS;go_enter Tryz.func118,Tryz.ntmps118
 go_wp2_with fail
 go_step3
 go_wp2_with fail
 go_step3
 go_wp2_with fail
 try rw [hLb]
 clear hLb;generalize ((w.alloc (.cells #[.slice la n nc] 234)).alloc (.cells #[.map (some Nm)] 126)).alloc (.cells #[.slice none 0 0] 46)=u0 at *;go_loopg [] n (fun f wr=>∃ (k:Nat) (oa:Option Addr) (oc:Nat) (out:List Int),out.length=k∧k+f=n∧Hid (Ext w wr)∧Hid (aC wr Lb #[.slice la n nc] 234)∧Hid (aC wr (Lb+1) #[.map (some Nm)] 126)∧Hid (aC wr (Lb+1+1) #[.slice oa k oc] 46)∧Hid (Grow 1 3 CE (Lb+1+1+1) wr (.slice oa k oc) out)∧Hid (iC L ts f out=T))
 case atStart=>exact⟨0,none,0,[],rfl,by omega,HE0,HL0,U3,HO0,Z_ (Grow.nil _ _ _ _ _),HT⟩
 case round=>
  obtain⟨k,oa,oc,out,hk,hkf,hE,hL,hN1,hO,hG,hT⟩:=hrel;have h1:=hL.out.cell;have h2:=hO.out.cell;cases gk with
  | zero=>
   obtain rfl:k=n:=by omega
   have hnl:¬ ((k:Int)<(k:Int)):=by omega
   have ru:=Z_ (show T=.ok out from hT.out.symm);clear hT;go_wp2_with fail
   try rw [Exit.noGoto_ret]
   go_ret
   rw [ru.out];obtain⟨a9,c9,e9,h9⟩:=IK (A:=w.heap.size) hG.out (by have:=SK.out;omega);exact⟨hE.out,a9,c9,congrArg _ e9,h9⟩
  | succ m=>
   have hlt:(k:Int)<(n:Int):=by omega
   have hTT:=hT.out;rw [iC,HN.out] at hTT;have ru:=Z_ hTT;clear hT hTT;go_wp2_with fail
   obtain⟨wo,hwo⟩:∃ wo,wo=wr:=⟨_,rfl⟩;subst hwo;obtain⟨P,hP⟩:∃ P,lT L ts out n 0=P:=⟨_,rfl⟩;rw [hP] at ru;have HP:=Z_ (show lT L ts out (n-0) 0=P from hP);clear hP h1 h2;go_loopw [17] (fun x wr=>∃ q:Nat,q≤n∧x=.int .i64 q∧Hid (Ext wo wr)∧Hid (lT L ts out (n-q) q=P)) (fun x _=>n-(intOf x).toNat)
   case atStart=>exact⟨0,Nat.zero_le _,rfl,Z_ (aB.refl _ _),HP⟩
   case round=>
    obtain⟨q,hq,rfl,hE2,hpk⟩:=hrel;have HL2:=Z_ (hL.out.ext hE2.out);have Ut:=Z_ (hN1.out.ext hE2.out);have Gv:=Z_ (hO.out.ext hE2.out);have HG2:=Z_ (hG.out.aK gK hE2.out fun _ h=>h.elim);have rS:=Z_ (hE.out.ext hE2.out);have h1:=HL2.out.cell;have h2:=Gv.out.cell;by_cases hlt2:q<n
    ·have hqi:(q:Int)<(n:Int):=by omega
     have hpk2:=hpk.out;rw [II hlt2] at hpk2;obtain⟨a9,c9,e9,h9⟩:=Di HG2.out;cases e9
     have HRD:=Z_ (IG (Lb:=Lb) (Ob:=Lb+1+1) (Nb:=Lb+1) (Nm:=Nm) (M:=M) (w:=wr) (la:=la) (nc:=nc) (n:=n) (oa:=oa) (oc:=oc) (k:=out.length) (Ds:=Ds) (ts:=ts) (L:=L) (out:=out) q (by rw [HN.out];exact hlt2) hD hn HL2.out (HLA.out.keeps (Ext.keeps rS.out) fun b o y hy=>(Ext.keeps rS.out).2 _ _ hy) ((ag9.out q (by rw [HN.out];exact hlt2)).sure (vG.aK rS.out fun _ h=>h.elim)) Gv.out h9 rfl (by omega) Ut.out (Nw.out.aK rS.out id));obtain⟨R,hR⟩:∃ R,nK L ts out q=R:=⟨_,rfl⟩;rw [hR] at HRD hpk2;have HPK:=Z_ hpk2;clear hpk hpk2 h9 hR;go_wp2_with fail
     refine HRD.out.mono ?_
     rintro e w2 ⟨rfl,rU⟩;have U2:=Z_ (HL2.out.ext rU);have HN3:=Z_ (Ut.out.ext rU);have Vf:=Z_ (Gv.out.ext rU);have I8:=Z_ (HG2.out.aK gK rU fun _ h=>h.elim);have HX3:=Z_ (rS.out.ext rU);have qW:=Z_ (hE2.out.ext rU);clear h1 h2 rU HRD HL2 Ut Gv HG2 rS hE2;cases R with
     | false=>
      have ag_:=Z_ (show lT L ts out (n-(q+1)) (q+1)=P by have h:=HPK.out;simpa using h);clear HPK;go_wp2_with fail
      go_roundw
      case rel=>exact⟨q+1,by omega,by go_num,qW,ag_⟩
      case measure=>simp [intOf];omega
     | true=>
      have HPQ:=Z_ (show P=some q by have h:=HPK.out;simpa using h.symm);have HT4:=Z_ (show iC L ts m (out ++ [(q:Int)])=T by have h:=ru.out;rw [HPQ.out] at h;exact h);clear HPK;have h2:=Vf.out.cell;have h2f:=Vf.out.frozen;have h2l:=Vf.out.lt;have hAl:=(aB.refl (fun _=>False) w2).alloc (.cells #[.int .i64 (q:Nat)] 3);obtain⟨us,hu1,ho,hu3⟩:=I8.out.ex;have HU:=Z_ (And.intro hu1 hu3);have HHO:=Z_ (ho.alloc (.cells #[.int .i64 (q:Nat)] 3));have XW:=(aC.made w2 #[.int .i64 (q:Nat)] 3);have Qr:=Z_ XW;have HAL:=Z_ hAl;have hw2:Lb+1+1+1≤w2.heap.size:=h2l;clear hu1 hu3 ho hAl XW;obtain⟨iW,iY,hz0,hz1,hz2⟩:=aW CM;go_wp2_with (at_builtin;refine wpList_append_lies _ rfl _ _ 46 rfl (Lb+1+1+1) 3 iW (.int .i64 0) 1 8 Tryz.underlying46 iY hz0 hz1 hz2 rfl (by decide) (.slice oa out.length oc) out.length (us.flatMap fun u=>u.cells.toList) rfl HHO.out ⟨w2.heap.size,0,none⟩ 1 1 [.int .i64 (q:Nat)] rfl rfl (by intro j_ z_ hj;have e:(⟨w2.heap.size,0,none⟩:Addr).add j_=⟨w2.heap.size,j_,none⟩:=(by unfold Addr.add;split<;>simp_all);rw [e,Qr.out.cell];simpa using hj) (by intro q_ LJ;simp only [List.mem_cons,List.not_mem_nil,or_false] at LJ;subst LJ;rfl) (by decide) (by unfold maxLen;omega) (by omega) (by simp;omega) (w2.heap.size+1) (by simp) ?_;intro g9 c9 w9 hown hgrow hat hlt1;have qH:=Z_ (oM (o:=.cells #[.int .i64 (q:Nat)] 3) gK HU.out.1 HU.out.2 (x:=(q:Int)) (v:=.int .i64 (q:Nat)) rfl rfl hown hgrow hat);have Va:=Z_ (Vf.out.aK qH.out.2 (fun e=>by have:=(I8.out.uz e).1;omega));have q1:=Va.out.cell;have PS:=Va.out.frozen;have PT:=Va.out.lt;clear hown hgrow hat h2 h2f h2l)
      have JR:=ai (S:=Lb+1+1) (aB.refl _ w9) 0 (.slice (some ⟨g9,0,none⟩) (out.length+1) c9);have ZH:=SK.out;have hxe:=(HX3.out.trans qH.out.2 (fun i hi e=>by have:=(I8.out.uz e).1;omega)).trans JR (fun i hi e=>by omega);have hLe:=(U2.out.aK qH.out.2 (fun e=>by have:=(I8.out.uz e).1;omega)).aK JR (by omega);have hNe:=(HN3.out.aK qH.out.2 (fun e=>by have:=(I8.out.uz e).1;omega)).aK JR (by omega);have hOe:=Va.out.set 0 (.slice (some ⟨g9,0,none⟩) (out.length+1) c9);have hGe:=qH.out.1.aK gK JR (fun i e=>by omega);go_roundg m
      case rel=>exact⟨out.length+1,some ⟨g9,0,none⟩,c9,out ++ [(q:Int)],by simp,by omega,Z_ hxe,Z_ hLe,Z_ hNe,Z_ hOe,Z_ hGe,HT4⟩
      case measure=>omega
    ·obtain rfl:q=n:=by omega
     have hnl:¬ ((q:Int)<(q:Int)):=by omega
     have hPn:P=none:=by have h:=hpk.out;rw [Nat.sub_self] at h;exact h.symm
     subst hPn;go_wp2_with fail
     have Wl:=Z_ (show (match lC out q 0 with|some i=>qP.no i 3|none=>.ok out)=T from ru.out);obtain⟨Z,hZ⟩:∃ Z,lC out q 0=Z:=⟨_,rfl⟩;rw [hZ] at Wl;have HZ:=Z_ (show lC out (q-0) 0=Z from hZ);have Tf:=Z_ hZ;clear hZ ru;obtain⟨wp,hwp⟩:∃ wp,wp=wr:=⟨_,rfl⟩;subst hwp;clear h1 h2;go_loopw [30] (fun x wr=>∃ r:Nat,r≤q∧x=.int .i64 r∧Hid (Ext wp wr)∧Hid (lC out (q-r) r=Z)) (fun x _=>q-(intOf x).toNat)
     case atStart=>exact⟨0,Nat.zero_le _,rfl,Z_ (aB.refl _ _),HZ⟩
     case round=>
      obtain⟨p,hp,rfl,vJ,hms⟩:=hrel;have HO4:=Z_ (Gv.out.ext vJ.out);have HG4:=Z_ (HG2.out.aK gK vJ.out fun _ h=>h.elim);have UR:=Z_ (rS.out.ext vJ.out);have h2:=HO4.out.cell;by_cases hlt3:p<q
      ·have hpi:(p:Int)<(q:Int):=by omega
       have Pg:=hms.out;rw [IJ hlt3] at Pg;obtain⟨a9,c9,e9,h9⟩:=Di HG4.out;cases e9
       have HCN:=Z_ (qV oa out out.length oc (p:Int) wr rfl (by omega) h9);rw [show (out.any fun x=>decide ((p:Int)=x))=inB out (p:Int) from rfl] at HCN;obtain⟨R,hR⟩:∃ R,inB out (p:Int)=R:=⟨_,rfl⟩;rw [hR] at HCN Pg;have vZ:=Z_ Pg;clear hms Pg h9 hR;go_wp2_with fail
       refine HCN.out.mono ?_
       rintro e w4 ⟨rfl,xG⟩;have Az:=Z_ (UR.out.ext xG);have Xz:=Z_ (vJ.out.ext xG);clear h2 xG HCN HO4 HG4 UR vJ;cases R with
       | true=>
        have ah0:=Z_ (show lC out (q-(p+1)) (p+1)=Z by have h:=vZ.out;simpa using h);clear vZ;go_wp2_with fail
        refine(bM _ _ _ _).mono ?_
        rintro e w5 ⟨rfl,rfl⟩;go_wp2_with fail
        go_roundw
        case rel=>exact⟨p+1,by omega,by go_num,Xz,ah0⟩
        case measure=>simp [intOf];omega
       | false=>
        have Qb:=Z_ (show Z=some p by have h:=vZ.out;simpa using h.symm);have Dz:=Z_ (show T=.no p 3 by have h:=Wl.out;rw [Qb.out] at h;exact h.symm);clear vZ;go_wp2_with fail
        refine(bY _ _ _ _).mono ?_
        rintro e w5 ⟨rfl,rfl⟩;go_wp2_with fail
        rw [Dz.out];exact⟨rfl,Az.out,rfl⟩
      ·obtain rfl:p=q:=by omega
       exfalso
       have hZn:Z=none:=by have h:=hms.out;rw [Nat.sub_self] at h;exact h.symm
       have h3:=BF p out fun i hi=>yL p 0 (Tf.out.trans hZn) i (Nat.zero_le _) (by omega)
       omega
end ord
end Go.Proofs.YtpcihajmcejliacGreatDoor
namespace Go.Proofs.YtpcihajmcejliacGreatDoor
open Go.RowKit
namespace ord
open bu cG
theorem Ph (s:ByteArray):(s.toList == [109,97,105,110])=decide (s=uS):=by
 have h:uS.toList=[109,97,105,110]:=by rw [Go.ByteArray.toList_eq];rfl
 rw [←h];exact str_eq
set_option maxRecDepth 100000 in
set_option maxHeartbeats 4000000 in
theorem EW (p:aI) (pa:Option Addr) (pc:Nat) (w:World) :
  Calls Tryz.prog 120 #[.agg #[.string p.name,.bool p.dR,.slice pa p.params.length pc,.int .i64 p.writes,.bool p.gives,.int .i64 p.given]] w fun e w'=>e=.returned (.bool (jU p))∧Ext w w':=by
 obtain⟨nm,dR,ps,wr_,gv,gi⟩:=p;obtain⟨np,hnp⟩:∃ np,ps.length=np:=⟨_,rfl⟩;unfold jU;simp only [hnp];have HB:=Z_ (aC.made w #[.string nm,.bool dR,.slice pa np pc,.int .i64 wr_,.bool gv,.int .i64 gi] 68);have HE:=Z_ ((aB.refl (fun _=>False) w).alloc (.cells #[.string nm,.bool dR,.slice pa np pc,.int .i64 wr_,.bool gv,.int .i64 gi] 68));have hm:=Ph nm;obtain⟨b1,hb1⟩:∃ b,decide (nm=uS)=b:=⟨_,rfl⟩;rw [hb1] at hm ⊢;go_enter Tryz.func120,Tryz.ntmps120
 cases b1 with
 | false=>
  go_wp2_with fail
  go_ret
  exact⟨by simp,HE.out⟩
 | true=>
  cases dR with
  | false=>
   go_wp2_with fail
   go_ret
   exact⟨by simp,HE.out⟩
  | true=>
   by_cases h3:np=0
   ·subst h3
    by_cases h4:wr_=0
    ·subst h4
     cases gv with
     | true=>
      go_wp2_with fail
      go_ret
      exact⟨by simp,HE.out⟩
     | false=>
      go_wp2_with fail
      go_ret
      exact⟨by simp,HE.out⟩
    ·have h4b:(wr_ == 0)=false:=by simpa using h4
     go_wp2_with fail
     go_ret
     exact⟨by simp,HE.out⟩
   ·have h3b:((np:Int) == 0)=false:=by rw [beq_eq_false_iff_ne];omega
    go_wp2_with fail
    go_ret
    exact⟨by simp [h3],HE.out⟩
theorem IM {l:List aI} {k:Nat} {f:aI→Bool} (h:k<l.length):(l.drop k).any f=(f l[k] || (l.drop (k+1)).any f):=by
 rw [List.drop_eq_getElem_cons h,List.any_cons]
set_option maxRecDepth 100000 in
set_option maxHeartbeats 4000000 in
theorem EX (a:Option Addr) (l:List aI) (n c:Nat) (w:World) (hn:l.length=n) (hm:n≤1000) (hl:bC 6 dB w a l) :
  Calls Tryz.prog 191 #[.slice a n c,.func (.func 120) #[] #[]] w fun e w'=>Ext w w'∧∃ i:Int,e=.returned (.int .i64 i)∧decide (0≤i)=l.any jU:=by
 obtain⟨R,hR⟩:∃ R,(l.any jU)=R:=⟨_,rfl⟩;rw [hR];have HW:=Z_ hl;have HN:=Z_ hn;have HR:=Z_ hR;clear hl hn hR;go_enter Tryz.func191,Tryz.ntmps191
 go_wp2_with fail
 go_loopw [8] (fun i wr=>∃ k:Nat,k≤n∧i=.int .i64 k∧Hid (Ext w wr)∧Hid (((l.drop k).any jU)=R)) (fun i _=>n-(intOf i).toNat)
 case atStart=>exact⟨0,Nat.zero_le _,rfl,Z_ (aB.refl _ _),HR⟩
 case round=>
  obtain⟨k,hk,rfl,hE,hr⟩:=hrel;by_cases hlt:k<n
  ·have hkl:k<l.length:=by rw [HN.out];exact hlt
   have hki:(k:Int)<(n:Int):=by omega
   obtain⟨b,o,rfl,hb,hx⟩:=(HW.out.keeps (Ext.keeps hE.out) fun b o y=>dB.keeps (Ext.keeps hE.out)) k hkl;have hr2:=hr.out;rw [IM hkl] at hr2;generalize l[k]=x at *;obtain⟨x0,x1,⟨pa,pcp,x2,-⟩,x3,x4,x5,-⟩:=hx;have HBG:=Z_ (EW x pa pcp wr);obtain⟨B,hB⟩:∃ B,jU x=B:=⟨_,rfl⟩;rw [hB] at HBG hr2;have HR2:=Z_ hr2;clear hr hr2 hB;go_wp2_with fail
   refine HBG.out.mono ?_
   rintro e w2 ⟨rfl,hE2⟩;have lG:=Z_ (hE.out.ext hE2);clear x0 x1 x2 x3 x4 x5 hE2 HBG;cases B with
   | true=>
    have HT:=Z_ (show R=true by have:=HR2.out;simpa using this.symm);clear HR2;go_wp2_with fail
    go_ret
    refine⟨lG.out,(k:Int),rfl,?_⟩
    rw [HT.out];simp
   | false=>
    have HT:=Z_ (show ((l.drop (k+1)).any jU)=R by have:=HR2.out;simpa using this);clear HR2;go_wp2_with fail
    go_roundw
    case rel=>exact⟨k+1,by omega,by go_num,lG,HT⟩
    case measure=>simp [intOf];omega
  ·obtain rfl:k=n:=by omega
   have hnl:¬ ((k:Int)<(k:Int)):=by omega
   have HT:=Z_ (show R=false by have:=hr.out;rw [List.drop_of_length_le (by rw [HN.out];exact Nat.le_refl _)] at this;rw [←this];rfl);clear hr;go_wp2_with fail
   go_ret
   exact⟨hE.out,-1,rfl,by rw [HT.out];rfl⟩
set_option maxRecDepth 100000 in
theorem yB (a:Option Addr) (l:List aI) (n c:Nat) (w:World) (hn:l.length=n) (hm:n≤1000) (hl:bC 6 dB w a l) :
  Calls Tryz.prog 119 #[.slice a n c,.func (.func 120) #[] #[]] w fun e w'=>e=.returned (.bool (l.any jU))∧Ext w w':=by
 have HC:=Z_ (EX a l n c w hn hm hl);obtain⟨R,hR⟩:∃ R,(l.any jU)=R:=⟨_,rfl⟩;rw [hR] at HC ⊢;clear hl hn hR;go_enter Tryz.func119,Tryz.ntmps119
 go_wp2_with fail
 refine HC.out.mono ?_
 rintro e w' ⟨hE,i,rfl,hi⟩;subst hi;go_wp2_with fail
 go_ret
 exact⟨by simp,hE⟩
end ord
end Go.Proofs.YtpcihajmcejliacGreatDoor
namespace Go.Proofs.YtpcihajmcejliacGreatDoor
open Go.RowKit
namespace ord
open bu cG jf
theorem EY (v:Value) (w:World):(Instr.typeAssert (.iface 231 v) 20 231 true).run Tryz.prog w=.ok (.tuple #[v,.bool true]) w:=by kernel_rfl
def lU (R F:Nat) (m c p:Int) (w:World) (e:Exit) (a:Act) (w':World):Prop:=e=.normal∧a.defers=[]∧aC w' R #[.pointer none] 133∧aC w' F #[.int .i64 m,.int .i64 c,.int .i64 p] 48∧aB (fun i=>i=R∨i=F) w w'
def jE (R F B:Nat) (m c p:Int) (w0:World) (cs fs:Array Value):List Value→World→Prop
 | [],u=>aC u R cs 133∧aC u F fs 48∧aB (fun i=>i=R∨i=F) w0 u∧aC u B #[.int .i64 m,.int .i64 c,.int .i64 p] 231
 | [_],u=>aC u R #[.pointer none] 133∧aC u F fs 48∧aB (fun i=>i=R∨i=F) w0 u∧aC u B #[.int .i64 m,.int .i64 c,.int .i64 p] 231
 | _,u=>aC u R #[.pointer none] 133∧aC u F #[.int .i64 m,.int .i64 c,.int .i64 p] 48∧aB (fun i=>i=R∨i=F) w0 u∧aC u B #[.int .i64 m,.int .i64 c,.int .i64 p] 231
theorem jE.b {R F B:Nat} {m c p:Int} {w0 u:World} {cs fs:Array Value} {vs:List Value} (h:jE R F B m c p w0 cs fs vs u):aC u B #[.int .i64 m,.int .i64 c,.int .i64 p] 231:=by
 match vs,h with
 | [],h=>exact h.2.2.2
 | [_],h=>exact h.2.2.2
 | _::_::_,h=>exact h.2.2.2
set_option maxRecDepth 100000 in
set_option maxHeartbeats 4000000 in
theorem jd (R F:Nat) (c0 f0 f1 f2:Value) (m c p:Int) (w:World) (hR:aC w R #[c0] 133) (hF:aC w F #[f0,f1,f2] 48) (hne:R≠F) :
  CallsD Tryz.prog 116 #[.pointer (some ⟨R,0,none⟩),.pointer (some ⟨F,0,none⟩)] (.panicking (tq m c p)) w fun e u' w'=>
   e=.returned (.tuple #[])∧u'=.panicking [{ v:=.iface 231 (.agg #[.int .i64 m,.int .i64 c,.int .i64 p]),recovered:=true }]∧aC w' R #[.pointer none] 133∧aC w' F #[.int .i64 m,.int .i64 c,.int .i64 p] 48∧aB (fun i=>i=R∨i=F) w w':=by
 have hta:=EY;have Bv:=hR.lt;have Bz:=hF.lt;obtain⟨B,hB⟩:∃ B,w.heap.size=B:=⟨_,rfl⟩;have hB0:=aC.made w #[.int .i64 m,.int .i64 c,.int .i64 p] 231;rw [hB] at hB0 Bv Bz;have hR0:=hR.alloc (.cells #[.int .i64 m,.int .i64 c,.int .i64 p] 231);have kY:=hF.alloc (.cells #[.int .i64 m,.int .i64 c,.int .i64 p] 231);have lH:=(aB.refl (fun i=>i=R∨i=F) w).alloc (.cells #[.int .i64 m,.int .i64 c,.int .i64 p] 231);refine callsD_of_wpS Tryz.func116 rfl fun c₀ cs hu=>?_
 unfold tq at hu;apply wpS_seq
 apply wpS_region
 simp [wpOpsS,go_sem,recoverD,hu,Tryz.ntmps116,Exit.thenS]
 simp only [Array.replicate,List.replicate,List.append_toArray,List.setIfInBounds_toArray,List.set_cons_zero,List.set_cons_succ,List.cons_append,List.nil_append];refine wpS_of_wp (Code.wp_mono (Q:=lU R F m c p w) ?_ ?_)
 ·rintro e a w1 ⟨rfl,hd,h1,h2,h3⟩
  exact⟨hd,_,rfl,_,results_none rfl _ _ _,rfl,rfl,h1,h2,h3⟩
 clear hu;have HR0:=Z_ hR0;have o_:=Z_ kY;have HX0:=Z_ lH;have SI:=Z_ hB0;clear hR hF hR0 kY lH hB0;unfold lU;go_upto_region 5 with (fail)
 try rw [hB]
 generalize w.alloc (.cells #[.int .i64 m,.int .i64 c,.int .i64 p] 231)=u0 at *;refine aj [2,3] (fun i v _=>v=([.pointer (some ⟨B,0,none⟩),.agg #[.int .i64 m,.int .i64 c,.int .i64 p],undef,undef]:List Value).getD i undef) (jE R F B m c p w #[c0] #[f0,f1,f2]) (fun _ _=>True) (frame:=?KJ) (fun x=>?r_) bu.mixed (by kernel_rfl) (by kernel_rfl) (fun _ _ _ _ h _=>h) ?h0c ?KL ?wV
 case r_=>
  simp only [chain.aN,chain.fill,chain.bf,chain.aY,jW,jX,jY,jZ,kz,kC,kD,kE,kF];exact rfl
 case h0c=>exact⟨HR0.out.drew,o_.out.drew,HX0.out.drew,SI.out.drew⟩
 case KL=>
  iterate 4 (refine ak.cons (fun x vs u hF hm hb hd K' hK'=>?_) ?_;rotate_left)
  exact ak.nil
  ·have HF:=Z_ hF;clear hd hm hb hF;go_simp;exact hK'.out _ _ _ (rfl) trivial ⟨rfl,HF.out⟩
  ·have hc:=hF.b.cell;have y0:x 16=.pointer (some ⟨B,0,none⟩):=(D_ hd 0 :);have HF:=Z_ hF;clear hd hm hb hF;go_simp;exact hK'.out _ _ _ (by simp only [y0];rfl) trivial ⟨rfl,HF.out⟩
  ·obtain rfl:=kS hm;obtain⟨g1,g2,g3,g4⟩:=(show _∧_ from hF);have hc:=g1.cell;have hf:=g1.frozen;have hl:=g1.lt;have HG:=Z_ (And.intro g1 (And.intro g2 (And.intro g3 g4)));clear hd hm hb hF g1 g2 g3 g4;go_simp;obtain⟨g1,g2,g3,g4⟩:=HG.out;exact hK'.out _ _ undef rfl trivial ⟨g1.set 0 _,g2.setOther (p:=⟨R,0,none⟩) (by show F≠R;omega) _,g3.setCell (p:=⟨R,0,none⟩) (fun _=>.inl rfl) _,g4.setOther (p:=⟨R,0,none⟩) (by show B≠R;omega) _⟩
  ·have y0:x 17=.agg #[.int .i64 m,.int .i64 c,.int .i64 p]:=(D_ hd 1 :);obtain⟨v0,rfl⟩:=mD hm
   obtain⟨g1,g2,g3,g4⟩:=(show _∧_ from hF);have hc:=g2.cell;have hf:=g2.frozen;have hl:=g2.lt;have HG:=Z_ (And.intro g1 (And.intro g2 (And.intro g3 g4)));clear hd hm hb hF g1 g2 g3 g4;go_simp;obtain⟨g1,g2,g3,g4⟩:=HG.out;exact hK'.out _ _ undef (by simp only [y0];rfl) trivial ⟨((g1.setOther (p:=⟨F,0,none⟩) hne _).setOther (p:=⟨F,1,none⟩) hne _).setOther (p:=⟨F,2,none⟩) hne _,((g2.set 0 _).set 1 _).set 2 _,((g3.setCell (p:=⟨F,0,none⟩) (fun _=>.inr rfl) _).setCell (p:=⟨F,1,none⟩) (fun _=>.inr rfl) _).setCell (p:=⟨F,2,none⟩) (fun _=>.inr rfl) _,((g4.setOther (p:=⟨F,0,none⟩) (by show B≠F;omega) _).setOther (p:=⟨F,1,none⟩) (by show B≠F;omega) _).setOther (p:=⟨F,2,none⟩) (by show B≠F;omega) _⟩
 case wV=>
  intro x vs w9 hl hF hk;obtain⟨v0,v1,rfl⟩:=DT hl
  obtain⟨g1,g2,g3,g4⟩:=(show _∧_ from hF);clear hk hl;have HG:=Z_ (And.intro g1 (And.intro g2 g3));clear hF g1 g2 g3 g4;go_wp2_with (fail)
  exact HG.out
theorem LL (R F:Nat) (w:World) :
  CallsD Tryz.prog 116 #[.pointer (some ⟨R,0,none⟩),.pointer (some ⟨F,0,none⟩)] .returning w fun e u' w'=>e=.returned (.tuple #[])∧u'=.returning∧w'=w:=by
 refine callsD_of_wpS Tryz.func116 rfl fun c₀ cs hu=>?_
 apply wpS_seq
 apply wpS_region
 simp [wpOpsS,go_sem,recoverD,hu,Tryz.ntmps116,Exit.thenS]
 simp only [Array.replicate,List.replicate,List.append_toArray,List.setIfInBounds_toArray,List.set_cons_zero,List.set_cons_succ,List.cons_append,List.nil_append];refine wpS_of_wp (Code.wp_mono (Q:=fun e a' w'=>e=.normal∧a'.defers=[]∧w'=w) ?_ ?_)
 ·rintro e a w1 ⟨rfl,hd,rfl⟩
  exact⟨hd,.returning,by cases c₀;simp_all,_,results_none rfl _ _ _,rfl,rfl,rfl⟩
 clear hu;go_wp2_with (fail)
end ord
end Go.Proofs.YtpcihajmcejliacGreatDoor
namespace Go.Proofs.YtpcihajmcejliacGreatDoor
open Go.RowKit Go.WideMaps Go.Maps
namespace ord
open bu cG jf
def y_ (w:World) (b o:Nat) (s:ByteArray):Prop:=w.cell? ⟨b,o,none⟩=some (.string s)∧s.size≤maxLen
def ptrs (Ds:List Nat):List Value:=Ds.map fun D=>.pointer (some ⟨D,0,none⟩)
structure mG (B:Nat) (w:World) (row:Value) (Ds:List Nat) (l:List ByteArray):Prop where
 len:Ds.length=l.length
 own:w.ownsRow B 122 1 row l.length (ptrs Ds)
 dec:∀ (j:Nat) (h:j<l.length),n_ (bg B row) w (Ds[j]'(by omega)) l[j]
theorem mG.nil (B:Nat) (w:World):mG B w (.slice none 0 0) [] []:=⟨rfl,World.ownsRow_nil _ _ _ _,fun j h=>by cases h⟩
theorem mG.aK {B:Nat} {w w':World} {row:Value} {Ds:List Nat} {l:List ByteArray} (h:mG B w row Ds l) {S:Nat→Prop} (hC:aB S w w') (hS:∀ i,S i→i<B):mG B w' row Ds l:=
 ⟨h.len,jI h.own hC fun i hi hs=>by have:=hS i hs;omega,fun j hj=>(h.dec j hj).sure (vG.aK hC fun i hs=>by simp [bg,hS i hs])⟩
theorem mG.ext {B:Nat} {w w':World} {row:Value} {Ds:List Nat} {l:List ByteArray} (h:mG B w row Ds l) (hE:Ext w w'):mG B w' row Ds l:=h.aK hE fun _ e=>e.elim
theorem mG.lt {B:Nat} {w:World} {row:Value} {Ds:List Nat} {l:List ByteArray} (h:mG B w row Ds l) {i:Nat} (e:row.ownBlock=some i):B≤i∧i<w.heap.size:=World.ownsRow.lt h.own i e
theorem mG.slice {B:Nat} {w:World} {row:Value} {Ds:List Nat} {l:List ByteArray} (h:mG B w row Ds l):∃ a c,row=.slice a l.length c∧l.length≤c∧bC 1 uN w a Ds∧(∀ b o,a=some ⟨b,o,none⟩→row.ownBlock=some b):=by
 rcases h.own.2 with ⟨rfl,h0⟩|⟨g,cap,cur,rfl,hB,hg,hc1,hc2,hc3,hc4⟩
 ·exact⟨none,0,by rw [h0],by omega,fun j hj=>by have:=h.len;omega,fun b o e=>by cases e⟩
 ·refine⟨_,cap,rfl,hc1,fun j hj=>⟨g,0,rfl,(Array.getElem?_eq_some_iff.1 hg).1,?_⟩,fun b o e=>by cases e;rfl⟩
  unfold uN;have hl2:j<l.length:=by have:=h.len;omega
  have h9:cur.toList[j]? = some (.pointer (some ⟨Ds[j],0,none⟩)):=by
   have h1:(cur.toList.take (l.length*1))[j]? = some (.pointer (some ⟨Ds[j],0,none⟩)):=by
    rw [hc4];unfold ptrs;rw [List.getElem?_map,List.getElem?_eq_getElem hj];rfl
   rw [List.getElem?_take] at h1;rw [if_pos (by omega)] at h1;exact h1
  simp only [World.cell?,hg];simpa using h9
theorem mG.push {B:Nat} {u w4:World} {row:Value} {Ds:List Nat} {l:List ByteArray} (h:mG B u row Ds l) {D:Nat} {s:ByteArray} (hd:n_ (bg B row) u D s) {o:Obj} {g c:Nat}
  (hown:w4.ownsRow B 122 1 (.slice (some ⟨g,0,none⟩) (l.length+1) c) (l.length+1) (ptrs Ds ++ [.pointer (some ⟨D,0,none⟩)])) (hgrow:(u.alloc o).grownBy w4 row.ownBlock) (hat:row.ownBlock=some g∨g=u.heap.size+1) :
  mG B w4 (.slice (some ⟨g,0,none⟩) (l.length+1) c) (Ds ++ [D]) (l ++ [s])∧aB (fun i=>row.ownBlock=some i) u w4:=by
 have hC:aB (fun i=>row.ownBlock=some i) u w4:=(((aB.refl (fun _=>False) u).alloc o).weak (fun _ _ h=>h.elim)).then (uy hgrow)
 have hS:vG (bg B row) (bg B (.slice (some ⟨g,0,none⟩) (l.length+1) c)) u w4:=⟨hC.size,fun i hi hm=>by
  simp only [Bool.or_eq_false_iff,bg,decide_eq_false_iff_not] at hm ⊢;refine⟨⟨hm.1,fun e=>?_⟩,hC.block i hi hm.2⟩
  have e2:g=i:=by simpa [Value.ownBlock] using e
  subst e2;rcases hat with h|h
  ·exact hm.2 h
  ·omega⟩
 refine⟨⟨by simp [h.len],by rw [List.length_append,List.length_singleton];unfold ptrs at hown ⊢;rw [List.map_append];exact hown,fun j hj=>?_⟩,hC⟩
 have hl:=h.len;by_cases hjl:j<l.length
 ·have h1:=(h.dec j hjl).sure hS
  rw [List.getElem_append_left hjl,List.getElem_append_left (by omega)];exact h1
 ·rw [List.length_append,List.length_singleton] at hj
  obtain rfl:j=l.length:=by omega
  rw [List.getElem_append_right (Nat.le_refl _),List.getElem_append_right (by omega)];simp only [Nat.sub_self,hl,List.getElem_singleton];exact hd.sure hS
theorem Iy {B A:Nat} {w:World} {row:Value} {D:Nat} {s:ByteArray} (h:n_ (below A) w D s) (hB:B≤A) (hr:∀ i,row.ownBlock=some i→i<A):n_ (bg B row) w D s:=
 h.sure ⟨Nat.le_refl _,fun i _ hm=>by
  simp only [below,decide_eq_false_iff_not] at hm;simp only [bg,Bool.or_eq_false_iff,decide_eq_false_iff_not];exact⟨⟨by omega,fun e=>hm (hr i e)⟩,trivial⟩⟩
theorem LV:(Tryz.prog.info? 119).map (fun i=>(i.zero,i.size,i.bytes))=some (some (.pointer none),1,8):=by kernel_rfl
theorem O8 (n:Nat) (hn:n≤6):∃ cs:Array Value,cs.size=n∧∀ w,(Instr.makeSlice 136 (.int .i64 n) (.int .i64 n)).run Tryz.prog w=.ok (.slice (some ⟨w.heap.size,0,none⟩) n n) (w.alloc (.cells cs 119)):=by
 obtain⟨i,h1,h2,h3,h4⟩:=aW LV;refine⟨madeCells (Value.pointer none).cells n,by simp [madeCells],fun w=>?_⟩
 have h:=run_make (P:=Tryz.prog) w 136 119 i (.pointer none) Tryz.underlying136 h1 h2 .i64 .i64 (n:Int) (n:Int) (by omega) (Int.le_refl _) (by rw [h4];omega) (by omega);rw [h3] at h;simpa using h
theorem LI:(Tryz.prog.info? 122).map (fun i=>(i.zero,i.size,i.bytes))=some (some (.pointer none),1,8):=by kernel_rfl
theorem take_snoc {α : Type} {l:List α} {q:Nat} (h:q<l.length):l.take (q+1)=l.take q ++ [l[q]]:=by rw [List.take_add_one,List.getElem?_eq_getElem h];rfl
theorem EM {ts:List ByteArray} {q:Nat} (h:q<ts.length):jB (ts.drop q) q=if (jg ts[q]).2.2.1=0 then jB (ts.drop (q+1)) (q+1) else .no q (jg ts[q]).2.2.1:=by
 rw [List.drop_eq_getElem_cons h,jB]
theorem EL {w u:World} (hE:Ext w u) {ta:Option Addr} {ts:List ByteArray} (h:bC 1 y_ w ta ts) {q:Nat} (hq:q<ts.length):∃ b o,ta=some ⟨b,o,none⟩∧u.cell? ⟨b,o+q,none⟩=some (.string ts[q])∧ts[q].size≤maxLen:=by
 obtain⟨b,o,e,hb,h1,h2⟩:=h q hq;refine⟨b,o,e,?_,h2⟩
 rw [Nat.mul_one] at h1;exact(Ext.keeps hE).2 _ _ h1
def Qq (w:World) (T:qP (List Int)) (e:Ending) (w':World):Prop:=Ext w w'∧match T with
 | .no m c=>∃ p:Int,e=.returned (.tuple #[.pointer none,.agg #[.int .i64 (m:Nat),.int .i64 c,.int .i64 p]])
 | .ok O=>∃ Pb a c ml nm,e=.returned (.tuple #[.pointer (some ⟨Pb,0,none⟩),.agg #[.int .i64 0,.int .i64 0,.int .i64 0]])∧aC w' Pb #[.slice a O.length c,ml,nm] 138∧bC 1 dJ (hide (below w.heap.size) w') a O
theorem dead {w u w':World} {T:qP (List Int)} {m:Nat} {c p:Int} {R F:Nat} (hT:T=.no m c) (hE:Ext w u) (hC:aB (fun i=>i=R∨i=F) u w') (hR:w.heap.size≤R) (hF:w.heap.size≤F):Qq w T (.returned (.tuple #[.pointer none,.agg #[.int .i64 (m:Nat),.int .i64 c,.int .i64 p]])) w':=by
 subst hT;exact⟨hE.trans hC (fun i hi e=>by omega),p,rfl⟩
end ord
end Go.Proofs.YtpcihajmcejliacGreatDoor
namespace Go.Proofs.YtpcihajmcejliacGreatDoor
open Go.RowKit Go.WideMaps Go.Maps
namespace ord
open bu cG jf
structure PI (W1 u:World) (R F Mr n:Nat) (od:Value) (L:List (ByteArray×Int)):Prop where
 aK:aB (fun i=>i=R∨i=F) W1 u
 r:aC u R #[.pointer (some ⟨Mr+1+1,0,none⟩)] 133
 f:aC u F #[.int .i64 0,.int .i64 0,.int .i64 0] 48
 p:aC u (Mr+1+1) #[od,.slice (some ⟨Mr,0,none⟩) n n,.map (some (Mr+1))] 138
 nm:iQ u (Mr+1) L
 mr:∃ cs,cs.size=n∧aC u Mr cs 119
 hM:W1.heap.size=Mr
 hF:R+1=F
 TE:F<Mr
theorem PI.ext {W1 u u':World} {R F Mr n:Nat} {od:Value} {L:List (ByteArray×Int)} (h:PI W1 u R F Mr n od L) (hE:Ext u u'):PI W1 u' R F Mr n od L:=
 ⟨h.aK.ext hE,h.r.ext hE,h.f.ext hE,h.p.ext hE,h.nm.aK hE id,by obtain⟨cs,h1,h2⟩:=h.mr;exact⟨cs,h1,h2.ext hE⟩,h.hM,h.hF,h.TE⟩
theorem PI.row {W1 u:World} {R F Mr n:Nat} {od:Value} {L:List (ByteArray×Int)} (h:PI W1 u R F Mr n od L) {row:Value} {Ds:List Nat} {l:List ByteArray} (hl:mG (F+1) W1 row Ds l):mG (F+1) u row Ds l:=
 hl.aK h.aK fun i e=>by have:=h.hF;omega
theorem PI.base {w W1 u:World} {R F Mr n:Nat} {od:Value} {L:List (ByteArray×Int)} (h:PI W1 u R F Mr n od L) (hE:Ext w W1) (hR:w.heap.size≤R):Ext w u:=
 hE.trans h.aK fun i hi e=>by have:=h.hF;omega
theorem PI.name {W1 u u':World} {R F Mr n:Nat} {od:Value} {L L':List (ByteArray×Int)} (h:PI W1 u R F Mr n od L) (hg:u.grownBy u' (some (Mr+1))) (hM:iQ u' (Mr+1) L'):PI W1 u' R F Mr n od L':=by
 have hC:=gU hg;have h1:=h.hM;have h2:=h.hF;have h3:=h.TE
 exact⟨h.aK.trans hC (fun i hi e=>by omega),h.r.aK hC (by omega),h.f.aK hC (by omega),h.p.aK hC (by omega),hM,by obtain⟨cs,h4,h5⟩:=h.mr;exact⟨cs,h4,h5.aK hC (by omega)⟩,h1,h2,h3⟩
theorem PI.order {W1 u:World} {R F Mr n:Nat} {od od2:Value} {L:List (ByteArray×Int)} (h:PI W1 u R F Mr n od L):PI W1 (u.setCell ⟨Mr+1+1,0,none⟩ od2) R F Mr n od2 L:=by
 have hC:=ai (S:=Mr+1+1) (aB.refl _ u) 0 od2;have h1:=h.hM;have h2:=h.hF;have h3:=h.TE
 exact⟨h.aK.trans hC (fun i hi e=>by omega),h.r.aK hC (by omega),h.f.aK hC (by omega),by have:=h.p.set 0 od2;exact this,h.nm.aK hC (by omega),by obtain⟨cs,h4,h5⟩:=h.mr;exact⟨cs,h4,h5.aK hC (by omega)⟩,h1,h2,h3⟩
theorem PI.module {W1 u:World} {R F Mr n:Nat} {od:Value} {L:List (ByteArray×Int)} (h:PI W1 u R F Mr n od L) (i:Nat) (v:Value):PI W1 (u.setCell ⟨Mr,i,none⟩ v) R F Mr n od L:=by
 have hC:=ai (S:=Mr) (aB.refl _ u) i v;have h1:=h.hM;have h2:=h.hF;have h3:=h.TE
 exact⟨h.aK.trans hC (fun i hi e=>by omega),h.r.aK hC (by omega),h.f.aK hC (by omega),h.p.aK hC (by omega),h.nm.aK hC (by omega),by obtain⟨cs,h4,h5⟩:=h.mr;exact⟨_,by rw [Array.size_setIfInBounds];exact h4,h5.set i v⟩,h1,h2,h3⟩
def Tn (W1:World) (R F Mr n:Nat) (od:Value) (L L':List (ByteArray×Int)) (D:Nat) (dc:Array Value):List Value→World→Prop
 | [],u=>PI W1 u R F Mr n od L∧aC u D dc 128
 | _,u=>PI W1 u R F Mr n od L'∧aC u D dc 128
theorem Tn.any {W1:World} {R F Mr n:Nat} {od:Value} {L L':List (ByteArray×Int)} {D:Nat} {dc:Array Value} {vs:List Value} {u:World} (h:Tn W1 R F Mr n od L L' D dc vs u):∃ X,PI W1 u R F Mr n od X∧aC u D dc 128:=by
 match vs,h with
 | [],h=>exact⟨_,h⟩
 | _::_,h=>exact⟨_,h⟩
theorem EN {ts:List ByteArray} {q:Nat} {L:List (ByteArray×Int)} (h:q<ts.length):namesT (ts.drop q) q L=if (dD L (iz ts[q])).isSome=true then .no q 5 else namesT (ts.drop (q+1)) (q+1) (L ++ [(iz ts[q],(q:Int))]):=by
 rw [List.drop_eq_getElem_cons h,namesT]
theorem Aj {ts:List ByteArray} {q:Nat} {L:List (ByteArray×Int)} (h:q<ts.length):f_ L (ts.drop q) q=(jC L (ig ts[q]) q).bind fun _=>f_ L (ts.drop (q+1)) (q+1):=by
 rw [List.drop_eq_getElem_cons h,f_]
theorem EO {l:List ByteArray} {r q:Nat} {L:List (ByteArray×Int)} (h:r<l.length):jC L (l.drop r) q=if (dD L l[r]).isSome=true then jC L (l.drop (r+1)) q else .no q 4:=by
 rw [List.drop_eq_getElem_cons h,jC]
theorem LK {M:Nat→Bool} {w u:World} (hE:Ext w u) {l:List ByteArray} {a:Option Addr} (h:bC 1 jo (hide M w) a l) {q:Nat} (hq:q<l.length):∃ b o,a=some ⟨b,o,none⟩∧u.cell? ⟨b,o+q,none⟩=some (.string l[q])∧l[q].size≤maxLen:=by
 obtain⟨b,o,e,hb,h1,h2⟩:=h q hq;refine⟨b,o,e,?_,by unfold maxLen;omega⟩
 rw [Nat.mul_one] at h1;exact(Ext.keeps hE).2 _ _ ((ah M w).2 _ _ h1)
def Tu (W1:World) (R F Mr n:Nat) (L:List (ByteArray×Int)) (TO:qP (List Int)):List Value→World→Prop
 | [],u=>PI W1 u R F Mr n (.slice none 0 0) L
 | [v],u=>∃ O a c,TO=.ok O∧v=.slice a O.length c∧PI W1 u R F Mr n (.slice none 0 0) L∧bC 1 dJ (hide (below (Mr+1+1+1)) u) a O
 | _,u=>∃ O a c,TO=.ok O∧PI W1 u R F Mr n (.slice a O.length c) L∧bC 1 dJ (hide (below (Mr+1+1+1)) u) a O
theorem Tu.any {W1:World} {R F Mr n:Nat} {L:List (ByteArray×Int)} {TO:qP (List Int)} {vs:List Value} {u:World} (h:Tu W1 R F Mr n L TO vs u):∃ od,PI W1 u R F Mr n od L:=by
 match vs,h with
 | [],h=>exact⟨_,h⟩
 | [_],⟨_,_,_,_,_,h,_⟩=>exact⟨_,h⟩
 | _::_::_,⟨_,_,_,_,h,_⟩=>exact⟨_,h⟩
theorem iT {M M':Nat→Bool} {w w':World} (h:bV (hide M w) (hide M' w')) {a:Option Addr} {l:List Int} (hl:bC 1 dJ (hide M w) a l):bC 1 dJ (hide M' w') a l:=hl.keeps h fun _ _ _ hy=>h.2 _ _ hy
theorem O9 {W1:World} {R F n:Nat} {Gh:Array Value} (hs:Gh.size=n) (hr:aC W1 R #[.pointer none] 133) (hf:aC W1 F #[.int .i64 0,.int .i64 0,.int .i64 0] 48) (hF:R+1=F) :
  PI W1 ((((W1.alloc (.cells Gh 119)).alloc (.map #[] 0)).alloc (.cells #[.slice none 0 0,.slice (some ⟨W1.heap.size,0,none⟩) n n,.map (some (W1.heap.size+1))] 138)).setCell ⟨R,0,none⟩ (.pointer (some ⟨W1.heap.size+1+1,0,none⟩))) R F W1.heap.size n (.slice none 0 0) []:=by
 have hlt:=hf.lt;have hlr:=hr.lt;have hE:=(((aB.refl (fun _=>False) W1).alloc (.cells Gh 119)).alloc (.map #[] 0)).alloc (.cells #[.slice none 0 0,.slice (some ⟨W1.heap.size,0,none⟩) n n,.map (some (W1.heap.size+1))] 138);have hC:=ai (S:=R) (aB.refl _ ((((W1.alloc (.cells Gh 119)).alloc (.map #[] 0)).alloc (.cells #[.slice none 0 0,.slice (some ⟨W1.heap.size,0,none⟩) n n,.map (some (W1.heap.size+1))] 138)))) 0 (.pointer (some ⟨W1.heap.size+1+1,0,none⟩));have hp:=aC.made ((W1.alloc (.cells Gh 119)).alloc (.map #[] 0)) #[.slice none 0 0,.slice (some ⟨W1.heap.size,0,none⟩) n n,.map (some (W1.heap.size+1))] 138;rw [show ((W1.alloc (.cells Gh 119)).alloc (.map #[] 0)).heap.size=W1.heap.size+1+1 by simp] at hp;have hm:=iQ.made (W1.alloc (.cells Gh 119))
 rw [show (W1.alloc (.cells Gh 119)).heap.size=W1.heap.size+1 by simp] at hm;have hm2:=hm.aK ((aB.refl (fun _=>False) ((W1.alloc (.cells Gh 119)).alloc (.map #[] 0))).alloc (.cells #[.slice none 0 0,.slice (some ⟨W1.heap.size,0,none⟩) n n,.map (some (W1.heap.size+1))] 138)) id;have hmr:=((aC.made W1 Gh 119).alloc (.map #[] 0)).alloc (.cells #[.slice none 0 0,.slice (some ⟨W1.heap.size,0,none⟩) n n,.map (some (W1.heap.size+1))] 138);exact⟨((aB.refl _ W1).ext hE).trans hC (fun i _ e=>.inl e),by have:=(hr.ext hE).set 0 (.pointer (some ⟨W1.heap.size+1+1,0,none⟩));exact this,(hf.ext hE).aK hC (by omega),hp.aK hC (by omega),hm2.aK hC (by omega),⟨Gh,hs,hmr.aK hC (by omega)⟩,rfl,hF,hlt⟩
end ord
end Go.Proofs.YtpcihajmcejliacGreatDoor
