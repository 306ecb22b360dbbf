/- The order of a program: must, a number among numbers. The walk of the program's parser: expressions. The walk of the program's parser: unary. The walk of the program's parser: calls. -/
import Derived.Deep.CutBlock
import Derived.Deep.DeepCutAuto
import Derived.Test.YtpcihajmcejliacGreatDoorNameo
import Derived.Test.YtpcihajmcejliacGreatDoorOfMo
namespace Go.Proofs.YtpcihajmcejliacGreatDoor
open Go.RowKit
namespace ord
open bu
def tq (m c p:Int):List PanicEntry:=[{ v:=.iface 231 (.agg #[.int .i64 m,.int .i64 c,.int .i64 p]),recovered:=false }]
set_option maxRecDepth 100000 in
theorem bM (m c p:Int) (w:World):Calls Tryz.prog 117 #[.bool true,.int .i64 m,.int .i64 c,.int .i64 p] w fun e w'=>e=.returned (.tuple #[])∧w'=w:=by
 go_enter Tryz.func117,Tryz.ntmps117
 go_wp2_with fail
 go_end0
 exact⟨rfl,rfl⟩
set_option maxRecDepth 100000 in
theorem bY (m c p:Int) (w:World):Calls Tryz.prog 117 #[.bool false,.int .i64 m,.int .i64 c,.int .i64 p] w fun e w'=>e=.panicked (tq m c p)∧w'=w:=by
 go_enter Tryz.func117,Tryz.ntmps117
 go_wp2_with fail
 exact⟨rfl,rfl,rfl⟩
theorem IP {l:List Int} {k:Nat} {f:Int→Bool} (h:k<l.length):(l.drop k).any f=(f l[k] || (l.drop (k+1)).any f):=by
 rw [List.drop_eq_getElem_cons h,List.any_cons]
set_option maxRecDepth 100000 in
set_option maxHeartbeats 1000000 in
theorem EZ (a:Option Addr) (l:List Int) (n c:Nat) (s:Int) (w:World) (hn:l.length=n) (hm:n≤100) (hl:bC 1 dJ w a l) :
  Calls Tryz.prog 237 #[.slice a n c,.int .i64 s] w fun e w'=>Ext w w'∧∃ i:Int,e=.returned (.int .i64 i)∧decide (0≤i)=l.any fun x=>decide (s=x):=by
 obtain⟨R,hR⟩:∃ R,(l.any fun x=>decide (s=x))=R:=⟨_,rfl⟩;rw [hR];have HW:=Z_ hl;have HN:=Z_ hn;have HR:=Z_ hR;clear hl hn hR;go_enter Tryz.func237,Tryz.ntmps237
 go_wp2_with fail
 go_loopw [8] (fun i wr=>∃ k:Nat,k≤n∧i=.int .i64 k∧w=wr∧Hid (((l.drop k).any fun x=>decide (s=x))=R)) (fun i _=>n-(intOf i).toNat)
 case atStart=>exact⟨0,Nat.zero_le _,rfl,rfl,HR⟩
 case round=>
  obtain⟨k,hk,rfl,rfl,hr⟩:=hrel;by_cases hlt:k<n
  ·have hkl:k<l.length:=by rw [HN.out];exact hlt
   have hki:(k:Int)<(n:Int):=by omega
   obtain⟨b,o,rfl,hb,hx⟩:=HW.out k hkl;have h0:w.cell? ⟨b,o+k,none⟩=some (.int .i64 l[k]):=by have:=hx;unfold dJ at this;rw [Nat.mul_one] at this;exact this
   have hr2:=hr.out;rw [IP hkl] at hr2;clear hx;generalize l[k]=x at *;by_cases e:s=x
   ·subst e
    have HT:=Z_ (show R=true by rw [←hr2];simp);have he:(s == s)=true:=by simp
    clear hr2 hr;go_wp2_with fail
    go_ret
    refine⟨aB.refl _ _,(k:Int),rfl,?_⟩
    rw [HT.out];simp
   ·have he:(s == x)=false:=by simpa using e
    have HT:=Z_ (show ((l.drop (k+1)).any fun x=>decide (s=x))=R by rw [←hr2];simp [e]);clear hr2 hr;go_wp2_with fail
    go_roundw
    case rel=>exact⟨k+1,by omega,by go_num,trivial,HT⟩
    case measure=>simp [intOf];omega
  ·obtain rfl:k=n:=by omega
   have HT:=Z_ (show R=false by have:=hr.out;rw [List.drop_of_length_le (by rw [HN.out];exact Nat.le_refl _)] at this;rw [←this];rfl);clear hr;go_wp2_with fail
   go_ret
   exact⟨aB.refl _ _,-1,rfl,by rw [HT.out];rfl⟩
set_option maxRecDepth 100000 in
theorem qV (a:Option Addr) (l:List Int) (n c:Nat) (s:Int) (w:World) (hn:l.length=n) (hm:n≤100) (hl:bC 1 dJ w a l) :
  Calls Tryz.prog 190 #[.slice a n c,.int .i64 s] w fun e w'=>e=.returned (.bool (l.any fun x=>decide (s=x)))∧Ext w w':=by
 have HC:=Z_ (EZ a l n c s w hn hm hl);obtain⟨R,hR⟩:∃ R,(l.any fun x=>decide (s=x))=R:=⟨_,rfl⟩;rw [hR] at HC ⊢;clear hl hn hR;go_enter Tryz.func190,Tryz.ntmps190
 go_wp2_with fail
 refine HC.out.mono ?_
 rintro e w' ⟨hE,i,rfl,hi⟩;subst hi;go_wp2_with fail
 go_ret
 exact⟨by simp,hE⟩
end ord
end Go.Proofs.YtpcihajmcejliacGreatDoor
namespace Go.Proofs.YtpcihajmcejliacGreatDoor
open Go.RowKit
namespace bu
set_option maxRecDepth 100000 in
set_option maxHeartbeats 4000000 in
theorem wM {n:Nat} (ih:∀ m,m≤n→Good m) {W w:World} {S E:Nat} {l:List Tk} (h:bz W w S E l) (hm:cE W) (hne:bJ (n+1) (.expr) l≠.out) :
  Calls Tryz.prog 331 #[.pointer (some ⟨S,0,none⟩)] w (eC (VN w.heap.size) W w S E (bJ (n+1) (.expr) l)):=by
 obtain⟨T,hT⟩:∃ T,bJ (n+1) (.expr) l=T:=⟨_,rfl⟩;rw [hT] at hne ⊢;simp only [bJ] at hT;have HT:=Z_ hT;have h_:=Z_ hne;have HM:=Z_ hm;have aA:Hid (At W w (w.alloc (.cells #[.int .i64 0,.string ⟨#[]⟩,.int .i64 0,.slice none 0 0] 24)) S E w.heap.size l):=Z_ (At.start h);obtain⟨A,hA⟩:∃ A,w.heap.size=A:=⟨_,rfl⟩;rw [hA] at aA;have Pj:S<A:=by have:=h.lt;omega
 clear h hm hne hT;go_enter Tryz.func331,Tryz.ntmps331
 go_upto_region 1 with (fail)
 generalize w.alloc (.cells #[.int .i64 0,.string ⟨#[]⟩,.int .i64 0,.slice none 0 0] 24)=u0 at *;have iE:=aA.out.lt;obtain⟨B,hB⟩:∃ B,u0.heap.size=B:=⟨_,rfl⟩;rw [hB] at iE;have HN:=Z_ (ih n (Nat.le_refl _) (.bound 0) _ _ aA.out.pr HM.out rfl (Nat.zero_le _) (by rw [HT.out];exact h_.out));go_wp2_with fail
 refine HN.out.mono ?_
 rintro e u1 hr;obtain⟨hC,⟨lb,hp,rfl⟩|⟨x1,l1,v1,hp,rfl,hv,hP⟩⟩:=hr.cases (by rw [HT.out];exact h_.out)
 ·have HF:=Z_ (HT.out.symm.trans hp)
  have HC:=Z_ (aA.out.aK.then hC);clear hr hp hC;go_wp2_with fail
  exact⟨rfl,eC.fails HC.out HF.out⟩
 replace HT:=Z_ (HT.out.symm.trans hp);replace aA:=Z_ (aA.out.call hC hP);obtain⟨ka1,Vg,Vh,Vj,Vk,ca1,rfl⟩:=cH hv;have Pm:=Z_ hv;have hsz1:u0.heap.size≤u1.heap.size:=hC.size;clear hr hp hC hP hv HN;rw [hB] at Pm;have r0:=aA.out.res.cell;have rf:=aA.out.res.frozen;have rl:=aA.out.res.lt;unfold bK at r0;go_wp2_with fail
 refine bG rfl rfl rfl ((((aA.out.res.set 0 _).set 1 _).set 2 _).set 3 _) Tryz.underlying24 rfl (by kernel_rfl) ?_
 exact eM aA.out (below B) (Pm.out) (cg (by omega)) (fun i hi=>cg (by omega)) (HT.out)
set_option maxRecDepth 100000 in
set_option maxHeartbeats 4000000 in
theorem IQ {n:Nat} (ih:∀ m,m≤n→Good m) {W w:World} {S E:Nat} {l:List Tk} (h:bz W w S E l) (hm:cE W) (hne:bJ (n+1) (.asked) l≠.out) :
  Calls Tryz.prog 334 #[.pointer (some ⟨S,0,none⟩)] w (eC (VN w.heap.size) W w S E (bJ (n+1) (.asked) l)):=by
 obtain⟨T,hT⟩:∃ T,bJ (n+1) (.asked) l=T:=⟨_,rfl⟩;rw [hT] at hne ⊢;simp only [bJ] at hT;have HT:=Z_ hT;have h_:=Z_ hne;have HM:=Z_ hm;have aA:Hid (At W w (w.alloc (.cells #[.int .i64 0,.string ⟨#[]⟩,.int .i64 0,.slice none 0 0] 24)) S E w.heap.size l):=Z_ (At.start h);obtain⟨A,hA⟩:∃ A,w.heap.size=A:=⟨_,rfl⟩;rw [hA] at aA;have Pj:S<A:=by have:=h.lt;omega
 clear h hm hne hT;go_enter Tryz.func334,Tryz.ntmps334
 go_upto_region 1 with (fail)
 generalize w.alloc (.cells #[.int .i64 0,.string ⟨#[]⟩,.int .i64 0,.slice none 0 0] 24)=u0 at *;have HN:=Z_ (b_ (aA.out.pr.alloc (.cells #[.string iD] 9)) u0.heap.size 1 iD ((aC.made u0 #[.string iD] 9).cell 0));have eP:=(aB.refl (fun _=>False) u0).alloc (.cells #[.string iD] 9);replace aA:=Z_ (aA.out.extend eP);clear eP;go_wp2_with fail
 refine HN.out.mono ?_
 rintro e u1 hr;obtain⟨hC,⟨lb,hp,rfl⟩|⟨_,l1,_,hp,rfl,rfl,hP⟩⟩:=hr.cases (di _ _)
 ·have HF:=Z_ (Out.aF HT.out hp)
  have HC:=Z_ (aA.out.aK.then hC);clear hr hp hC;go_wp2_with fail
  exact⟨rfl,eC.fails HC.out HF.out⟩
 replace HT:=Z_ (Out.aG HT.out hp);replace aA:=Z_ (aA.out.call hC hP);clear hr hp hC hP HN;have iE:=aA.out.lt;obtain⟨B,hB⟩:∃ B,u1.heap.size=B:=⟨_,rfl⟩;rw [hB] at iE;have HN:=Z_ (ih n (Nat.le_refl _) (.expr) _ _ aA.out.pr HM.out rfl trivial (Out.bh HT.out h_.out));go_wp2_with fail
 refine HN.out.mono ?_
 rintro e u2 hr;obtain⟨hC,⟨lb,hp,rfl⟩|⟨x2,l2,v2,hp,rfl,hv,hP⟩⟩:=hr.cases (Out.bh HT.out h_.out)
 ·have HF:=Z_ (Out.aF HT.out hp)
  have HC:=Z_ (aA.out.aK.then hC);clear hr hp hC;go_wp2_with fail
  exact⟨rfl,eC.fails HC.out HF.out⟩
 replace HT:=Z_ (Out.aG HT.out hp);replace aA:=Z_ (aA.out.call hC hP);obtain⟨ka2,ta2,ma2,aa2,na2,ca2,rfl⟩:=cH hv;have HV2:=Z_ hv;have hsz2:u1.heap.size≤u2.heap.size:=hC.size;clear hr hp hC hP hv HN;rw [hB] at HV2 hsz2;have HL:=Z_ (Loc.start HV2.out (by omega:S<B) hsz2 (c:=#[.int .i64 ka2,.string ta2,.int .i64 ma2,.slice aa2 na2 ca2]) rfl);replace aA:=Z_ (aA.out.alloc (.cells #[.int .i64 ka2,.string ta2,.int .i64 ma2,.slice aa2 na2 ca2] 24));obtain⟨N,hN⟩:∃ N,u2.heap.size=N:=⟨_,rfl⟩;have hBN:B≤N:=hN▸hsz2
 rw [hN] at HL;go_upto_region 3 with (fail)
 generalize u2.alloc (.cells #[.int .i64 ka2,.string ta2,.int .i64 ma2,.slice aa2 na2 ca2] 24)=u9 at *;have HN:=Z_ (b_ (aA.out.pr.alloc (.cells #[.string dN] 9)) u9.heap.size 1 dN ((aC.made u9 #[.string dN] 9).cell 0));have eP:=(aB.refl (fun _=>False) u9).alloc (.cells #[.string dN] 9);replace aA:=Z_ (aA.out.extend eP);replace HL:=Z_ (HL.out.extend eP);clear eP;go_wp2_with fail
 refine HN.out.mono ?_
 rintro e u3 hr;obtain⟨hC,⟨lb,hp,rfl⟩|⟨_,l3,_,hp,rfl,rfl,hP⟩⟩:=hr.cases (di _ _)
 ·have HF:=Z_ (Out.aF HT.out hp)
  have HC:=Z_ (aA.out.aK.then hC);clear hr hp hC;go_wp2_with fail
  exact⟨rfl,eC.fails HC.out HF.out⟩
 replace HT:=Z_ (Out.aG HT.out hp);replace aA:=Z_ (aA.out.call hC hP);replace HL:=Z_ (HL.out.call hC);clear hr hp hC hP HN;have hc:=HL.out.nd.cell;simp only [Value.cells] at hc;have r0:=aA.out.res.cell;have rf:=aA.out.res.frozen;have rl:=aA.out.res.lt;unfold bK at r0;go_wp2_with fail
 refine bG rfl rfl rfl ((((aA.out.res.set 0 _).set 1 _).set 2 _).set 3 _) Tryz.underlying24 rfl (by kernel_rfl) ?_
 exact eM aA.out (qI B N) (HL.out.dat) (iR (by omega)) (fun i hi=>iR (by omega)) (HT.out.symm)
set_option maxRecDepth 100000 in
set_option maxHeartbeats 4000000 in
theorem IU {n:Nat} (ih:∀ m,m≤n→Good m) {W w:World} {S E:Nat} {l:List Tk} {s:ByteArray} (h:bz W w S E l) (hm:cE W) (hs:s.size≤7000) (hne:bJ (n+1) (.place s) l≠.out) :
  Calls Tryz.prog 335 #[.pointer (some ⟨S,0,none⟩),.string s] w (eC (VN w.heap.size) W w S E (bJ (n+1) (.place s) l)):=by
 obtain⟨T,hT⟩:∃ T,bJ (n+1) (.place s) l=T:=⟨_,rfl⟩;rw [hT] at hne ⊢;simp only [bJ] at hT;have HT:=Z_ hT;have h_:=Z_ hne;have HM:=Z_ hm;have aA:Hid (At W w (w.alloc (.cells #[.int .i64 0,.string ⟨#[]⟩,.int .i64 0,.slice none 0 0] 24)) S E w.heap.size l):=Z_ (At.start h);obtain⟨A,hA⟩:∃ A,w.heap.size=A:=⟨_,rfl⟩;rw [hA] at aA;have Pj:S<A:=by have:=h.lt;omega
 clear h hm hne hT;go_enter Tryz.func335,Tryz.ntmps335
 go_upto_region 1 with (fail)
 generalize w.alloc (.cells #[.int .i64 0,.string ⟨#[]⟩,.int .i64 0,.slice none 0 0] 24)=u0 at *;have HH:=Z_ (dh aA.out.pr xk);have gu:=Z_ (fun (h:fK l [xk]=true)=>bF.aV h);generalize fK l [xk]=R at *;go_wp2_with fail
 refine HH.out.mono ?_
 rintro e u1 ⟨rfl,hC,hP⟩;cases R with
 | false=>
  replace hP:bz W u1 S E l:=by simpa using hP
  have HT0:=HT.out;clear HT;simp only [Bool.false_eq_true,↓reduceIte] at HT0;have HT:=Z_ HT0;clear HT0;replace aA:=Z_ (aA.out.call hC hP);clear hC hP HH gu;go_wp2_with fail
  refine(dH _ _ _ _ _ _ _).mono ?_
  rintro e u2 ⟨rfl,hE⟩;replace aA:=Z_ (aA.out.extend hE);have iE:=aA.out.lt;clear hE;have r0:=aA.out.res.cell;have rf:=aA.out.res.frozen;have rl:=aA.out.res.lt;unfold bK at r0;go_wp2_with fail
  refine bG rfl rfl rfl ((((aA.out.res.set 0 _).set 1 _).set 2 _).set 3 _) Tryz.underlying24 rfl (by kernel_rfl) ?_
  exact eM aA.out (below (A+1)) (kM _ _ _ _ (by omega)) (cg (by omega)) (fun i hi=>cg (by omega)) (HT.out.symm)
 | true=>
  replace hP:bz W u1 S E l.tail:=by simpa using hP
  have HT0:=HT.out;clear HT;simp only [↓reduceIte] at HT0;have HT:=Z_ HT0;clear HT0;replace aA:=Z_ (aA.out.call hC hP);clear hC hP HH gu;have iE:=aA.out.lt;obtain⟨B,hB⟩:∃ B,u1.heap.size=B:=⟨_,rfl⟩;rw [hB] at iE;have HN:=Z_ (ih n (Nat.le_refl _) (.expr) _ _ aA.out.pr HM.out rfl trivial (Out.bh HT.out h_.out));go_wp2_with fail
  refine HN.out.mono ?_
  rintro e u4 hr;obtain⟨hC,⟨lb,hp,rfl⟩|⟨x4,l4,v4,hp,rfl,hv,hP⟩⟩:=hr.cases (Out.bh HT.out h_.out)
  ·have HF:=Z_ (Out.aF HT.out hp)
   have HC:=Z_ (aA.out.aK.then hC);clear hr hp hC;go_wp2_with fail
   exact⟨rfl,eC.fails HC.out HF.out⟩
  replace HT:=Z_ (Out.aG HT.out hp);replace aA:=Z_ (aA.out.call hC hP);obtain⟨XX,XY,XZ,X0,X3,X4,rfl⟩:=cH hv;have U0:=Z_ hv;have TT:u1.heap.size≤u4.heap.size:=hC.size;clear hr hp hC hP hv HN;rw [hB] at U0 TT;have HL:=Z_ (Loc.start U0.out (by omega:S<B) TT (c:=#[.int .i64 XX,.string XY,.int .i64 XZ,.slice X0 X3 X4]) rfl);replace aA:=Z_ (aA.out.alloc (.cells #[.int .i64 XX,.string XY,.int .i64 XZ,.slice X0 X3 X4] 24));obtain⟨N,hN⟩:∃ N,u4.heap.size=N:=⟨_,rfl⟩;have hBN:B≤N:=hN▸TT
  rw [hN] at HL;go_upto_region 4 with (fail)
  generalize u4.alloc (.cells #[.int .i64 XX,.string XY,.int .i64 XZ,.slice X0 X3 X4] 24)=u9 at *;have HN:=Z_ (b_ (aA.out.pr.alloc (.cells #[.string sJ] 9)) u9.heap.size 1 sJ ((aC.made u9 #[.string sJ] 9).cell 0));have eP:=(aB.refl (fun _=>False) u9).alloc (.cells #[.string sJ] 9);replace aA:=Z_ (aA.out.extend eP);replace HL:=Z_ (HL.out.extend eP);clear eP;go_wp2_with fail
  refine HN.out.mono ?_
  rintro e u5 hr;obtain⟨hC,⟨lb,hp,rfl⟩|⟨_,l5,_,hp,rfl,rfl,hP⟩⟩:=hr.cases (di _ _)
  ·have HF:=Z_ (Out.aF HT.out hp)
   have HC:=Z_ (aA.out.aK.then hC);clear hr hp hC;go_wp2_with fail
   exact⟨rfl,eC.fails HC.out HF.out⟩
  replace HT:=Z_ (Out.aG HT.out hp);replace aA:=Z_ (aA.out.call hC hP);replace HL:=Z_ (HL.out.call hC);clear hr hp hC hP HN;have hNu:=HL.out.nd.lt;replace HR:=Z_ (Ag HL.out.dat (by simp [qI];omega) 17 0 s (by first|omega|decide) (c:=#[.int .i64 XX,.string XY,.int .i64 XZ,.slice X0 X3 X4]) rfl);have hc:=HL.out.nd.cell;simp only [Value.cells] at hc;have eP:=(aB.refl (fun _=>False) u5).alloc (.cells #[.int .i64 XX,.string XY,.int .i64 XZ,.slice X0 X3 X4] 24);replace aA:=Z_ (aA.out.extend eP);clear eP;go_wp2_with fail
  refine(dH _ _ _ _ _ _ _).mono ?_
  rintro e u6 ⟨rfl,hE⟩;replace aA:=Z_ (aA.out.extend hE);replace HR:=Z_ (aX (aH hE fun _ _ h=>h.elim) _ _ HR.out);clear hE hc;have r0:=aA.out.res.cell;have rf:=aA.out.res.frozen;have rl:=aA.out.res.lt;unfold bK at r0;go_wp2_with fail
  refine bG rfl rfl rfl ((((aA.out.res.set 0 _).set 1 _).set 2 _).set 3 _) Tryz.underlying24 rfl (by kernel_rfl) ?_
  exact eM aA.out (qI B N) (HR.out) (iR (by omega)) (fun i hi=>iR (by omega)) (HT.out.symm)
set_option maxRecDepth 100000 in
set_option maxHeartbeats 4000000 in
theorem TU (s:ByteArray) (w:World):Calls Tryz.prog 277 #[.string s] w fun e w'=>e=.returned (.tuple #[.int .i64 (rI s).1,.int .i64 (rI s).2])∧w=w':=by
 by_cases h0:s=⟨#[61,61]⟩
 ·subst h0
  go_enter Tryz.func277,Tryz.ntmps277
  go_wp2_with fail
  go_ret2
  exact⟨rfl,rfl⟩
 by_cases h1:s=⟨#[60]⟩
 ·subst h1
  go_enter Tryz.func277,Tryz.ntmps277
  go_wp2_with fail
  go_ret2
  exact⟨rfl,rfl⟩
 by_cases h2:s=⟨#[43]⟩
 ·subst h2
  go_enter Tryz.func277,Tryz.ntmps277
  go_wp2_with fail
  go_ret2
  exact⟨rfl,rfl⟩
 by_cases h3:s=⟨#[45]⟩
 ·subst h3
  go_enter Tryz.func277,Tryz.ntmps277
  go_wp2_with fail
  go_ret2
  exact⟨rfl,rfl⟩
 by_cases h4:s=⟨#[124]⟩
 ·subst h4
  go_enter Tryz.func277,Tryz.ntmps277
  go_wp2_with fail
  go_ret2
  exact⟨rfl,rfl⟩
 by_cases h5:s=⟨#[42]⟩
 ·subst h5
  go_enter Tryz.func277,Tryz.ntmps277
  go_wp2_with fail
  go_ret2
  exact⟨rfl,rfl⟩
 by_cases h6:s=⟨#[47]⟩
 ·subst h6
  go_enter Tryz.func277,Tryz.ntmps277
  go_wp2_with fail
  go_ret2
  exact⟨rfl,rfl⟩
 by_cases h7:s=⟨#[37]⟩
 ·subst h7
  go_enter Tryz.func277,Tryz.ntmps277
  go_wp2_with fail
  go_ret2
  exact⟨rfl,rfl⟩
 by_cases h8:s=⟨#[38]⟩
 ·subst h8
  go_enter Tryz.func277,Tryz.ntmps277
  go_wp2_with fail
  go_ret2
  exact⟨rfl,rfl⟩
 have g0:(s.toList == [61,61])=false:=by
  have:=str_eq (a:=s) (b:=⟨#[61,61]⟩);rw [show ((⟨#[61,61]⟩:ByteArray).toList)=[61,61] by rw [ByteArray.toList_eq]] at this;rw [this];simpa using h0
 have g1:(s.toList == [60])=false:=by
  have:=str_eq (a:=s) (b:=⟨#[60]⟩);rw [show ((⟨#[60]⟩:ByteArray).toList)=[60] by rw [ByteArray.toList_eq]] at this;rw [this];simpa using h1
 have g2:(s.toList == [43])=false:=by
  have:=str_eq (a:=s) (b:=⟨#[43]⟩);rw [show ((⟨#[43]⟩:ByteArray).toList)=[43] by rw [ByteArray.toList_eq]] at this;rw [this];simpa using h2
 have g3:(s.toList == [45])=false:=by
  have:=str_eq (a:=s) (b:=⟨#[45]⟩);rw [show ((⟨#[45]⟩:ByteArray).toList)=[45] by rw [ByteArray.toList_eq]] at this;rw [this];simpa using h3
 have g4:(s.toList == [124])=false:=by
  have:=str_eq (a:=s) (b:=⟨#[124]⟩);rw [show ((⟨#[124]⟩:ByteArray).toList)=[124] by rw [ByteArray.toList_eq]] at this;rw [this];simpa using h4
 have g5:(s.toList == [42])=false:=by
  have:=str_eq (a:=s) (b:=⟨#[42]⟩);rw [show ((⟨#[42]⟩:ByteArray).toList)=[42] by rw [ByteArray.toList_eq]] at this;rw [this];simpa using h5
 have g6:(s.toList == [47])=false:=by
  have:=str_eq (a:=s) (b:=⟨#[47]⟩);rw [show ((⟨#[47]⟩:ByteArray).toList)=[47] by rw [ByteArray.toList_eq]] at this;rw [this];simpa using h6
 have g7:(s.toList == [37])=false:=by
  have:=str_eq (a:=s) (b:=⟨#[37]⟩);rw [show ((⟨#[37]⟩:ByteArray).toList)=[37] by rw [ByteArray.toList_eq]] at this;rw [this];simpa using h7
 have g8:(s.toList == [38])=false:=by
  have:=str_eq (a:=s) (b:=⟨#[38]⟩);rw [show ((⟨#[38]⟩:ByteArray).toList)=[38] by rw [ByteArray.toList_eq]] at this;rw [this];simpa using h8
 have hT:rI s=(0,-1):=by simp only [rI,if_neg h0,if_neg h1,if_neg h2,if_neg h3,if_neg h4,if_neg h5,if_neg h6,if_neg h7,if_neg h8]
 rw [hT];clear hT h0 h1 h2 h3 h4 h5 h6 h7 h8;go_enter Tryz.func277,Tryz.ntmps277
 go_wp2_with fail
 go_ret2
 exact⟨rfl,rfl⟩
end bu
end Go.Proofs.YtpcihajmcejliacGreatDoor
namespace Go.Proofs.YtpcihajmcejliacGreatDoor
open Go.RowKit
namespace bu
set_option maxRecDepth 100000 in
set_option maxHeartbeats 4000000 in
theorem IV {n:Nat} (ih:∀ m,m≤n→Good m) {W w:World} {S E:Nat} {l:List Tk} (h:bz W w S E l) (hm:cE W) (hne:bJ (n+1) (.unary) l≠.out) :
  Calls Tryz.prog 375 #[.pointer (some ⟨S,0,none⟩)] w (eC (VN w.heap.size) W w S E (bJ (n+1) (.unary) l)):=by
 obtain⟨T,hT⟩:∃ T,bJ (n+1) (.unary) l=T:=⟨_,rfl⟩;rw [hT] at hne ⊢;simp only [bJ] at hT;have HT:=Z_ hT;have h_:=Z_ hne;have HM:=Z_ hm;have aA:Hid (At W w (w.alloc (.cells #[.int .i64 0,.string ⟨#[]⟩,.int .i64 0,.slice none 0 0] 24)) S E w.heap.size l):=Z_ (At.start h);obtain⟨A,hA⟩:∃ A,w.heap.size=A:=⟨_,rfl⟩;rw [hA] at aA;have Pj:S<A:=by have:=h.lt;omega
 clear h hm hne hT;go_enter Tryz.func375,Tryz.ntmps375
 go_upto_region 1 with (fail)
 generalize w.alloc (.cells #[.int .i64 0,.string ⟨#[]⟩,.int .i64 0,.slice none 0 0] 24)=u0 at *;have HH:=Z_ (dh aA.out.pr zZ);have gu:=Z_ (fun (h:fK l [zZ]=true)=>bF.aV h);generalize fK l [zZ]=R at *;go_wp2_with fail
 refine HH.out.mono ?_
 rintro e u1 ⟨rfl,hC,hP⟩;cases R with
 | false=>
  replace hP:bz W u1 S E l:=by simpa using hP
  have HT0:=HT.out;clear HT;simp only [Bool.false_eq_true,↓reduceIte] at HT0;have HT:=Z_ HT0;clear HT0;replace aA:=Z_ (aA.out.call hC hP);clear hC hP HH gu;have HH:=Z_ (dh aA.out.pr OJ);have gu:=Z_ (fun (h:fK l [OJ]=true)=>bF.aV h);generalize fK l [OJ]=R at *;go_wp2_with fail
  refine HH.out.mono ?_
  rintro e u2 ⟨rfl,hC,hP⟩;cases R with
  | false=>
   replace hP:bz W u2 S E l:=by simpa using hP
   have HT0:=HT.out;clear HT;simp only [Bool.false_eq_true,↓reduceIte] at HT0;have HT:=Z_ HT0;clear HT0;replace aA:=Z_ (aA.out.call hC hP);clear hC hP HH gu
   have HH:=Z_ (uq (aA.out.pr.alloc (.cells #[.string iD] 9)) u2.heap.size [iD] 1 1 rfl (by decide) (fun j hj=>by
    obtain rfl:j=0:=by simpa using hj
    exact(aC.made u2 #[.string iD] 9).cell 0) (by simp))
   have eP:=(aB.refl (fun _=>False) u2).alloc (.cells #[.string iD] 9);replace aA:=Z_ (aA.out.extend eP);clear eP;generalize fK l [iD]=R at *;go_wp2_with fail
   refine HH.out.mono ?_
   rintro e u3 ⟨rfl,hE⟩;replace aA:=Z_ (aA.out.extend hE);clear hE HH;cases R with
   | false=>
    have HT0:=HT.out;clear HT;simp only [Bool.false_eq_true,↓reduceIte] at HT0;have HT:=Z_ HT0;clear HT0;have HH:=Z_ (oz aA.out.pr);have hk:=F5 E l;generalize sO E l=tk0 at HH hk;obtain⟨tk,tt,ta⟩:=tk0;simp only at hk;unfold H9 at HH;go_wp2_with fail
    refine HH.out.mono ?_
    rintro e u4 ⟨rfl,hE⟩;replace aA:=Z_ (aA.out.extend hE);have hfi:=Ez (.int .i64 tk) (.string tt) (.int .i64 ta) u4;rw [←hk] at HT;clear hE HH hk;by_cases hk2:tk=2
    ·subst hk2
     have HT0:=HT.out;clear HT;simp only [↓reduceIte] at HT0;have HT:=Z_ HT0;clear HT0;have iE:=aA.out.lt;obtain⟨B,hB⟩:∃ B,u4.heap.size=B:=⟨_,rfl⟩;rw [hB] at iE;have HN:=Z_ (lV aA.out.pr);go_wp2_with fail
     refine HN.out.mono ?_
     rintro e u5 hr;obtain⟨hC,⟨lb,hp,rfl⟩|⟨x,l5,v,hp,rfl,hv,hP⟩⟩:=hr.cases (by rw [HT.out];exact h_.out)
     ·have HF:=Z_ (HT.out.symm.trans hp)
      have HC:=Z_ (aA.out.aK.then hC);clear hr hp hC;go_wp2_with fail
      exact⟨rfl,eC.fails HC.out HF.out⟩
     replace HT:=Z_ (HT.out.symm.trans hp);replace aA:=Z_ (aA.out.call hC hP);obtain⟨ka,ta,ma,aa,na,ca,rfl⟩:=cH hv;have HV:=Z_ (show VN _ _ _ _ from hv);clear hr hp hC hP hv HN;rw [hB] at HV;have r0:=aA.out.res.cell;have rf:=aA.out.res.frozen;have rl:=aA.out.res.lt;unfold bK at r0;go_wp2_with fail
     refine bG rfl rfl rfl ((((aA.out.res.set 0 _).set 1 _).set 2 _).set 3 _) Tryz.underlying24 rfl (by kernel_rfl) ?_
     exact eM aA.out (below B) (HV.out) (cg (by omega)) (fun i hi=>cg (by omega)) (HT.out)
    ·have HT0:=HT.out
     clear HT;simp only [if_neg hk2] at HT0;have HT:=Z_ HT0;clear HT0;have hk3:(tk == 2)=false:=by simpa using hk2
     have HN:=Z_ (qB aA.out.pr HM.out);go_wp2_with fail
     refine HN.out.mono ?_
     rintro e u6 hr;obtain⟨hC,⟨lb,hp,rfl⟩|⟨s6,l6,v,hp,rfl,⟨rfl,hs⟩,hP⟩⟩:=hr.cases (qC _)
     ·have HF:=Z_ (Out.aF HT.out hp)
      have HC:=Z_ (aA.out.aK.then hC);clear hr hp hC;go_wp2_with fail
      exact⟨rfl,eC.fails HC.out HF.out⟩
     replace HT:=Z_ (Out.aG HT.out hp);replace aA:=Z_ (aA.out.call hC hP);have mM:=Z_ hs;clear hr hp hC hP HN;clear hs
     have HH:=Z_ (uq (aA.out.pr.alloc (.cells #[.string iD] 9)) u6.heap.size [iD] 1 1 rfl (by decide) (fun j hj=>by
      obtain rfl:j=0:=by simpa using hj
      exact(aC.made u6 #[.string iD] 9).cell 0) (by simp))
     have eP:=(aB.refl (fun _=>False) u6).alloc (.cells #[.string iD] 9);replace aA:=Z_ (aA.out.extend eP);clear eP;generalize fK l6 [iD]=R at *;go_wp2_with fail
     refine HH.out.mono ?_
     rintro e u7 ⟨rfl,hE⟩;replace aA:=Z_ (aA.out.extend hE);clear hE HH;cases R with
     | false=>
      have HT0:=HT.out;clear HT;simp only [Bool.false_eq_true,↓reduceIte] at HT0;have HT:=Z_ HT0;clear HT0;have iE:=aA.out.lt;obtain⟨B,hB⟩:∃ B,u7.heap.size=B:=⟨_,rfl⟩;rw [hB] at iE;have HN:=Z_ (ih n (Nat.le_refl _) (.place s6) _ _ aA.out.pr HM.out rfl mM.out (by rw [HT.out];exact h_.out));go_wp2_with fail
      refine HN.out.mono ?_
      rintro e u8 hr;obtain⟨hC,⟨lb,hp,rfl⟩|⟨x8,l8,v8,hp,rfl,hv,hP⟩⟩:=hr.cases (by rw [HT.out];exact h_.out)
      ·have HF:=Z_ (HT.out.symm.trans hp)
       have HC:=Z_ (aA.out.aK.then hC);clear hr hp hC;go_wp2_with fail
       exact⟨rfl,eC.fails HC.out HF.out⟩
      replace HT:=Z_ (HT.out.symm.trans hp);replace aA:=Z_ (aA.out.call hC hP);obtain⟨ka8,ta8,ma8,aa8,na8,ca8,rfl⟩:=cH hv;have HV8:=Z_ hv;have Oy:u7.heap.size≤u8.heap.size:=hC.size;clear hr hp hC hP hv HN;rw [hB] at HV8;have r0:=aA.out.res.cell;have rf:=aA.out.res.frozen;have rl:=aA.out.res.lt;unfold bK at r0;go_wp2_with fail
      refine bG rfl rfl rfl ((((aA.out.res.set 0 _).set 1 _).set 2 _).set 3 _) Tryz.underlying24 rfl (by kernel_rfl) ?_
      exact eM aA.out (below B) (HV8.out) (cg (by omega)) (fun i hi=>cg (by omega)) (HT.out)
     | true=>
      have HT0:=HT.out;clear HT;simp only [↓reduceIte] at HT0;have HT:=Z_ HT0;clear HT0;have iE:=aA.out.lt;obtain⟨B,hB⟩:∃ B,u7.heap.size=B:=⟨_,rfl⟩;rw [hB] at iE;have HN:=Z_ (ih n (Nat.le_refl _) (.call s6) _ _ aA.out.pr HM.out rfl mM.out (by rw [HT.out];exact h_.out));go_wp2_with fail
      refine HN.out.mono ?_
      rintro e u9 hr;obtain⟨hC,⟨lb,hp,rfl⟩|⟨x9,l9,v9,hp,rfl,hv,hP⟩⟩:=hr.cases (by rw [HT.out];exact h_.out)
      ·have HF:=Z_ (HT.out.symm.trans hp)
       have HC:=Z_ (aA.out.aK.then hC);clear hr hp hC;go_wp2_with fail
       exact⟨rfl,eC.fails HC.out HF.out⟩
      replace HT:=Z_ (HT.out.symm.trans hp);replace aA:=Z_ (aA.out.call hC hP);obtain⟨ka9,ta9,ma9,aa9,na9,ca9,rfl⟩:=cH hv;have HV9:=Z_ hv;have Hq:u7.heap.size≤u9.heap.size:=hC.size;clear hr hp hC hP hv HN;rw [hB] at HV9;have r0:=aA.out.res.cell;have rf:=aA.out.res.frozen;have rl:=aA.out.res.lt;unfold bK at r0;go_wp2_with fail
      refine bG rfl rfl rfl ((((aA.out.res.set 0 _).set 1 _).set 2 _).set 3 _) Tryz.underlying24 rfl (by kernel_rfl) ?_
      exact eM aA.out (below B) (HV9.out) (cg (by omega)) (fun i hi=>cg (by omega)) (HT.out)
   | true=>
    have HT0:=HT.out;clear HT;simp only [↓reduceIte] at HT0;have HT:=Z_ HT0;clear HT0;have iE:=aA.out.lt;obtain⟨B,hB⟩:∃ B,u3.heap.size=B:=⟨_,rfl⟩;rw [hB] at iE;have HN:=Z_ (ih n (Nat.le_refl _) (.asked) _ _ aA.out.pr HM.out rfl trivial (by rw [HT.out];exact h_.out));go_wp2_with fail
    refine HN.out.mono ?_
    rintro e u10 hr;obtain⟨hC,⟨lb,hp,rfl⟩|⟨x10,l10,v10,hp,rfl,hv,hP⟩⟩:=hr.cases (by rw [HT.out];exact h_.out)
    ·have HF:=Z_ (HT.out.symm.trans hp)
     have HC:=Z_ (aA.out.aK.then hC);clear hr hp hC;go_wp2_with fail
     exact⟨rfl,eC.fails HC.out HF.out⟩
    replace HT:=Z_ (HT.out.symm.trans hp);replace aA:=Z_ (aA.out.call hC hP);obtain⟨Pn,Po,Pq,Pv,Px,Py,rfl⟩:=cH hv;have Dj:=Z_ hv;have Gj:u3.heap.size≤u10.heap.size:=hC.size;clear hr hp hC hP hv HN;rw [hB] at Dj;have r0:=aA.out.res.cell;have rf:=aA.out.res.frozen;have rl:=aA.out.res.lt;unfold bK at r0;go_wp2_with fail
    refine bG rfl rfl rfl ((((aA.out.res.set 0 _).set 1 _).set 2 _).set 3 _) Tryz.underlying24 rfl (by kernel_rfl) ?_
    exact eM aA.out (below B) (Dj.out) (cg (by omega)) (fun i hi=>cg (by omega)) (HT.out)
  | true=>
   replace hP:bz W u2 S E l.tail:=by simpa using hP
   have HT0:=HT.out;clear HT;simp only [↓reduceIte] at HT0;have HT:=Z_ HT0;clear HT0;replace aA:=Z_ (aA.out.call hC hP);clear hC hP HH gu;have iE:=aA.out.lt;obtain⟨B,hB⟩:∃ B,u2.heap.size=B:=⟨_,rfl⟩;rw [hB] at iE;have HN:=Z_ (ih n (Nat.le_refl _) (.unary) _ _ aA.out.pr HM.out rfl trivial (Out.bh HT.out h_.out));go_wp2_with fail
   refine HN.out.mono ?_
   rintro e u12 hr;obtain⟨hC,⟨lb,hp,rfl⟩|⟨x12,l12,v12,hp,rfl,hv,hP⟩⟩:=hr.cases (Out.bh HT.out h_.out)
   ·have HF:=Z_ (Out.aF HT.out hp)
    have HC:=Z_ (aA.out.aK.then hC);clear hr hp hC;go_wp2_with fail
    exact⟨rfl,eC.fails HC.out HF.out⟩
   replace HT:=Z_ (Out.aG HT.out hp);replace aA:=Z_ (aA.out.call hC hP);obtain⟨X6,X7,X8,X9,X_,Ya,rfl⟩:=cH hv;have Yb:=Z_ hv;have Yc:u2.heap.size≤u12.heap.size:=hC.size;clear hr hp hC hP hv HN;rw [hB] at Yb Yc;replace HR:=Z_ (Ag Yb.out (by simp [below];omega) 21 0 aU (by decide) (c:=#[.int .i64 X6,.string X7,.int .i64 X8,.slice X9 X_ Ya]) rfl);have eP:=(aB.refl (fun _=>False) u12).alloc (.cells #[.int .i64 X6,.string X7,.int .i64 X8,.slice X9 X_ Ya] 24);replace aA:=Z_ (aA.out.extend eP);clear eP;go_wp2_with fail
   refine(dH _ _ _ _ _ _ _).mono ?_
   rintro e u13 ⟨rfl,hE⟩;replace aA:=Z_ (aA.out.extend hE);replace HR:=Z_ (aX (aH hE fun _ _ h=>h.elim) _ _ HR.out);clear hE;have r0:=aA.out.res.cell;have rf:=aA.out.res.frozen;have rl:=aA.out.res.lt;unfold bK at r0;go_wp2_with fail
   refine bG rfl rfl rfl ((((aA.out.res.set 0 _).set 1 _).set 2 _).set 3 _) Tryz.underlying24 rfl (by kernel_rfl) ?_
   exact eM aA.out (below B) (HR.out) (cg (by omega)) (fun i hi=>cg (by omega)) (HT.out.symm)
 | true=>
  replace hP:bz W u1 S E l.tail:=by simpa using hP
  have HT0:=HT.out;clear HT;simp only [↓reduceIte] at HT0;have HT:=Z_ HT0;clear HT0;replace aA:=Z_ (aA.out.call hC hP);clear hC hP HH gu;have iE:=aA.out.lt;obtain⟨B,hB⟩:∃ B,u1.heap.size=B:=⟨_,rfl⟩;rw [hB] at iE;have HN:=Z_ (ih n (Nat.le_refl _) (.unary) _ _ aA.out.pr HM.out rfl trivial (Out.bh HT.out h_.out));go_wp2_with fail
  refine HN.out.mono ?_
  rintro e u15 hr;obtain⟨hC,⟨lb,hp,rfl⟩|⟨x15,l15,v15,hp,rfl,hv,hP⟩⟩:=hr.cases (Out.bh HT.out h_.out)
  ·have HF:=Z_ (Out.aF HT.out hp)
   have HC:=Z_ (aA.out.aK.then hC);clear hr hp hC;go_wp2_with fail
   exact⟨rfl,eC.fails HC.out HF.out⟩
  replace HT:=Z_ (Out.aG HT.out hp);replace aA:=Z_ (aA.out.call hC hP);obtain⟨Yd,Ye,Yf,Yg,Yh,Yi,rfl⟩:=cH hv;have Yj:=Z_ hv;have Yk:u1.heap.size≤u15.heap.size:=hC.size;clear hr hp hC hP hv HN;rw [hB] at Yj Yk;replace HR:=Z_ (Ag Yj.out (by simp [below];omega) 20 0 aU (by decide) (c:=#[.int .i64 Yd,.string Ye,.int .i64 Yf,.slice Yg Yh Yi]) rfl);have eP:=(aB.refl (fun _=>False) u15).alloc (.cells #[.int .i64 Yd,.string Ye,.int .i64 Yf,.slice Yg Yh Yi] 24);replace aA:=Z_ (aA.out.extend eP);clear eP;go_wp2_with fail
  refine(dH _ _ _ _ _ _ _).mono ?_
  rintro e u16 ⟨rfl,hE⟩;replace aA:=Z_ (aA.out.extend hE);replace HR:=Z_ (aX (aH hE fun _ _ h=>h.elim) _ _ HR.out);clear hE;have r0:=aA.out.res.cell;have rf:=aA.out.res.frozen;have rl:=aA.out.res.lt;unfold bK at r0;go_wp2_with fail
  refine bG rfl rfl rfl ((((aA.out.res.set 0 _).set 1 _).set 2 _).set 3 _) Tryz.underlying24 rfl (by kernel_rfl) ?_
  exact eM aA.out (below B) (HR.out) (cg (by omega)) (fun i hi=>cg (by omega)) (HT.out.symm)
end bu
end Go.Proofs.YtpcihajmcejliacGreatDoor
namespace Go.Proofs.YtpcihajmcejliacGreatDoor
open Go.RowKit
namespace bu
set_option maxRecDepth 100000 in
set_option maxHeartbeats 4000000 in
theorem v_ {n:Nat} (ih:∀ m,m≤n→Good m) {W w:World} {S E:Nat} {l:List Tk} {s:ByteArray} (h:bz W w S E l) (hm:cE W) (hs:s.size≤7000) (hne:bJ (n+1) (.call s) l≠.out) :
  Calls Tryz.prog 332 #[.pointer (some ⟨S,0,none⟩),.string s] w (eC (VN w.heap.size) W w S E (bJ (n+1) (.call s) l)):=by
 obtain⟨T,hT⟩:∃ T,bJ (n+1) (.call s) l=T:=⟨_,rfl⟩;rw [hT] at hne ⊢;simp only [bJ] at hT;have HT:=Z_ hT;have h_:=Z_ hne;have HM:=Z_ hm;have aA:Hid (At W w (w.alloc (.cells #[.int .i64 0,.string ⟨#[]⟩,.int .i64 0,.slice none 0 0] 24)) S E w.heap.size l):=Z_ (At.start h);obtain⟨A,hA⟩:∃ A,w.heap.size=A:=⟨_,rfl⟩;rw [hA] at aA;have Pj:S<A:=by have:=h.lt;omega
 clear h hm hne hT;go_enter Tryz.func332,Tryz.ntmps332
 go_upto_region 1 with (fail)
 generalize w.alloc (.cells #[.int .i64 0,.string ⟨#[]⟩,.int .i64 0,.slice none 0 0] 24)=u0 at *;have HN:=Z_ (b_ (aA.out.pr.alloc (.cells #[.string iD] 9)) u0.heap.size 1 iD ((aC.made u0 #[.string iD] 9).cell 0));have eP:=(aB.refl (fun _=>False) u0).alloc (.cells #[.string iD] 9);replace aA:=Z_ (aA.out.extend eP);clear eP;go_wp2_with fail
 refine HN.out.mono ?_
 rintro e u1 hr;obtain⟨hC,⟨lb,hp,rfl⟩|⟨_,l1,_,hp,rfl,rfl,hP⟩⟩:=hr.cases (di _ _)
 ·have HF:=Z_ (Out.aF HT.out hp)
  have HC:=Z_ (aA.out.aK.then hC);clear hr hp hC;go_wp2_with fail
  exact⟨rfl,eC.fails HC.out HF.out⟩
 replace HT:=Z_ (Out.aG HT.out hp);replace aA:=Z_ (aA.out.call hC hP);clear hr hp hC hP HN;go_wp2_with fail
 refine(dH _ _ _ _ _ _ _).mono ?_
 rintro e u2 ⟨rfl,hE⟩;replace aA:=Z_ (aA.out.extend hE);have HB:=Z_ ((aA.out.alloc (.cells #[.int .i64 18,.string s,.int .i64 0,.slice none 0 0] 24)).U7 (aC.made u2 _ _) aA.out.lt);obtain⟨N,hN⟩:∃ N,u2.heap.size=N:=⟨_,rfl⟩;rw [hN] at HB;clear hE aA;go_upto_block 0 with (fail)
 generalize u2.alloc (.cells #[.int .i64 18,.string s,.int .i64 0,.slice none 0 0] 24)=v0 at *;go_cut [] (fun w'=>∃ (acc:List Nd) (row:Value) (l2:List Tk),Hid ((dY dN l2).bind (fun _ l=>.got (.mk 18 s 0 acc) l)=T)∧Hid (iU W w w' S E A N l2 18 s 0 row row acc))
 case first=>
  go_wp2_with fail
  go_loopg [] n (fun k wr=>∃ l2 acc row,k≤n∧Hid (bJ k (.args s acc) l2=T)∧Hid (iU W w wr S E A N l2 18 s 0 row row acc))
  case atStart=>exact⟨l1,[],.slice none 0 0,Nat.le_refl _,HT,HB⟩
  clear HT HB
  case round=>
   obtain⟨lr,acc,row,hkn,HT,HB⟩:=hrel;cases gk with
   | zero=>exact absurd HT.out.symm h_.out
   | succ m=>
    have HT0:=HT.out;clear HT;simp only [bJ] at HT0;have HT:=Z_ HT0;clear HT0;have aA:=Z_ HB.out.at;obtain⟨ra,rc,rfl⟩:=HB.out.slice
    have HH:=Z_ (uq (aA.out.pr.alloc (.cells #[.string dN] 9)) wr.heap.size [dN] 1 1 rfl (by decide) (fun j hj=>by
     obtain rfl:j=0:=by simpa using hj
     exact(aC.made wr #[.string dN] 9).cell 0) (by simp))
    have eP:=(aB.refl (fun _=>False) wr).alloc (.cells #[.string dN] 9);replace HB:=Z_ (HB.out.extend eP);replace aA:=Z_ HB.out.at;clear eP;generalize fK lr [dN]=R at *;go_wp2_with fail
    refine HH.out.mono ?_
    rintro e u3 ⟨rfl,hE⟩;replace HB:=Z_ (HB.out.extend hE);replace aA:=Z_ HB.out.at;clear hE HH;cases R with
    | false=>
     have HT0:=HT.out;clear HT;simp only [Bool.false_eq_true,false_and,↓reduceIte] at HT0;have HT:=Z_ HT0;clear HT0;go_upto_region 4 with (fail)
     refine aj [3,4,5,7] (fun i v _=>v=([.pointer (some ⟨N,3,none⟩),(.slice ra acc.length rc),.pointer (some ⟨S,0,none⟩),undef,undef,undef,.pointer (some ⟨N,3,none⟩),undef]:List Value).getD i undef) (fJ W w S E A N lr 18 s 0 (.slice ra acc.length rc) acc (bJ m .expr lr)) (fun _ _=>True) (frame:=?ES) (fun x=>?rK) mixed (by kernel_rfl) (by kernel_rfl) (fun _ _ _ _ h _=>h) ?ET ?EU ?rL
     case rK=>
      simp only [chain.aN,chain.fill,chain.bf,chain.aY,jW,jX,jY,jZ,kz,kC,kD,kE,kF];exact rfl
     case ET=>exact HB.out.extend (aB.refl _ _).drew
     case EU=>
      iterate 8 (refine ak.cons (fun x vs u hF hm hb hd K' hK'=>?_) ?_;rotate_left)
      exact ak.nil
      ·have HF:=Z_ hF;clear hd hm hb hF;go_simp;exact hK'.out _ _ _ rfl trivial ⟨rfl,HF.out⟩
      ·have y0:x 21=.pointer (some ⟨N,3,none⟩):=(D_ hd 0 :);have hc:=hF.cell (by have:=hb 2 _ (by decide) rfl (by kernel_rfl);omega);have HF:=Z_ hF;clear hd hm hb hF;go_simp;exact hK'.out _ _ _ (by simp only [y0];rfl) trivial ⟨rfl,HF.out⟩
      ·have HF:=Z_ hF;clear hd hm hb hF;go_simp;exact hK'.out _ _ _ rfl trivial ⟨rfl,HF.out⟩
      ·have y0:x 23=.pointer (some ⟨S,0,none⟩):=(D_ hd 2 :);obtain rfl:=kS hm;have HF:=Z_ (show iU _ _ _ _ _ _ _ _ _ _ _ _ _ _ from hF);clear hd hm hb hF;have jM:=Z_ (ih m (by omega) .expr _ _ HF.out.pr HM.out rfl trivial (Out.bh HT.out h_.out));go_simp;refine jM.out.mono ?_
       rintro e u2 hr;obtain⟨hC,⟨lb,hp,rfl⟩|⟨xn,ln,v,hp,rfl,hv,hP⟩⟩:=hr.cases (Out.bh HT.out h_.out)
       ·have HE:=Z_ (Out.aF HT.out hp)
        have HC:=Z_ (HF.out.aK.then hC);clear hr hp hC hK' jM;go_wp2_with fail
        exact⟨rfl,eC.fails HC.out HE.out⟩
       ·exact hK'.out _ _ _ (by simp only [y0];rfl) trivial (fQ HF.out hC hp hv hP (bF.dO _ _ _ _ _ hp))
      ·obtain⟨v0,rfl⟩:=mD hm
       have y0:x 24=v0:=((D_ hd 3) 24 (by kernel_rfl) :);have hcl:∃ a b c d,v0=.agg #[a,b,c,d]:=by obtain⟨xn,ln,_,_,_,hx⟩:=hF;obtain⟨a,b,c,d,h,_⟩:=bD hx;exact⟨a,b,c,d,h⟩
       obtain⟨a0,b0,c0,d0,rfl⟩:=hcl;have HF:=Z_ hF;clear hd hm hb hF;go_simp;exact hK'.out _ _ _ (by simp only [y0];rfl) trivial (dU HF.out rfl)
      ·obtain⟨v0,v1,rfl⟩:=tN hm
       have y0:x 22=(.slice ra acc.length rc):=(D_ hd 1 :);have y1:x 25=v1:=((D_ hd 4) 25 (by kernel_rfl) :);have hF2:=hF;obtain⟨xn,ln,hT1,aO,hfew,hx,gg,rfl,hgb,hgr⟩:=hF2;obtain⟨us,hu1,ho,hu3⟩:=aO.grow.ex;have hlt:=aO.lt;obtain⟨iW,iY,hz0,hz1,hz2⟩:=aW eU;refine wp_append_lies _ _ _ 22 rfl (N+1) 24 iW (.agg #[.int .i64 0,.string ⟨#[]⟩,.int .i64 0,.slice none 0 0]) 4 56 Tryz.underlying22 iY hz0 hz1 hz2 rfl (by decide) (.slice ra acc.length rc) acc.length (us.flatMap fun u=>u.cells.toList) y0 ho ⟨gg,0,none⟩ 1 1 v0.cells.toList y1 (by rw [Array.length_toList,fB hx]) ?_ (by obtain⟨a,b,c,d,e,e2,p1,p2,p3,p4⟩:=bD hx;rw [e2];intro q hq;simp at hq;rcases hq with rfl|rfl|rfl|rfl<;>assumption) (by decide) (by unfold maxLen;omega) (by omega) (by omega) u.heap.size rfl ?_
       ·intro j q hj;have e:(⟨gg,0,none⟩:Addr).add j=⟨gg,j,none⟩:=(by unfold Addr.add;split<;>simp_all);rw [e,hgb.cell];simpa using hj
       ·intro g9 c9 w9 ju iZ kU uI
        exact hK'.out _ _ _ rfl trivial (push_append hF hu1 hu3 ju iZ kU)
      ·have HF:=Z_ hF;clear hd hm hb hF;go_simp;exact hK'.out _ _ _ rfl trivial ⟨rfl,HF.out⟩
      ·obtain⟨v0,v1,v2,rfl⟩:=zF hm
       have y0:x 27=.pointer (some ⟨N,3,none⟩):=(D_ hd 6 :);have y1:x 26=v2:=((D_ hd 5) 26 (by kernel_rfl) :);have hF2:=hF;obtain⟨xn,ln,hT1,aO,gg,cc,rfl⟩:=hF2;have hc:=aO.nd.cell 3;have hf:=aO.nd.frozen 3;have hl:=aO.lt;simp at hc
       have HF:=Z_ hF;clear hd hm hb hF aO hT1;go_simp;exact hK'.out _ _ undef (by simp only [y0,y1];rfl) trivial (dV HF.out)
     case rL=>
      intro x vs w9 hl hF hk;obtain⟨v0,v1,v2,v3,rfl⟩:=zG hl
      obtain⟨xn,ln,hT1,jV⟩:=hF;clear hk hl;replace HT:=Z_ (Out.aG HT.out hT1.out);replace HB:=Z_ jV;replace aA:=Z_ HB.out.at;clear hT1 jV;have HH:=Z_ (dh aA.out.pr jS);have gu:=Z_ (fun (h:fK ln [jS]=true)=>bF.aV h);generalize fK ln [jS]=R at *;go_wp2_with fail
      refine HH.out.mono ?_
      rintro e u4 ⟨rfl,hC,hP⟩;cases R with
      | false=>
       replace hP:bz W u4 S E ln:=by simpa using hP
       have HT0:=HT.out;clear HT;simp only [Bool.false_eq_true,↓reduceIte] at HT0;have HT:=Z_ HT0;clear HT0;replace HB:=Z_ (HB.out.call hC hP (Nat.le_refl _));replace aA:=Z_ HB.out.at;clear hC hP HH gu;go_wp2_with fail
       go_meet
       exact⟨acc ++ [xn],v2,ln,HT,HB⟩
      | true=>
       replace hP:bz W u4 S E ln.tail:=by simpa using hP
       have HT0:=HT.out;clear HT;simp only [↓reduceIte] at HT0;have HT:=Z_ HT0;clear HT0;replace HB:=Z_ (HB.out.call hC hP (by have:=gu.out rfl;omega));replace aA:=Z_ HB.out.at;clear hC hP HH gu;go_wp2_with fail
       go_roundg m
       case rel=>exact⟨ln.tail,acc ++ [xn],v2,by omega,HT,HB⟩
       case measure=>omega
    | true=>
     have c3:=HB.out.nd.cell 3;simp at c3
     by_cases hl0:acc.length=0
     ·have HT0:=HT.out
      clear HT;simp only [hl0,and_self,↓reduceIte] at HT0;have HT:=Z_ HT0;clear HT0;have HB2:Hid (∃ row,iU W w u3 S E A N lr 18 s 0 row row acc):=Z_ ⟨_,HB.out⟩;clear HB aA;rw [hl0] at c3;go_wp2_with fail
      go_meet
      obtain⟨row,HB⟩:=HB2.out;exact⟨acc,row,lr,HT,Z_ HB⟩
     ·have HT0:=HT.out
      clear HT;simp only [hl0,and_false,↓reduceIte] at HT0;have HT:=Z_ HT0;clear HT0;have hl1:0<acc.length:=by omega
      go_upto_region 4 with (fail)
      refine aj [3,4,5,7] (fun i v _=>v=([.pointer (some ⟨N,3,none⟩),(.slice ra acc.length rc),.pointer (some ⟨S,0,none⟩),undef,undef,undef,.pointer (some ⟨N,3,none⟩),undef]:List Value).getD i undef) (fJ W w S E A N lr 18 s 0 (.slice ra acc.length rc) acc (bJ m .expr lr)) (fun _ _=>True) (frame:=?Es) (fun x=>?rD) mixed (by kernel_rfl) (by kernel_rfl) (fun _ _ _ _ h _=>h) ?Et ?Eu ?rE
      case rD=>
       simp only [chain.aN,chain.fill,chain.bf,chain.aY,jW,jX,jY,jZ,kz,kC,kD,kE,kF];exact rfl
      case Et=>exact HB.out.extend (aB.refl _ _).drew
      case Eu=>
       iterate 8 (refine ak.cons (fun x vs u hF hm hb hd K' hK'=>?_) ?_;rotate_left)
       exact ak.nil
       ·have HF:=Z_ hF;clear hd hm hb hF;go_simp;exact hK'.out _ _ _ rfl trivial ⟨rfl,HF.out⟩
       ·have y0:x 21=.pointer (some ⟨N,3,none⟩):=(D_ hd 0 :);have hc:=hF.cell (by have:=hb 2 _ (by decide) rfl (by kernel_rfl);omega);have HF:=Z_ hF;clear hd hm hb hF;go_simp;exact hK'.out _ _ _ (by simp only [y0];rfl) trivial ⟨rfl,HF.out⟩
       ·have HF:=Z_ hF;clear hd hm hb hF;go_simp;exact hK'.out _ _ _ rfl trivial ⟨rfl,HF.out⟩
       ·have y0:x 23=.pointer (some ⟨S,0,none⟩):=(D_ hd 2 :);obtain rfl:=kS hm;have HF:=Z_ (show iU _ _ _ _ _ _ _ _ _ _ _ _ _ _ from hF);clear hd hm hb hF;have jM:=Z_ (ih m (by omega) .expr _ _ HF.out.pr HM.out rfl trivial (Out.bh HT.out h_.out));go_simp;refine jM.out.mono ?_
        rintro e u2 hr;obtain⟨hC,⟨lb,hp,rfl⟩|⟨xn,ln,v,hp,rfl,hv,hP⟩⟩:=hr.cases (Out.bh HT.out h_.out)
        ·have HE:=Z_ (Out.aF HT.out hp)
         have HC:=Z_ (HF.out.aK.then hC);clear hr hp hC hK' jM;go_wp2_with fail
         exact⟨rfl,eC.fails HC.out HE.out⟩
        ·exact hK'.out _ _ _ (by simp only [y0];rfl) trivial (fQ HF.out hC hp hv hP (bF.dO _ _ _ _ _ hp))
       ·obtain⟨v0,rfl⟩:=mD hm
        have y0:x 24=v0:=((D_ hd 3) 24 (by kernel_rfl) :);have hcl:∃ a b c d,v0=.agg #[a,b,c,d]:=by obtain⟨xn,ln,_,_,_,hx⟩:=hF;obtain⟨a,b,c,d,h,_⟩:=bD hx;exact⟨a,b,c,d,h⟩
        obtain⟨a0,b0,c0,d0,rfl⟩:=hcl;have HF:=Z_ hF;clear hd hm hb hF;go_simp;exact hK'.out _ _ _ (by simp only [y0];rfl) trivial (dU HF.out rfl)
       ·obtain⟨v0,v1,rfl⟩:=tN hm
        have y0:x 22=(.slice ra acc.length rc):=(D_ hd 1 :);have y1:x 25=v1:=((D_ hd 4) 25 (by kernel_rfl) :);have hF2:=hF;obtain⟨xn,ln,hT1,aO,hfew,hx,gg,rfl,hgb,hgr⟩:=hF2;obtain⟨us,hu1,ho,hu3⟩:=aO.grow.ex;have hlt:=aO.lt;obtain⟨iW,iY,hz0,hz1,hz2⟩:=aW eU;refine wp_append_lies _ _ _ 22 rfl (N+1) 24 iW (.agg #[.int .i64 0,.string ⟨#[]⟩,.int .i64 0,.slice none 0 0]) 4 56 Tryz.underlying22 iY hz0 hz1 hz2 rfl (by decide) (.slice ra acc.length rc) acc.length (us.flatMap fun u=>u.cells.toList) y0 ho ⟨gg,0,none⟩ 1 1 v0.cells.toList y1 (by rw [Array.length_toList,fB hx]) ?_ (by obtain⟨a,b,c,d,e,e2,p1,p2,p3,p4⟩:=bD hx;rw [e2];intro q hq;simp at hq;rcases hq with rfl|rfl|rfl|rfl<;>assumption) (by decide) (by unfold maxLen;omega) (by omega) (by omega) u.heap.size rfl ?_
        ·intro j q hj;have e:(⟨gg,0,none⟩:Addr).add j=⟨gg,j,none⟩:=(by unfold Addr.add;split<;>simp_all);rw [e,hgb.cell];simpa using hj
        ·intro g9 c9 w9 ju iZ kU uI
         exact hK'.out _ _ _ rfl trivial (push_append hF hu1 hu3 ju iZ kU)
       ·have HF:=Z_ hF;clear hd hm hb hF;go_simp;exact hK'.out _ _ _ rfl trivial ⟨rfl,HF.out⟩
       ·obtain⟨v0,v1,v2,rfl⟩:=zF hm
        have y0:x 27=.pointer (some ⟨N,3,none⟩):=(D_ hd 6 :);have y1:x 26=v2:=((D_ hd 5) 26 (by kernel_rfl) :);have hF2:=hF;obtain⟨xn,ln,hT1,aO,gg,cc,rfl⟩:=hF2;have hc:=aO.nd.cell 3;have hf:=aO.nd.frozen 3;have hl:=aO.lt;simp at hc
        have HF:=Z_ hF;clear hd hm hb hF aO hT1;go_simp;exact hK'.out _ _ undef (by simp only [y0,y1];rfl) trivial (dV HF.out)
      case rE=>
       intro x vs w9 hl hF hk;obtain⟨v0,v1,v2,v3,rfl⟩:=zG hl
       obtain⟨xn,ln,hT1,jV⟩:=hF;clear hk hl;replace HT:=Z_ (Out.aG HT.out hT1.out);replace HB:=Z_ jV;replace aA:=Z_ HB.out.at;clear hT1 jV;have HH:=Z_ (dh aA.out.pr jS);have gu:=Z_ (fun (h:fK ln [jS]=true)=>bF.aV h);generalize fK ln [jS]=R at *;go_wp2_with fail
       refine HH.out.mono ?_
       rintro e u4 ⟨rfl,hC,hP⟩;cases R with
       | false=>
        replace hP:bz W u4 S E ln:=by simpa using hP
        have HT0:=HT.out;clear HT;simp only [Bool.false_eq_true,↓reduceIte] at HT0;have HT:=Z_ HT0;clear HT0;replace HB:=Z_ (HB.out.call hC hP (Nat.le_refl _));replace aA:=Z_ HB.out.at;clear hC hP HH gu;go_wp2_with fail
        go_meet
        exact⟨acc ++ [xn],v2,ln,HT,HB⟩
       | true=>
        replace hP:bz W u4 S E ln.tail:=by simpa using hP
        have HT0:=HT.out;clear HT;simp only [↓reduceIte] at HT0;have HT:=Z_ HT0;clear HT0;replace HB:=Z_ (HB.out.call hC hP (by have:=gu.out rfl;omega));replace aA:=Z_ HB.out.at;clear hC hP HH gu;go_wp2_with fail
        go_roundg m
        case rel=>exact⟨ln.tail,acc ++ [xn],v2,by omega,HT,HB⟩
        case measure=>omega
 case rest=>
  clear HT HB;obtain⟨acc,row,l2,HT,HB⟩:=hcut;have aA:=Z_ HB.out.at;generalize wc=u7 at *;have HN:=Z_ (b_ (aA.out.pr.alloc (.cells #[.string dN] 9)) u7.heap.size 1 dN ((aC.made u7 #[.string dN] 9).cell 0));have eP:=(aB.refl (fun _=>False) u7).alloc (.cells #[.string dN] 9);replace HB:=Z_ (HB.out.extend eP);replace aA:=Z_ HB.out.at;clear eP;go_wp2_with fail
  refine HN.out.mono ?_
  rintro e u4 hr;obtain⟨hC,⟨lb,hp,rfl⟩|⟨_,l4,_,hp,rfl,rfl,hP⟩⟩:=hr.cases (di _ _)
  ·have HF:=Z_ (Out.aF HT.out hp)
   have HC:=Z_ (aA.out.aK.then hC);clear hr hp hC;go_wp2_with fail
   exact⟨rfl,eC.fails HC.out HF.out⟩
  replace HT:=Z_ (Out.aG HT.out hp);replace HB:=Z_ (HB.out.call hC hP (by have:=bF.aZ hp;omega));replace aA:=Z_ HB.out.at;clear hr hp hC hP HN;obtain⟨ra,rn,rc,hrow⟩:=HB.out.slice3
  first|subst hrow|clear hrow
  have c0:=HB.out.nd.cell 0;have c1:=HB.out.nd.cell 1;have c2:=HB.out.nd.cell 2;have c3:=HB.out.nd.cell 3;have r0:=HB.out.res.cell;have rf:=HB.out.res.frozen;have rl:=HB.out.res.lt;unfold bK at r0;simp at c0 c1 c2 c3
  go_wp2_with fail
  refine bG rfl rfl rfl ((((HB.out.res.set 0 _).set 1 _).set 2 _).set 3 _) Tryz.underlying24 rfl (by kernel_rfl) ?_
  exact HB.out.ret (by omega) (HT.out.symm) _ _ _ _
end bu
end Go.Proofs.YtpcihajmcejliacGreatDoor
