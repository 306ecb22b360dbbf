/- The walk of the printer's expr. -/
import Derived.Defers
import Derived.Lib.AppendIntMem
import Derived.Lib.SmallJoins
import Derived.Recover
import Derived.StillTailTactics
import Derived.Test.YtpcihajmcejliacGreatDoorPrtT
namespace Go.Proofs.YtpcihajmcejliacGreatDoor
open Go.RowKit
namespace prt
open bH
theorem BO {m:Int} (h0:0≤m) (h1:m≤11):bits .and .i64 m 2=if 2≤m % 4 then 2 else 0:=by
 have h:m=0∨m=1∨m=2∨m=3∨m=4∨m=5∨m=6∨m=7∨m=8∨m=9∨m=10∨m=11:=by omega
 rcases h with rfl|rfl|rfl|rfl|rfl|rfl|rfl|rfl|rfl|rfl|rfl|rfl<;>rfl
theorem then_assoc (a b c:PO):(a.then b).then c=a.then (b.then c):=by
 obtain⟨a1,a2⟩:=a;obtain⟨b1,b2⟩:=b;obtain⟨c1,c2⟩:=c
 cases a1<;>cases b1<;>simp [PO.then]
theorem aT (ws l:List ByteArray) (R:PO):PO.then (true,ws) ((ah l).then R)=PO.then (true,ws++l) R:=by simp [PO.then,ah]
theorem dw (ws:List ByteArray) (R:PO):PO.then (true,ws) ((bu true).then R)=PO.then (true,ws) R:=by simp [PO.then,bu]
theorem eC (ws:List ByteArray) (R:PO):PO.then (true,ws) ((bu false).then R)=(false,ws):=by simp [PO.then,bu]
theorem then_ok (ws l:List ByteArray) (R:PO):PO.then (true,ws) (PO.then (true,l) R)=PO.then (true,ws++l) R:=by simp [PO.then]
theorem di (ws l:List ByteArray) (R:PO):PO.then (true,ws) (PO.then (false,l) R)=(false,ws++l):=by simp [PO.then]
theorem fH (ws:List ByteArray):PO.then (true,ws) (ah [])=(true,ws):=by simp [PO.then,ah]
theorem fE (p:PO):p=p.then (ah []):=by
 obtain⟨a,b⟩:=p;cases a<;>simp [PO.then,ah]
theorem dP (p:PO):p=PO.then (true,[]) p:=by simp [PO.then]
theorem PB.assoc {W u0 u:World} {S Nb:Nat} {kU row:Value} {acc a b:List ByteArray} {nc:Array Value} (h:PB W u0 u S Nb kU row (acc++a++b) nc):PB W u0 u S Nb kU row (acc++(a++b)) nc:=by rw [←List.append_assoc];exact h
theorem PB.nil {W u0 u:World} {S Nb:Nat} {kU row:Value} {acc:List ByteArray} {nc:Array Value} (h:PB W u0 u S Nb kU row acc nc):PB W u0 u S Nb kU row (acc ++ []) nc:=by rw [List.append_nil];exact h
set_option maxRecDepth 100000 in
theorem MG {W u:World} {S:Nat} {row:Value} {acc:List ByteArray} (h:PW W u S row acc) (k m:Int) (t:ByteArray) (a:Option Addr) (n c:Nat) (h0:0≤m) (h1:m≤11) (hm:acc.length+1≤1000000) :
  Calls Tryz.prog 180 #[.pointer (some ⟨S,0,none⟩),.agg #[.int .i64 k,.string t,.int .i64 m,.slice a n c]] u fun e u'=>e=.returned (.tuple #[])∧∃ row',PF W u u' S row row' (acc++rK m):=by
 have hb:=BO h0 h1;have HB:=Z_ (PB.made h #[.int .i64 k,.string t,.int .i64 m,.slice a n c]);obtain⟨Nb,hNb⟩:∃ Nb,u.heap.size=Nb:=⟨_,rfl⟩;rw [hNb] at HB;have HM:=Z_ hm;obtain⟨z,hz⟩:∃ z,bits .and .i64 m 2=z:=⟨_,rfl⟩;rw [hz] at hb;have hbc:=HB.out.nb.cell;clear h h0 h1 hm;unfold rK;by_cases h2:2≤m % 4
 ·rw [if_pos h2] at hb ⊢
  subst hb;clear h2;go_enter Tryz.func180,Tryz.ntmps180
  go_upto_region 1 with (fail)
  try rw [hNb]
  generalize u.alloc (.cells #[.int .i64 k,.string t,.int .i64 m,.slice a n c] 24)=u0 at *;clear hNb;go_wp2_with fail
  refine(bQ HB.out.f.pw [rL] _ rfl 1 rfl (by decide) HM.out).mono ?_
  rintro e w2 ⟨rfl,Vp,hF2⟩;have HB2:=Z_ (HB.out.call hF2);clear hF2 hbc HB;go_wp2_with fail
  go_end0
  exact⟨rfl,_,HB2.out.f⟩
 ·rw [if_neg h2] at hb ⊢
  subst hb;clear h2;go_enter Tryz.func180,Tryz.ntmps180
  go_wp2_with fail
  go_end0
  exact⟨rfl,_,HB.out.f.nil⟩
def ExC (W:World) (S:Nat) (x:Nd):Prop:=∀ (v:Value) (u:World) (row:Value) (acc:List ByteArray) (least:Int),PW W u S row acc→nO W x v→acc.length+12*dL x≤1000000→0≤least→least≤10→
 Calls Tryz.prog 182 #[.pointer (some ⟨S,0,none⟩),v,.int .i64 least] u (wO W u S row acc (fJ least x))
theorem gI {W w:World} (hE:Ext W w) {a:Option Addr} {l:List Nd} (h:fN 4 Vq W a l) (j:Nat) (hj:j<l.length):∃ b o k1 t1 m1 a1 n1 c1,a=some ⟨b,o,none⟩∧nO W l[j] (.agg #[.int .i64 k1,.string t1,.int .i64 m1,.slice a1 n1 c1])∧
  w.cell? ⟨b,o+j*4,none⟩=some (.int .i64 k1)∧w.cell? ⟨b,o+j*4+1,none⟩=some (.string t1)∧w.cell? ⟨b,o+j*4+2,none⟩=some (.int .i64 m1)∧w.cell? ⟨b,o+j*4+3,none⟩=some (.slice a1 n1 c1):=by
 obtain⟨b,o,rfl,hb,u,hu,hs,hc⟩:=h j hj;have hu2:=hu;obtain⟨k1,t1,m1,a1,n1,c1,rfl⟩:=yc hu2;exact⟨b,o,k1,t1,m1,a1,n1,c1,rfl,hu,(hE.cell (p:=⟨b,o+j*4,none⟩) hb id).trans ((hc 0 (by decide)).trans rfl),(hE.cell (p:=⟨b,o+j*4+1,none⟩) hb id).trans ((hc 1 (by decide)).trans rfl),(hE.cell (p:=⟨b,o+j*4+2,none⟩) hb id).trans ((hc 2 (by decide)).trans rfl),(hE.cell (p:=⟨b,o+j*4+3,none⟩) hb id).trans ((hc 3 (by decide)).trans rfl)⟩
theorem lK {t:ByteArray} {m:Int} {n:Nat} {a b c:Int} (h:cZ t m n a b c=true):t=aF∧0≤m∧m≤c∧a≤(n:Int)∧(b<0∨(n:Int)≤b):=by
 unfold cZ nH at h;simpa [and_assoc] using h
theorem Vr {t:ByteArray} {m:Int} {n:Nat} {a b:Int} (h:qB t m n a b=true):a≤(n:Int)∧(b<0∨(n:Int)≤b):=by
 unfold qB nH at h;simp only [Bool.and_eq_true,Bool.or_eq_true,decide_eq_true_eq] at h;exact⟨h.2.1.2,h.2.2⟩
theorem Ee (t:ByteArray):(jA t).length≤3:=by unfold jA;split<;>simp
theorem jK (a b:PO):(a.then b).2.length≤a.2.length+b.2.length:=by
 unfold PO.then
 split
 ·simp
 ·omega
def sumP (ks:List PO):Nat:=(ks.map fun p=>p.2.length+1).sum
theorem MH:∀ (l:List PO) (f:Bool),(oJ l f).2.length≤sumP l
 | [],f=>by simp [oJ,ah,sumP]
 | p::r,f=>by
  have h1:=MH r false;have h2:=jK (ah (if f=true then [] else [fL])) (p.then (oJ r false));have h3:=jK p (oJ r false);have h4:(ah (if f=true then [] else [fL])).2.length≤1:=by unfold ah;split<;>simp
  rw [oJ];simp only [sumP,List.map_cons,List.sum_cons] at h1 ⊢;omega
theorem SY (ks:List PO) (j:Nat):(bF ks j).2.length≤sumP ks:=by
 unfold bF sumP;induction ks generalizing j with
 | nil=>simp [ah]
 | cons p r ih=>
  cases j with
  | zero=>simp only [List.getD_cons_zero,List.map_cons,List.sum_cons];omega
  | succ j=>have:=ih j;simp only [List.getD_cons_succ,List.map_cons,List.sum_cons];omega
theorem ng (b:Bool) (p:PO):((bu b).then p).2.length≤if b=true then p.2.length else 0:=by
 cases b<;>simp [bu,PO.then]
theorem tj (l:List ByteArray) (p:PO):((ah l).then p).2.length=l.length+p.2.length:=by simp [ah,PO.then]
theorem Cb (t:ByteArray) (m:Int) (n:Nat) (a b:Int):(gG t m n a b).2.length≤3:=by
 unfold gG;have h3:=ng (qB t m n a b) (ah (jA t));have h4:=Ee t;have h5:(ah (jA t)).2.length≤3:=h4;split at h3<;>omega
theorem xx (t:ByteArray) (m:Int) (n:Nat) (a b:Int) (p:PO):((gG t m n a b).then p).2.length≤3+p.2.length:=by
 have h1:=jK (gG t m n a b) p
 have h2:(gG t m n a b).2.length≤3:=by
  unfold gG;have h3:=ng (qB t m n a b) (ah (jA t));have h4:=Ee t;have h5:(ah (jA t)).2.length≤3:=h4;split at h3<;>omega
 omega
theorem SZ (b:Bool) (p:PO):(oq b p).2.length≤p.2.length+2:=by
 unfold oq;split<;>simp
theorem Vs (k:Int) (t:ByteArray) (m least:Int) (ks:List PO):(pV k t m ks.length least ks).2.length≤sumP ks+6:=by
 unfold pV;split
 ·have h1:=ng (cZ t 0 ks.length 2 2 0) ((bu (decide (0≤(dW m).2))).then (oq (decide ((dW m).2<least)) ((bF ks 0).then ((ah [(dW m).1]).then (bF ks 1)))))
  split at h1
  ·rename_i hp
   obtain⟨-,-,-,h2,h3⟩:=lK hp;have hl:ks.length=2:=by omega
   match ks,hl with
   | [p,q],_=>
    have h4:=ng (decide (0≤(dW m).2)) (oq (decide ((dW m).2<least)) ((bF [p,q] 0).then ((ah [(dW m).1]).then (bF [p,q] 1))));have h5:=SZ (decide ((dW m).2<least)) ((bF [p,q] 0).then ((ah [(dW m).1]).then (bF [p,q] 1)));have h6:=jK (bF [p,q] 0) ((ah [(dW m).1]).then (bF [p,q] 1));rw [tj] at h6;have h7:(bF [p,q] 0).2.length=p.2.length:=rfl;have h8:(bF [p,q] 1).2.length=q.2.length:=rfl;simp only [sumP,List.map_cons,List.sum_cons,List.map_nil,List.sum_nil,List.length_cons,List.length_nil] at *;split at h4<;>omega
  ·omega
 ·split
  ·generalize (if k=20 then pO else Ac)=sg
   have h1:=ng (cZ t m ks.length 1 1 0) ((ah [sg]).then (bF ks 0));have h2:=SY ks 0;rw [tj] at h1;simp only [List.length_cons,List.length_nil] at h1;split at h1<;>omega
  ·split
   ·have h1:=ng (decide (t=aF)&&decide (0≤m)&&decide (ks.length=0)) (ah [xm m])
    have h2:(ah [xm m]).2.length=1:=rfl;split at h1<;>omega
   ·split
    ·have h1:=xx t m ks.length 1 1 ((ah [ov]).then ((bF ks 0).then (ah [lN])))
     have h2:=SY ks 0;have h3:=jK (bF ks 0) (ah [lN]);have h4:(ah [lN]).2.length=1:=rfl;rw [tj] at h1;simp only [List.length_cons,List.length_nil] at h1;omega
    ·split
     ·have h1:=xx t m ks.length 0 (-1) ((ah [dh]).then ((oJ ks true).then (ah [aV])))
      have h2:=MH ks true;have h3:=jK (oJ ks true) (ah [aV]);have h4:(ah [aV]).2.length=1:=rfl;rw [tj] at h1;simp only [List.length_cons,List.length_nil] at h1;omega
     ·have h1:=ng (decide (k=16)) (gG t m ks.length 0 0)
      have h2:=xx t m ks.length 0 0 (ah []);rw [←fE] at h2;have h3:(ah []).2.length=0:=rfl;split at h1<;>omega
theorem Cc (k m:Int):∀ (l:List Nd) (j:Nat),(xZ k m l j).length=l.length
 | [],_=>rfl
 | x::r,j=>by rw [xZ,List.length_cons,List.length_cons,Cc k m r (j+1)]
theorem IG (k m:Int):∀ (l:List Nd) (i j:Nat) (hj:j<l.length),(xZ k m l i).drop j=fJ (kO k m (i+j)) l[j]::(xZ k m l i).drop (j+1)
 | x::r,i,0,_=>by rw [xZ];rfl
 | x::r,i,j+1,hj=>by
  rw [xZ,List.drop_succ_cons,List.drop_succ_cons,IG k m r (i+1) j (by simpa using hj),show i+1+j=i+(j+1) by omega];rfl
theorem iL:∀ (x:Nd) (least:Int),(fJ least x).2.length+1≤12*dL x:=by
 refine gz fun k t m l ih least=>?_
 have hK:∀ (r:List Nd) (j:Nat),(∀ x∈r,x∈l)→sumP (xZ k m r j)≤12*gm r:=by
  intro r;induction r with
  | nil=>intro j _;simp [xZ,sumP]
  | cons x r ih2=>
   intro j hr;have h1:=ih x (hr x (List.mem_cons_self ..)) (kO k m j);have h2:=ih2 (j+1) (fun y hy=>hr y (List.mem_cons_of_mem _ hy));simp only [xZ,sumP,List.map_cons,List.sum_cons,gm] at h2 ⊢;omega
 have h1:=Vs k t m least (xZ k m l 0);rw [Cc] at h1;have h2:=hK l 0 (fun x hx=>hx);rw [fJ];simp only [dL];omega
structure PG (W u0 u:World) (S Nb G:Nat) (kU row:Value) (acc:List ByteArray) (nc:Array Value):Prop where
 b:PB W u0 u S Nb kU row acc nc
 g:aJ u G #[.string aV] 9
 hG:S<G
 hX:∀ i,row.ownBlock=some i→i≠G
theorem PG.call {W u0 u u':World} {S Nb G:Nat} {kU row row':Value} {acc acc':List ByteArray} {nc:Array Value} (h:PG W u0 u S Nb G kU row acc nc) (k:PF W u u' S row row' acc'):PG W u0 u' S Nb G kU row' acc' nc:=
 ⟨h.b.call k,h.g.aU k.aU (fun e=>by
  have:=h.hG;rcases e with e|e
  ·omega
  ·exact h.hX _ e rfl),h.hG,fun i e=>by
  rcases k.own i e with f|f
  ·exact h.hX i f
  ·have:=h.g.lt;omega⟩
theorem PG.assoc {W u0 u:World} {S Nb G:Nat} {kU row:Value} {acc a b:List ByteArray} {nc:Array Value} (h:PG W u0 u S Nb G kU row (acc++a++b) nc):PG W u0 u S Nb G kU row (acc++(a++b)) nc:=by rw [←List.append_assoc];exact h
theorem PG.made {W u0 u:World} {S Nb:Nat} {kU row:Value} {acc:List ByteArray} {nc:Array Value} (h:PB W u0 u S Nb kU row acc nc):PG W u0 (u.alloc (.cells #[.string aV] 9)) S Nb u.heap.size kU row acc nc:=
 ⟨h.extend ((aB.refl _ _).alloc _),aJ.made u _ _,h.f.pw.s.lt,fun i e=>by have:=(h.f.pw.own i e).2;omega⟩
theorem S0 (ws:List ByteArray) (R:PO):PO.then (true,ws) ((oq true R).then (ah []))=((PO.then (true,ws ++ [dh]) R).1,(PO.then (true,ws ++ [dh]) R).2 ++ [aV]):=by
 obtain⟨a,b⟩:=R;cases a<;>simp [PO.then,oq,ah]
theorem Vt (ws:List ByteArray) (R:PO):PO.then (true,ws) ((oq false R).then (ah []))=PO.then (true,ws) R:=by
 obtain⟨a,b⟩:=R;cases a<;>simp [PO.then,oq,ah]
def sgL:List (Int×(ByteArray×Int)):=[(9,(⟨#[61,61]⟩,0)),(8,(⟨#[60]⟩,0)),(1,(⟨#[43]⟩,1)),(2,(⟨#[45]⟩,1)),(7,(⟨#[124]⟩,1)),(3,(⟨#[42]⟩,2)),(4,(⟨#[47]⟩,2)),(5,(⟨#[37]⟩,2)),(6,(⟨#[38]⟩,2))]
def sgF (m:Int):List (Int×(ByteArray×Int))→ByteArray×Int
 | []=>(aF,-1)
 | (c,r)::l=>if m=c then r else sgF m l
theorem ah3 (w:World):(Instr.index 378 (.agg #[.string ⟨#[61,61]⟩,.string ⟨#[60]⟩,.string ⟨#[43]⟩,.string ⟨#[45]⟩,.string ⟨#[124]⟩,.string ⟨#[42]⟩,.string ⟨#[47]⟩,.string ⟨#[37]⟩,.string ⟨#[38]⟩]) (.int .i64 0)).run Tryz.prog w=.ok (.string ⟨#[61,61]⟩) w:=by kernel_rfl
theorem ah4 (w:World):(Instr.index 378 (.agg #[.string ⟨#[61,61]⟩,.string ⟨#[60]⟩,.string ⟨#[43]⟩,.string ⟨#[45]⟩,.string ⟨#[124]⟩,.string ⟨#[42]⟩,.string ⟨#[47]⟩,.string ⟨#[37]⟩,.string ⟨#[38]⟩]) (.int .i64 1)).run Tryz.prog w=.ok (.string ⟨#[60]⟩) w:=by kernel_rfl
theorem ah5 (w:World):(Instr.index 378 (.agg #[.string ⟨#[61,61]⟩,.string ⟨#[60]⟩,.string ⟨#[43]⟩,.string ⟨#[45]⟩,.string ⟨#[124]⟩,.string ⟨#[42]⟩,.string ⟨#[47]⟩,.string ⟨#[37]⟩,.string ⟨#[38]⟩]) (.int .i64 2)).run Tryz.prog w=.ok (.string ⟨#[43]⟩) w:=by kernel_rfl
theorem ah6 (w:World):(Instr.index 378 (.agg #[.string ⟨#[61,61]⟩,.string ⟨#[60]⟩,.string ⟨#[43]⟩,.string ⟨#[45]⟩,.string ⟨#[124]⟩,.string ⟨#[42]⟩,.string ⟨#[47]⟩,.string ⟨#[37]⟩,.string ⟨#[38]⟩]) (.int .i64 3)).run Tryz.prog w=.ok (.string ⟨#[45]⟩) w:=by kernel_rfl
theorem ah7 (w:World):(Instr.index 378 (.agg #[.string ⟨#[61,61]⟩,.string ⟨#[60]⟩,.string ⟨#[43]⟩,.string ⟨#[45]⟩,.string ⟨#[124]⟩,.string ⟨#[42]⟩,.string ⟨#[47]⟩,.string ⟨#[37]⟩,.string ⟨#[38]⟩]) (.int .i64 4)).run Tryz.prog w=.ok (.string ⟨#[124]⟩) w:=by kernel_rfl
theorem ah8 (w:World):(Instr.index 378 (.agg #[.string ⟨#[61,61]⟩,.string ⟨#[60]⟩,.string ⟨#[43]⟩,.string ⟨#[45]⟩,.string ⟨#[124]⟩,.string ⟨#[42]⟩,.string ⟨#[47]⟩,.string ⟨#[37]⟩,.string ⟨#[38]⟩]) (.int .i64 5)).run Tryz.prog w=.ok (.string ⟨#[42]⟩) w:=by kernel_rfl
theorem ah9 (w:World):(Instr.index 378 (.agg #[.string ⟨#[61,61]⟩,.string ⟨#[60]⟩,.string ⟨#[43]⟩,.string ⟨#[45]⟩,.string ⟨#[124]⟩,.string ⟨#[42]⟩,.string ⟨#[47]⟩,.string ⟨#[37]⟩,.string ⟨#[38]⟩]) (.int .i64 6)).run Tryz.prog w=.ok (.string ⟨#[47]⟩) w:=by kernel_rfl
theorem ah_ (w:World):(Instr.index 378 (.agg #[.string ⟨#[61,61]⟩,.string ⟨#[60]⟩,.string ⟨#[43]⟩,.string ⟨#[45]⟩,.string ⟨#[124]⟩,.string ⟨#[42]⟩,.string ⟨#[47]⟩,.string ⟨#[37]⟩,.string ⟨#[38]⟩]) (.int .i64 7)).run Tryz.prog w=.ok (.string ⟨#[37]⟩) w:=by kernel_rfl
theorem ai0 (w:World):(Instr.index 378 (.agg #[.string ⟨#[61,61]⟩,.string ⟨#[60]⟩,.string ⟨#[43]⟩,.string ⟨#[45]⟩,.string ⟨#[124]⟩,.string ⟨#[42]⟩,.string ⟨#[47]⟩,.string ⟨#[37]⟩,.string ⟨#[38]⟩]) (.int .i64 8)).run Tryz.prog w=.ok (.string ⟨#[38]⟩) w:=by kernel_rfl
theorem KD (m:Int):(dW m).2=-1∨(0≤(dW m).2∧(dW m).2≤2):=by
 unfold dW
 repeat' split
 all_goals (simp)
theorem YN (m:Int):sgF m sgL=dW m:=rfl
set_option maxRecDepth 100000 in
set_option maxHeartbeats 4000000 in
theorem S5 (m:Int) (w:World):Calls Tryz.prog 230 #[.int .i64 m] w fun e w'=>e=.returned (.tuple #[.string (dW m).1,.int .i64 (dW m).2])∧w'=w:=by
 obtain⟨R,hR⟩:∃ R,sgF m sgL=R:=⟨_,rfl⟩;rw [←YN,hR];have HR:=Z_ hR;clear hR;go_enter Tryz.func230,Tryz.ntmps230
 go_upto_region 2 with (fail)
 go_wp2_with fail
 go_loopw [9] (fun i wr=>∃ j:Nat,j≤9∧i=.int .i64 (j:Nat)∧Hid (sgF m (sgL.drop j)=R)∧wr=w) (fun i _=>9-(intOf i).toNat)
 case atStart=>exact⟨0,by decide,rfl,HR,rfl⟩
 case round=>
  obtain⟨j,hj,rfl,HT,rfl⟩:=hrel;by_cases hlt:j<9
  ·have h9:j=0∨j=1∨j=2∨j=3∨j=4∨j=5∨j=6∨j=7∨j=8:=by omega
   have HOP:=Z_ (fun s w=>S9 s w);have hq0:lI ⟨#[61,61]⟩=(9,0):=by decide
   have hq1:lI ⟨#[60]⟩=(8,0):=by decide
   have hq2:lI ⟨#[43]⟩=(1,1):=by decide
   have hq3:lI ⟨#[45]⟩=(2,1):=by decide
   have hq4:lI ⟨#[124]⟩=(7,1):=by decide
   have hq5:lI ⟨#[42]⟩=(3,2):=by decide
   have hq6:lI ⟨#[47]⟩=(4,2):=by decide
   have hq7:lI ⟨#[37]⟩=(5,2):=by decide
   have hq8:lI ⟨#[38]⟩=(6,2):=by decide
   have hi0:=ah3;have hi1:=ah4;have hi2:=ah5;have hi3:=ah6;have hi4:=ah7;have hi5:=ah8;have hi6:=ah9;have hi7:=ah_;have hi8:=ai0;rcases h9 with rfl|rfl|rfl|rfl|rfl|rfl|rfl|rfl|rfl
   all_goals
    go_wp2_with fail
    refine(HOP.out _ _).mono ?_
    rintro e w2 ⟨rfl,rfl⟩;simp only [sgL,List.drop_succ_cons,List.drop_zero,sgF] at HT;split at HT
    ·rename_i hm
     subst hm;have HT2:=Z_ HT.out.symm;clear HT;go_wp2_with fail
     go_ret2
     rw [HT2.out];exact⟨rfl,rfl⟩
    ·rename_i hm
     have hmb:=beq_eq_false_iff_ne.2 (Ne.symm hm);go_wp2_with fail
     go_roundw
     case rel=>exact⟨_,by decide,rfl,HT,trivial⟩
     case measure=>decide
  ·obtain rfl:j=9:=by omega
   have HT2:=Z_ HT.out.symm;clear HT;go_wp2_with fail
   go_ret2
   rw [HT2.out];exact⟨rfl,rfl⟩
theorem MI {w w':World} (h:Lib.TabIs Tryz.prog w "internal/strconv.uint64pow10" .u64 Lib.pow10Tab) (hE:Ext w w'):Lib.TabIs Tryz.prog w' "internal/strconv.uint64pow10" .u64 Lib.pow10Tab:=
 Joins.tab_stays (g:=4) (by kernel_rfl) h hE.below (Nat.le_refl _)
set_option maxRecDepth 100000 in
set_option maxHeartbeats 16000000 in
theorem qj {W:World} {S:Nat} (hv:ErrVar W) (hmv:dG W) (htab:Lib.TabIs Tryz.prog W "internal/strconv.uint64pow10" .u64 Lib.pow10Tab):∀ x,ExC W S x:=by
 refine gz fun k t m l ih v u row acc least h hnd hm hl0 hl1=>?_
 rw [lJ] at hnd;obtain⟨a,cc,rfl,hc1,hc2,⟨hts,zK⟩,hrow⟩:=hnd;obtain⟨N,hN⟩:∃ N,l.length=N:=⟨_,rfl⟩;rw [fJ,hN];rw [hN] at hc1;have Uc:N≤9223372036854775807:=by unfold maxLen at hc2;omega
 have HN:=Z_ hN;have HI:=Z_ hrow;have HIH:=Z_ ih;have HV:=Z_ hv;have rC:=Z_ hmv;have YO:=Z_ htab;have HMI:=Z_ zK;have HLEN:=Z_ (show acc.length+12*(1+gm l)≤1000000 from by simp only [dL] at hm;omega);have Je:=Z_ hts;have HB:=Z_ (PB.made h #[.int .i64 k,.string t,.int .i64 m,.slice a N cc]).nil;obtain⟨Nb,hNb⟩:∃ Nb,u.heap.size=Nb:=⟨_,rfl⟩;rw [hNb] at HB;obtain⟨ks,hks⟩:∃ ks,xZ k m l 0=ks:=⟨_,rfl⟩;rw [hks];have vG:=Z_ hks;obtain⟨T,hT⟩:∃ T,pV k t m N least ks=T:=⟨_,rfl⟩;rw [hT];unfold pV at hT;clear hrow ih hv hmv htab hm hts zK h hN hks;by_cases k19:k=19
 ·subst k19
  rw [if_pos rfl] at hT;obtain⟨Xk,hpb⟩:∃ pb,cZ t 0 N 2 2 0=pb:=⟨_,rfl⟩;have jX:=Z_ (fun w=>iZ 19 0 t a N cc 2 2 0 w);have HSG:=Z_ (fun w=>S5 m w);have hsr:=KD m;have hkl:∀ j,kO 19 m j=(if j=0 then (if (dW m).2=0 then 1 else (dW m).2) else (dW m).2+1):=fun j=>rfl
  obtain⟨sl,hsl⟩:∃ sl,dW m=sl:=⟨_,rfl⟩;rw [hsl] at hT HSG hsr hkl;rw [hpb] at hT jX;obtain⟨sg,lv⟩:=sl;have ug:=Z_ hpb;have uK:=Z_ hkl;simp only at hT hsr;obtain⟨lf,hlf⟩:∃ lf:Int,(if lv=0 then 1 else lv)=lf:=⟨_,rfl⟩;have ai1:0≤lv→0≤lf∧lf≤10:=by intro h;rw [←hlf];split<;>omega
  have JV:=Z_ hlf;have ai2:=Z_ ai1;have HT:=Z_ (show PO.then (true,[]) ((bu Xk).then ((bu (decide (0≤lv))).then ((oq (decide (lv<least)) ((bF ks 0).then ((ah [sg]).then (bF ks 1)))).then (ah []))))=T by rw [←hT,←fE (oq _ _),←dP]);clear hT hpb hsl hkl hlf ai1;go_enter_defers Tryz.func182,Tryz.ntmps182
  go_upto_region 1 with (fail)
  try rw [hNb]
  generalize u.alloc (.cells #[.int .i64 19,.string t,.int .i64 m,.slice a N cc] 24)=u0 at *;clear hNb;have HU:=Z_ HB.out.hU;have hbc:=HB.out.nb.cell;have hbf:=HB.out.nb.frozen;have hbl:=HB.out.nb.lt;go_wp2_with fail
  refine(HSG.out _).mono ?_
  rintro e w3 ⟨rfl,rfl⟩;go_upto_region 7 with (fail)
  have hst:=HB.out.setB 2 (.int .i64 0);clear hbc hbf hbl;replace HB:=Z_ (show PB W u (w3.setCell ⟨Nb,2,none⟩ (.int .i64 0)) S Nb row row (acc ++ []) #[.int .i64 19,.string t,.int .i64 0,.slice a N cc] from hst);clear hst;generalize w3.setCell ⟨Nb,2,none⟩ (.int .i64 0)=w4 at *;have hbc:=HB.out.nb.cell;go_wp2_with fail
  clear hbc;refine(jX.out _).mono ?_
  rintro e w3 ⟨he,jq⟩;replace HB:=Z_ (HB.out.extend jq);clear jq;cases Xk with
  | false=>
   obtain rfl:e=_:=he;simp only [Bool.false_eq_true,if_false];go_wp2_with fail
   exact aG (by rw [←HT.out,eC]) HB.out.f
  | true=>
   obtain rfl:e=_:=he;rw [dw] at HT;simp only [if_true];have Ub:=Z_ (show N=2 from by have h:=lK ug.out;omega);by_cases hlv:0≤lv
   ·have YP:decide (0≤lv)=true:=by simpa using hlv
    rw [YP,dw] at HT;by_cases hw:lv<least
    ·
     have hwd:decide (lv<least)=true:=by simpa using hw
     rw [hwd,S0] at HT;go_wp2_with fail
     refine(gq true _).mono ?_
     rintro e w5 ⟨rfl,rfl⟩;simp only [if_true];go_wp2_with fail
     refine(bQ HB.out.f.pw [dh] _ rfl 1 rfl (by decide) (by have h9:=HLEN.out;first|omega|(simp at h9 ⊢;omega))).mono ?_
     rintro e w6 ⟨rfl,Vu,Pe⟩;replace HB:=Z_ (HB.out.call Pe).assoc;clear Pe;obtain⟨Q,hQ⟩:∃ Q,PO.then (true,[] ++ [dh]) ((bF ks 0).then ((ah [sg]).then (bF ks 1)))=Q:=⟨_,rfl⟩
     rw [hQ] at HT;have WJ:=Z_ HT.out.symm;clear HT;have HT:=Z_ hQ;clear hQ;obtain⟨G,hG⟩:∃ G,w6.heap.size=G:=⟨_,rfl⟩;replace HB:=Z_ (PG.made HB.out);rw [hG] at HB;go_upto_region 12 with (fail)
     try rw [hG]
     have hwc:∃ w7,w6.alloc (.cells #[.string ⟨#[41]⟩] 9)=w7:=⟨_,rfl⟩;obtain⟨w7,hw7⟩:=hwc;replace HB:=Z_ (show PG W u w7 S Nb G row Vu (acc++([] ++ [dh])) #[.int .i64 19,.string t,.int .i64 0,.slice a N cc] from by rw [←hw7];exact HB.out);rw [hw7];clear hw7 hG;go_upto_if 44 with (fail)
     go_cut [8] from 44 to 44 (fun s w'=>s=.int .i64 lf∧w'=w7)
     case first=>
      by_cases hz:lv=0
      ·subst hz
       obtain rfl:lf=1:=JV.out.symm;go_wp2_with fail
       go_meet
       exact⟨rfl,rfl⟩
      ·have hzb:(lv == 0)=false:=beq_eq_false_iff_ne.2 hz
       obtain rfl:lv=lf:=by rw [←JV.out,if_neg hz]
       go_wp2_with fail
       go_meet
       exact⟨rfl,rfl⟩
     case rest=>
      obtain⟨rfl,rfl⟩:=hcut;have S_:l.length=2:=by have h1:=HN.out;have h2:=Ub.out;omega
      obtain⟨x,y,rfl⟩:∃ x y,l=[x,y]:=by match l,S_ with|[x,y],_=>exact⟨x,y,rfl⟩
      have hk0:bF ks 0=fJ lf x:=by rw [←vG.out];show fJ (kO 19 m 0) x=_;rw [uK.out,if_pos rfl,JV.out]
      have hk1:bF ks 1=fJ (lv+1) y:=by rw [←vG.out];show fJ (kO 19 m (0+1)) y=_;rw [uK.out];rfl
      obtain⟨p,hp⟩:∃ p,fJ lf x=p:=⟨_,rfl⟩;obtain⟨q,hq⟩:∃ q,fJ (lv+1) y=q:=⟨_,rfl⟩;have hpl:=iL x lf;have kN:=iL y (lv+1);rw [hk0,hk1,hp,hq] at HT;rw [hp] at hpl;rw [hq] at kN;have Dz:=Z_ hp;have SU:=Z_ hq;have YQ:N=2:=Ub.out;subst YQ;have hsz:gm [x,y]=dL x+dL y:=by simp only [gm];omega
      have yj:=ai2.out hlv;have Vw:lv≤2:=by omega
      have hwl:wrap64 (lv+1)=lv+1:=IntWalk.wrap64_in _ (by omega);have hi0:(0:Int)<(2:Int):=by decide
      have hi1:(1:Int)<(2:Int):=by decide
      clear S_ hk0 hk1 hp hq;obtain⟨b,o,k1,t1,m1,a1,n1,c1,ha,hu,q0,q1,q2,q3⟩:=gI HB.out.b.f.pw.ext HI.out 0 (by simp);subst ha;simp only [Nat.zero_mul,Nat.add_zero] at q0 q1 q2 q3;have iz:=Z_ (HIH.out x (by simp) _ _ _ _ (lf) HB.out.b.f.pw hu (by have h9:=HLEN.out;first|omega|(simp at h9 ⊢;omega)) (by have:=yj;omega) (by have:=yj;omega));rw [Dz.out] at iz;have hbc:=HB.out.b.nb.cell;clear hu;go_wp2_with fail
      clear hbc q0 q1 q2 q3;refine iz.out.mono ?_
      rintro e w3 ⟨⟨row3,hF3⟩,he⟩;replace HB:=Z_ (HB.out.call hF3).assoc;clear hF3 iz;obtain⟨pb,pw⟩:=p;cases pb with
      | false=>
       obtain rfl:e=_:=he;simp only [Bool.false_eq_true,if_false];go_wp2_with fail
       refine leaves_cons (f:=100) (args:=#[.pointer (some ⟨S,0,none⟩),.slice (some ⟨G,0,none⟩) 1 1]) (by simp) (by simp [go_sem]) ?_
       refine(Ce HB.out.b.f.pw [aV] G HB.out.g (by have:=HB.out.hG;omega) (fun e=>HB.out.hX _ e rfl) (by decide) (by have h9:=HLEN.out;first|omega|(simp at h9 ⊢;omega)) _).mono ?_
       rintro e md w9 ⟨rfl,rfl,ai3,rG⟩;exact aG (by rw [WJ.out,←HT.out,di]) (HB.out.call rG).assoc.b.f
      | true=>
       obtain rfl:e=_:=he;rw [then_ok] at HT;simp only [if_true];go_wp2_with fail
       refine(bQ HB.out.b.f.pw [sg] _ rfl 1 rfl (by decide) (by have h9:=HLEN.out;first|omega|(simp at h9 ⊢;omega))).mono ?_
       rintro e w8 ⟨rfl,ax0,Xl⟩;replace HB:=Z_ (HB.out.call Xl).assoc;clear Xl;rw [aT] at HT;obtain⟨b,o,k1,t1,m1,a1,n1,c1,ha,hu,q0,q1,q2,q3⟩:=gI HB.out.b.f.pw.ext HI.out 1 (by simp);cases ha
       simp only [Nat.one_mul] at q0 q1 q2 q3;have iz:=Z_ (HIH.out y (by simp) _ _ _ _ (lv+1) HB.out.b.f.pw hu (by have h9:=HLEN.out;first|omega|(simp at h9 ⊢;omega)) (by have:=yj;omega) (by have:=yj;omega));rw [SU.out] at iz;have hbc:=HB.out.b.nb.cell;clear hu;go_wp2_with fail
       clear hbc q0 q1 q2 q3;refine iz.out.mono ?_
       rintro e w3 ⟨⟨row3,hF3⟩,he⟩;replace HB:=Z_ (HB.out.call hF3).assoc;clear hF3 iz;obtain⟨qb,qw⟩:=q;cases qb with
       | false=>
        obtain rfl:e=_:=he;simp only [Bool.false_eq_true,if_false];rw [fE (false,qw)] at HT;go_wp2_with fail
        refine leaves_cons (f:=100) (args:=#[.pointer (some ⟨S,0,none⟩),.slice (some ⟨G,0,none⟩) 1 1]) (by simp) (by simp [go_sem]) ?_
        refine(Ce HB.out.b.f.pw [aV] G HB.out.g (by have:=HB.out.hG;omega) (fun e=>HB.out.hX _ e rfl) (by decide) (by have h9:=HLEN.out;first|omega|(simp at h9 ⊢;omega)) _).mono ?_
        rintro e md w9 ⟨rfl,rfl,ai3,rG⟩;exact aG (by rw [WJ.out,←HT.out,di]) (HB.out.call rG).assoc.b.f
       | true=>
        obtain rfl:e=_:=he;rw [fE (true,qw)] at HT;rw [then_ok] at HT;simp only [if_true];go_wp2_with fail
        refine leaves_cons (f:=100) (args:=#[.pointer (some ⟨S,0,none⟩),.slice (some ⟨G,0,none⟩) 1 1]) (by simp) (by simp [go_sem]) ?_
        refine(Ce HB.out.b.f.pw [aV] G HB.out.g (by have:=HB.out.hG;omega) (fun e=>HB.out.hX _ e rfl) (by decide) (by have h9:=HLEN.out;first|omega|(simp at h9 ⊢;omega)) _).mono ?_
        rintro e md w9 ⟨rfl,rfl,ai3,rG⟩;exact⟨_,results_none rfl _ _ _,eU (by rw [WJ.out,←HT.out,fH]) (HB.out.call rG).assoc.b.f⟩
    ·
     have hwd:decide (lv<least)=false:=by simpa using hw
     rw [hwd,Vt] at HT;go_wp2_with fail
     refine(gq true _).mono ?_
     rintro e w5 ⟨rfl,rfl⟩;simp only [if_true];go_upto_if 44 with (fail)
     go_cut [8] from 44 to 44 (fun s w'=>s=.int .i64 lf∧w'=w5)
     case first=>
      by_cases hz:lv=0
      ·subst hz
       obtain rfl:lf=1:=JV.out.symm;go_wp2_with fail
       go_meet
       exact⟨rfl,rfl⟩
      ·have hzb:(lv == 0)=false:=beq_eq_false_iff_ne.2 hz
       obtain rfl:lv=lf:=by rw [←JV.out,if_neg hz]
       go_wp2_with fail
       go_meet
       exact⟨rfl,rfl⟩
     case rest=>
      obtain⟨rfl,rfl⟩:=hcut;have S_:l.length=2:=by have h1:=HN.out;have h2:=Ub.out;omega
      obtain⟨x,y,rfl⟩:∃ x y,l=[x,y]:=by match l,S_ with|[x,y],_=>exact⟨x,y,rfl⟩
      have hk0:bF ks 0=fJ lf x:=by rw [←vG.out];show fJ (kO 19 m 0) x=_;rw [uK.out,if_pos rfl,JV.out]
      have hk1:bF ks 1=fJ (lv+1) y:=by rw [←vG.out];show fJ (kO 19 m (0+1)) y=_;rw [uK.out];rfl
      obtain⟨p,hp⟩:∃ p,fJ lf x=p:=⟨_,rfl⟩;obtain⟨q,hq⟩:∃ q,fJ (lv+1) y=q:=⟨_,rfl⟩;have hpl:=iL x lf;have kN:=iL y (lv+1);rw [hk0,hk1,hp,hq] at HT;rw [hp] at hpl;rw [hq] at kN;have Dz:=Z_ hp;have SU:=Z_ hq;have YQ:N=2:=Ub.out;subst YQ;have hsz:gm [x,y]=dL x+dL y:=by simp only [gm];omega
      have yj:=ai2.out hlv;have Vw:lv≤2:=by omega
      have hwl:wrap64 (lv+1)=lv+1:=IntWalk.wrap64_in _ (by omega);have hi0:(0:Int)<(2:Int):=by decide
      have hi1:(1:Int)<(2:Int):=by decide
      clear S_ hk0 hk1 hp hq;obtain⟨b,o,k1,t1,m1,a1,n1,c1,ha,hu,q0,q1,q2,q3⟩:=gI HB.out.f.pw.ext HI.out 0 (by simp);subst ha;simp only [Nat.zero_mul,Nat.add_zero] at q0 q1 q2 q3;have iz:=Z_ (HIH.out x (by simp) _ _ _ _ (lf) HB.out.f.pw hu (by have h9:=HLEN.out;first|omega|(simp at h9 ⊢;omega)) (by have:=yj;omega) (by have:=yj;omega));rw [Dz.out] at iz;have hbc:=HB.out.nb.cell;clear hu;go_wp2_with fail
      clear hbc q0 q1 q2 q3;refine iz.out.mono ?_
      rintro e w3 ⟨⟨row3,hF3⟩,he⟩;replace HB:=Z_ (HB.out.call hF3).assoc;clear hF3 iz;obtain⟨pb,pw⟩:=p;cases pb with
      | false=>
       obtain rfl:e=_:=he;simp only [Bool.false_eq_true,if_false];go_wp2_with fail
       exact aG (by rw [←HT.out,di]) HB.out.f
      | true=>
       obtain rfl:e=_:=he;rw [then_ok] at HT;simp only [if_true];go_wp2_with fail
       refine(bQ HB.out.f.pw [sg] _ rfl 1 rfl (by decide) (by have h9:=HLEN.out;first|omega|(simp at h9 ⊢;omega))).mono ?_
       rintro e w8 ⟨rfl,ax0,Xl⟩;replace HB:=Z_ (HB.out.call Xl).assoc;clear Xl;rw [aT] at HT;obtain⟨b,o,k1,t1,m1,a1,n1,c1,ha,hu,q0,q1,q2,q3⟩:=gI HB.out.f.pw.ext HI.out 1 (by simp);cases ha
       simp only [Nat.one_mul] at q0 q1 q2 q3;have iz:=Z_ (HIH.out y (by simp) _ _ _ _ (lv+1) HB.out.f.pw hu (by have h9:=HLEN.out;first|omega|(simp at h9 ⊢;omega)) (by have:=yj;omega) (by have:=yj;omega));rw [SU.out] at iz;have hbc:=HB.out.nb.cell;clear hu;go_wp2_with fail
       clear hbc q0 q1 q2 q3;refine iz.out.mono ?_
       rintro e w3 ⟨⟨row3,hF3⟩,he⟩;replace HB:=Z_ (HB.out.call hF3).assoc;clear hF3 iz;obtain⟨qb,qw⟩:=q;cases qb with
       | false=>
        obtain rfl:e=_:=he;simp only [Bool.false_eq_true,if_false];rw [fE (false,qw)] at HT;go_wp2_with fail
        exact aG (by rw [←HT.out,di]) HB.out.f
       | true=>
        obtain rfl:e=_:=he;rw [fE (true,qw)] at HT;rw [then_ok] at HT;simp only [if_true];go_wp2_with fail
        exact⟨_,results_none rfl _ _ _,eU (by rw [←HT.out,fH]) HB.out.f⟩
   ·have YP:decide (0≤lv)=false:=by simpa using hlv
    rw [YP,eC] at HT;go_wp2_with fail
    refine(gq false _).mono ?_
    rintro e w5 ⟨rfl,rfl⟩;simp only [Bool.false_eq_true,if_false];go_wp2_with fail
    exact aG (by rw [←HT.out]) HB.out.f
 by_cases k20:k=20∨k=21
 ·rw [if_neg k19,if_pos k20] at hT
  rcases k20 with rfl|rfl
  ·clear k19
   obtain⟨Xk,hpb⟩:∃ pb,cZ t m N 1 1 0=pb:=⟨_,rfl⟩;have HT:=Z_ (show PO.then (true,[]) ((bu Xk).then ((ah [pO]).then ((bF ks 0).then (ah []))))=T by rw [←hT,hpb,←fE (bF ks 0),←dP];rfl);have jX:=Z_ (fun w=>iZ 20 m t a N cc 1 1 0 w);rw [hpb] at jX;have ug:=Z_ hpb;clear hT hpb;go_enter_defers Tryz.func182,Tryz.ntmps182
   go_upto_region 1 with (fail)
   try rw [hNb]
   generalize u.alloc (.cells #[.int .i64 20,.string t,.int .i64 m,.slice a N cc] 24)=u0 at *;clear hNb;have hbc:=HB.out.nb.cell;go_wp2_with fail
   try clear hbc
   refine(jX.out _).mono ?_
   rintro e w3 ⟨he,jq⟩;replace HB:=Z_ (HB.out.extend jq);clear jq;cases Xk with
   | false=>
    obtain rfl:e=_:=he;simp only [Bool.false_eq_true,if_false];go_wp2_with fail
    exact aG (by rw [←HT.out,eC]) HB.out.f
   | true=>
    obtain rfl:e=_:=he;rw [dw] at HT;simp only [if_true];have Gh:=Z_ (show N=1 from by have h:=lK ug.out;omega);have hbc:=HB.out.nb.cell;go_wp2_with fail
    try clear hbc
    refine(bQ HB.out.f.pw [pO] _ rfl 1 rfl (by decide) (by have h9:=HLEN.out;first|omega|(simp at h9 ⊢;omega))).mono ?_
    rintro e w3 ⟨rfl,row3,hF3⟩;replace HB:=Z_ (HB.out.call hF3).assoc;clear hF3;rw [aT] at HT;have hN1:l.length=1:=by have h1:=HN.out;have h2:=Gh.out;omega
    obtain⟨x,rfl⟩:∃ x,l=[x]:=by match l,hN1 with|[x],_=>exact⟨x,rfl⟩
    have hk0:bF ks 0=fJ 3 x:=by rw [←vG.out];rfl
    obtain⟨p,hp⟩:∃ p,fJ 3 x=p:=⟨_,rfl⟩;have hpl:=iL x (3);rw [hk0,hp] at HT;rw [hp] at hpl;have SV:=Z_ hp;have S_:N=1:=by rw [←HN.out];rfl
    subst S_;have hsz:gm [x]=dL x:=by simp only [gm];omega
    clear hN1 hk0 hp;obtain⟨b,o,k1,t1,m1,a1,n1,c1,ha,hu,q0,q1,q2,q3⟩:=gI HB.out.f.pw.ext HI.out 0 (by simp);subst ha;simp only [Nat.zero_mul,Nat.add_zero] at q0 q1 q2 q3;have iz:=Z_ (HIH.out x (by simp) _ _ _ _ 3 HB.out.f.pw hu (by have h9:=HLEN.out;first|omega|(simp at h9 ⊢;omega)) (by decide) (by decide));rw [SV.out] at iz;have hbc:=HB.out.nb.cell;clear hu;go_wp2_with fail
    try clear hbc
    clear q0 q1 q2 q3;obtain⟨pb,pw⟩:=p;refine iz.out.mono ?_
    rintro e w3 ⟨⟨row3,hF3⟩,he⟩;replace HB:=Z_ (HB.out.call hF3).assoc;clear hF3;cases pb with
    | false=>
     obtain rfl:e=_:=he;simp only [Bool.false_eq_true,if_false];go_wp2_with fail
     exact aG (by rw [←HT.out,di]) HB.out.f
    | true=>
     obtain rfl:e=_:=he;rw [then_ok] at HT;simp only [if_true];go_wp2_with fail
     exact⟨_,results_none rfl _ _ _,eU (by rw [←HT.out,fH]) HB.out.f⟩
  ·clear k19
   obtain⟨Xk,hpb⟩:∃ pb,cZ t m N 1 1 0=pb:=⟨_,rfl⟩;have HT:=Z_ (show PO.then (true,[]) ((bu Xk).then ((ah [Ac]).then ((bF ks 0).then (ah []))))=T by rw [←hT,hpb,←fE (bF ks 0),←dP];rfl);have jX:=Z_ (fun w=>iZ 21 m t a N cc 1 1 0 w);rw [hpb] at jX;have ug:=Z_ hpb;clear hT hpb;go_enter_defers Tryz.func182,Tryz.ntmps182
   go_upto_region 1 with (fail)
   try rw [hNb]
   generalize u.alloc (.cells #[.int .i64 21,.string t,.int .i64 m,.slice a N cc] 24)=u0 at *;clear hNb;have hbc:=HB.out.nb.cell;go_wp2_with fail
   try clear hbc
   refine(jX.out _).mono ?_
   rintro e w3 ⟨he,jq⟩;replace HB:=Z_ (HB.out.extend jq);clear jq;cases Xk with
   | false=>
    obtain rfl:e=_:=he;simp only [Bool.false_eq_true,if_false];go_wp2_with fail
    exact aG (by rw [←HT.out,eC]) HB.out.f
   | true=>
    obtain rfl:e=_:=he;rw [dw] at HT;simp only [if_true];have Gh:=Z_ (show N=1 from by have h:=lK ug.out;omega);have hbc:=HB.out.nb.cell;go_wp2_with fail
    try clear hbc
    refine(bQ HB.out.f.pw [Ac] _ rfl 1 rfl (by decide) (by have h9:=HLEN.out;first|omega|(simp at h9 ⊢;omega))).mono ?_
    rintro e w3 ⟨rfl,row3,hF3⟩;replace HB:=Z_ (HB.out.call hF3).assoc;clear hF3;rw [aT] at HT;have hN1:l.length=1:=by have h1:=HN.out;have h2:=Gh.out;omega
    obtain⟨x,rfl⟩:∃ x,l=[x]:=by match l,hN1 with|[x],_=>exact⟨x,rfl⟩
    have hk0:bF ks 0=fJ 3 x:=by rw [←vG.out];rfl
    obtain⟨p,hp⟩:∃ p,fJ 3 x=p:=⟨_,rfl⟩;have hpl:=iL x (3);rw [hk0,hp] at HT;rw [hp] at hpl;have SV:=Z_ hp;have S_:N=1:=by rw [←HN.out];rfl
    subst S_;have hsz:gm [x]=dL x:=by simp only [gm];omega
    clear hN1 hk0 hp;obtain⟨b,o,k1,t1,m1,a1,n1,c1,ha,hu,q0,q1,q2,q3⟩:=gI HB.out.f.pw.ext HI.out 0 (by simp);subst ha;simp only [Nat.zero_mul,Nat.add_zero] at q0 q1 q2 q3;have iz:=Z_ (HIH.out x (by simp) _ _ _ _ 3 HB.out.f.pw hu (by have h9:=HLEN.out;first|omega|(simp at h9 ⊢;omega)) (by decide) (by decide));rw [SV.out] at iz;have hbc:=HB.out.nb.cell;clear hu;go_wp2_with fail
    try clear hbc
    clear q0 q1 q2 q3;obtain⟨pb,pw⟩:=p;refine iz.out.mono ?_
    rintro e w3 ⟨⟨row3,hF3⟩,he⟩;replace HB:=Z_ (HB.out.call hF3).assoc;clear hF3;cases pb with
    | false=>
     obtain rfl:e=_:=he;simp only [Bool.false_eq_true,if_false];go_wp2_with fail
     exact aG (by rw [←HT.out,di]) HB.out.f
    | true=>
     obtain rfl:e=_:=he;rw [then_ok] at HT;simp only [if_true];go_wp2_with fail
     exact⟨_,results_none rfl _ _ _,eU (by rw [←HT.out,fH]) HB.out.f⟩
 by_cases k15:k=15
 ·subst k15
  rw [if_neg (by decide),if_neg (by decide),if_pos rfl] at hT;obtain⟨cb,hcb⟩:∃ cb,(decide (t=aF)&&decide (0≤m)&&decide (N=0))=cb:=⟨_,rfl⟩;rw [hcb] at hT;have X3:=Z_ hcb;have HT:=Z_ (show PO.then (true,[]) ((bu cb).then ((ah [xm m]).then (ah [])))=T by rw [←hT,←fE (ah [xm m]),←dP]);clear hT hcb k19 k20;go_enter_defers Tryz.func182,Tryz.ntmps182
  go_upto_region 1 with (fail)
  try rw [hNb]
  generalize u.alloc (.cells #[.int .i64 15,.string t,.int .i64 m,.slice a N cc] 24)=u0 at *;clear hNb;have hbc:=HB.out.nb.cell;go_wp2_with fail
  all_goals
   refine(gq _ _).mono ?_
   rintro e w9 ⟨he,rfl⟩;split at he
   ·rename_i hyes
    first
    | (cases hyes;done)
    | subst he
      have hb:cb=true:=by rw [←X3.out];clear hbc;unfold aF;simp only [yt] at *;first|(simp_all;done)|(simp_all;omega)
      subst hb;rw [dw] at HT;have hm0:0≤m:=by have h:=X3.out;simp only [Bool.and_eq_true,decide_eq_true_eq] at h;exact h.1.2
      have HFI:=Z_ (Tryz.strconv_FormatInt_10 m (by omega) HMI.out.2 _ (MI YO.out HB.out.f.pw.ext))
      try clear hbc
      have hbc:=HB.out.nb.cell;go_wp2_with fail
      clear hbc;refine HFI.out.mono ?_
      rintro e w3 ⟨rfl,kk,os,rfl⟩;replace HB:=Z_ (HB.out.extend (Below.qp (Lib.below_grow _ _ (Nat.le_refl _) kk os)));clear HFI;generalize Sort.grow (w9.drewN kk) os=w4 at *;go_wp2_with fail
      refine(bQ HB.out.f.pw [xm m] _ rfl 1 rfl (by decide) (by have h9:=HLEN.out;first|omega|(simp at h9 ⊢;omega))).mono ?_
      rintro e w3 ⟨rfl,row3,hF3⟩;replace HB:=Z_ (HB.out.call hF3).assoc;clear hF3;rw [aT] at HT;go_wp2_with fail
      exact⟨_,results_none rfl _ _ _,eU (by rw [←HT.out,fH]) HB.out.f⟩
   ·rename_i hno
    subst he;have hb:cb=false:=by rw [←X3.out];clear hbc;unfold aF;simp only [yt] at *;first|(simp_all;done)|(simp_all;omega)
    subst hb;go_wp2_with fail
    exact aG (by rw [←HT.out,eC]) HB.out.f
 by_cases k17:k=17
 ·subst k17
  rw [if_neg (by decide),if_neg (by decide),if_neg (by decide),if_pos rfl] at hT;have HT:=Z_ (show PO.then (true,[]) ((gG t m N 1 1).then ((ah [ov]).then ((bF ks 0).then ((ah [lN]).then (ah [])))))=T by rw [←hT,←fE (ah [lN]),←dP]);clear hT k19 k20 k15;go_enter_defers Tryz.func182,Tryz.ntmps182
  go_upto_region 1 with (fail)
  try rw [hNb]
  generalize u.alloc (.cells #[.int .i64 17,.string t,.int .i64 m,.slice a N cc] 24)=u0 at *;clear hNb;have hbc:=HB.out.nb.cell;go_wp2_with fail
  try clear hbc
  obtain⟨q,hq⟩:∃ q,gG t m N 1 1=q:=⟨_,rfl⟩;have Xm:=Z_ (ni HB.out.f.pw HV.out rC.out 17 m t a N cc 1 1 Je.out (by have h9:=HLEN.out;first|omega|(simp at h9 ⊢;omega)));rw [hq] at HT Xm;have HWQ:=Z_ hq;clear hq;refine Xm.out.mono ?_
  rintro e w3 ⟨⟨row3,hF3⟩,he⟩;replace HB:=Z_ (HB.out.call hF3).assoc;clear hF3;obtain⟨qb,qw⟩:=q;cases qb with
  | false=>
   obtain rfl:e=_:=he;simp only [Bool.false_eq_true,if_false];go_wp2_with fail
   exact aG (by rw [←HT.out,di]) HB.out.f
  | true=>
   obtain rfl:e=_:=he;rw [then_ok] at HT;simp only [if_true];have kN:=Cb t m N (1) (1);rw [HWQ.out] at kN;replace kN:qw.length≤3:=kN;have Gh:=Z_ (show N=1 from by have h:=HWQ.out;unfold gG at h;cases hw:qB t m N 1 1 with|false=>(rw [hw] at h;cases h)|true=>(have h2:=Vr hw;omega));go_wp2_with fail
   try clear hbc
   refine(bQ HB.out.f.pw [ov] _ rfl 1 rfl (by decide) (by have h9:=HLEN.out;first|omega|(simp at h9 ⊢;omega))).mono ?_
   rintro e w3 ⟨rfl,row3,hF3⟩;replace HB:=Z_ (HB.out.call hF3).assoc;clear hF3;rw [aT] at HT;have hN1:l.length=1:=by have h1:=HN.out;have h2:=Gh.out;omega
   obtain⟨x,rfl⟩:∃ x,l=[x]:=by match l,hN1 with|[x],_=>exact⟨x,rfl⟩
   have hk0:bF ks 0=fJ 0 x:=by rw [←vG.out];rfl
   obtain⟨p,hp⟩:∃ p,fJ 0 x=p:=⟨_,rfl⟩;have hpl:=iL x (0);rw [hk0,hp] at HT;rw [hp] at hpl;have SV:=Z_ hp;have S_:N=1:=by rw [←HN.out];rfl
   subst S_;have hsz:gm [x]=dL x:=by simp only [gm];omega
   clear hN1 hk0 hp;obtain⟨b,o,k1,t1,m1,a1,n1,c1,ha,hu,q0,q1,q2,q3⟩:=gI HB.out.f.pw.ext HI.out 0 (by simp);subst ha;simp only [Nat.zero_mul,Nat.add_zero] at q0 q1 q2 q3;have iz:=Z_ (HIH.out x (by simp) _ _ _ _ 0 HB.out.f.pw hu (by have h9:=HLEN.out;first|omega|(simp at h9 ⊢;omega)) (by decide) (by decide));rw [SV.out] at iz;have hbc:=HB.out.nb.cell;clear hu;go_wp2_with fail
   try clear hbc
   clear q0 q1 q2 q3;obtain⟨pb,pw⟩:=p;refine iz.out.mono ?_
   rintro e w3 ⟨⟨row3,hF3⟩,he⟩;replace HB:=Z_ (HB.out.call hF3).assoc;clear hF3;cases pb with
   | false=>
    obtain rfl:e=_:=he;simp only [Bool.false_eq_true,if_false];go_wp2_with fail
    exact aG (by rw [←HT.out,di]) HB.out.f
   | true=>
    obtain rfl:e=_:=he;rw [then_ok] at HT;simp only [if_true];go_wp2_with fail
    try clear hbc
    refine(bQ HB.out.f.pw [lN] _ rfl 1 rfl (by decide) (by have h9:=HLEN.out;first|omega|(simp at h9 ⊢;omega))).mono ?_
    rintro e w3 ⟨rfl,row3,hF3⟩;replace HB:=Z_ (HB.out.call hF3).assoc;clear hF3;rw [aT] at HT;go_wp2_with fail
    exact⟨_,results_none rfl _ _ _,eU (by rw [←HT.out,fH]) HB.out.f⟩
 by_cases k18:k=18
 ·subst k18
  rw [if_neg (by decide),if_neg (by decide),if_neg (by decide),if_neg (by decide),if_pos rfl] at hT;have HT:=Z_ (show PO.then (true,[]) ((gG t m N 0 (-1)).then ((ah [dh]).then ((oJ ks true).then ((ah [aV]).then (ah [])))))=T by rw [←hT,←fE (ah [aV]),←dP]);clear hT k19 k20 k15 k17;go_enter_defers Tryz.func182,Tryz.ntmps182
  go_upto_region 1 with (fail)
  try rw [hNb]
  generalize u.alloc (.cells #[.int .i64 18,.string t,.int .i64 m,.slice a N cc] 24)=u0 at *;clear hNb;have hbc:=HB.out.nb.cell;go_wp2_with fail
  try clear hbc
  obtain⟨q,hq⟩:∃ q,gG t m N 0 (-1)=q:=⟨_,rfl⟩;have Xm:=Z_ (ni HB.out.f.pw HV.out rC.out 18 m t a N cc 0 (-1) Je.out (by have h9:=HLEN.out;first|omega|(simp at h9 ⊢;omega)));rw [hq] at HT Xm;have HWQ:=Z_ hq;clear hq;refine Xm.out.mono ?_
  rintro e w3 ⟨⟨row3,hF3⟩,he⟩;replace HB:=Z_ (HB.out.call hF3).assoc;clear hF3;obtain⟨qb,qw⟩:=q;cases qb with
  | false=>
   obtain rfl:e=_:=he;simp only [Bool.false_eq_true,if_false];go_wp2_with fail
   exact aG (by rw [←HT.out,di]) HB.out.f
  | true=>
   obtain rfl:e=_:=he;rw [then_ok] at HT;simp only [if_true];have kN:=Cb t m N (0) ((-1));rw [HWQ.out] at kN;replace kN:qw.length≤3:=kN;go_wp2_with fail
   try clear hbc
   refine(bQ HB.out.f.pw [dh] _ rfl 1 rfl (by decide) (by have h9:=HLEN.out;first|omega|(simp at h9 ⊢;omega))).mono ?_
   rintro e w3 ⟨rfl,row3,hF3⟩;replace HB:=Z_ (HB.out.call hF3).assoc;clear hF3;rw [aT] at HT;have hbc:=HB.out.nb.cell;go_upto_region 37 with (fail)
   go_wp2_with fail
   clear hbc;have rF:=Z_ (show acc.length+([]++qw ++ [dh]).length+12*gm l+8≤1000000 from by have h9:=HLEN.out;simp;omega);generalize []++qw ++ [dh]=Vo at *;go_loopw [135] (fun i wr=>∃ (j:Nat) (ws:List ByteArray) (r:Value),j≤N∧i=.int .i64 (j:Nat)∧Hid (PO.then (true,ws) ((oJ (ks.drop j) (decide (j=0))).then ((ah [aV]).then (ah [])))=T)∧Hid (PB W u wr S Nb row r (acc++ws) #[.int .i64 18,.string t,.int .i64 m,.slice a N cc])∧Hid (acc.length+ws.length+12*gm (l.drop j)+8≤1000000)) (fun i _=>N-(intOf i).toNat)
   case atStart=>exact⟨0,Vo,_,Nat.zero_le _,rfl,by rw [List.drop_zero];exact HT,HB,by rw [List.drop_zero];exact rF⟩
   clear HT HB rF
   case round=>
    obtain⟨j,ws,r,hj,rfl,HT,HB,rF⟩:=hrel;by_cases hlt:j<N
    ·have hji:(j:Int)<(N:Int):=by omega
     have hjd:decide ((j:Int)<(N:Int))=true:=by simpa using hji
     have hjl:j<l.length:=by rw [HN.out];exact hlt
     obtain⟨b,o,k1,t1,m1,a1,n1,c1,ha,hu,q0,q1,q2,q3⟩:=gI HB.out.f.pw.ext HI.out j hjl;subst ha;have hdr:=IG 18 m l 0 j hjl;rw [vG.out,show kO 18 m (0+j)=0 from rfl] at hdr;have hih:=HIH.out l[j] (List.getElem_mem hjl);have hpl:=iL l[j] 0;have hln:=rF.out;rw [List.drop_eq_getElem_cons hjl] at hln;simp only [gm] at hln;generalize l[j]=x at *;obtain⟨p,hp⟩:∃ p,fJ 0 x=p:=⟨_,rfl⟩;rw [hp] at hdr hpl;have SV:=Z_ hp;rw [hdr,oJ] at HT;simp only [then_assoc] at HT;have jQ:=Z_ hln;obtain⟨K,hK⟩:∃ K,wr.heap.size=K:=⟨_,rfl⟩;have HKB:=Z_ (show aJ (wr.alloc (.cells #[.int .i64 k1,.string t1,.int .i64 m1,.slice a1 n1 c1] 24)) K #[.int .i64 k1,.string t1,.int .i64 m1,.slice a1 n1 c1] 24 by rw [←hK];exact aJ.made wr _ _);have DC:=Z_ (show S<K∧∀ i,r.ownBlock=some i→i<K from⟨by rw [←hK];exact HB.out.f.pw.s.lt,fun i e=>by rw [←hK];exact(HB.out.f.pw.own i e).2⟩)
     replace HB:=Z_ (HB.out.extend ((aB.refl (fun _=>False) wr).alloc (.cells #[.int .i64 k1,.string t1,.int .i64 m1,.slice a1 n1 c1] 24)));clear hp hdr hln rF;go_upto_region 39 with (fail)
     try rw [hK]
     generalize wr.alloc (.cells #[.int .i64 k1,.string t1,.int .i64 m1,.slice a1 n1 c1] 24)=u5 at *;clear q0 q1 q2 q3 hK;have Dp:=Z_ (fun (ws2:List ByteArray) (r2:Value) (w:World) (HT:Hid (PO.then (true,ws2) (p.then ((oJ (ks.drop (j+1)) false).then ((ah [aV]).then (ah []))))=T)) (HL:ws2.length≤ws.length+1) (HB:Hid (PB W u w S Nb row r2 (acc++ws2) #[.int .i64 18,.string t,.int .i64 m,.slice (some ⟨b,o,none⟩) N cc]))=>hih _ w r2 (acc++ws2) 0 HB.out.f.pw hu (by have:=jQ.out;rw [List.length_append];omega) (by decide) (by decide));rw [SV.out] at Dp;obtain⟨pb,pw⟩:=p;by_cases hj0:j=0
     ·have hdj:decide (j=0)=true:=by simpa using hj0
      have DK:¬ (0:Int)<(j:Int):=by omega
      have ax1:decide ((0:Int)<(j:Int))=false:=by simpa using DK
      rw [hdj,show (if true=true then ([]:List ByteArray) else [fL])=[] from rfl,aT] at HT;replace HB:=Z_ HB.out.nil;rw [List.append_assoc] at HB;have iz:=Z_ (Dp.out (ws ++ []) r _ HT (by simp) HB);clear Dp;have hkc:=HKB.out.cell;go_wp2_with fail
      clear hkc;refine iz.out.mono ?_
      rintro e w3 ⟨⟨row3,hF3⟩,he⟩;replace HB:=Z_ (HB.out.call hF3).assoc;clear hF3 iz;cases pb with
      | false=>
       obtain rfl:e=_:=he;simp only [Bool.false_eq_true,if_false];go_wp2_with fail
       exact aG (by rw [←HT.out,di]) HB.out.f
      | true=>
       obtain rfl:e=_:=he;rw [then_ok] at HT;simp only [if_true];go_wp2_with fail
       go_roundw
       case rel=>exact⟨j+1,_,row3,by omega,by go_num,by rw [show decide (j+1=0)=false from by simp];exact HT,HB,Z_ (by have h1:=jQ.out;have h2:pw.length+1≤12*dL x:=hpl;simp only [List.length_append,List.length_nil];omega)⟩
       case measure=>simp [intOf];omega
     ·have hdj:decide (j=0)=false:=by simpa using hj0
      have DK:(0:Int)<(j:Int):=by omega
      have ax1:decide ((0:Int)<(j:Int))=true:=by simpa using DK
      rw [hdj,show (if false=true then ([]:List ByteArray) else [fL])=[fL] from rfl,aT] at HT;go_wp2_with fail
      refine(bQ HB.out.f.pw [fL] _ rfl 1 rfl (by decide) (by have h9:=jQ.out;rw [List.length_append];omega)).mono ?_
      rintro e w6 ⟨rfl,Vu,Pe⟩;replace HKB:=Z_ (HKB.out.aU Pe.aU (fun e=>by have h1:=DC.out;rcases e with e|e;omega;have:=h1.2 _ e;omega));replace HB:=Z_ (HB.out.call Pe).assoc;clear Pe;have iz:=Z_ (Dp.out (ws ++ [fL]) Vu _ HT (by simp) HB);clear Dp;have hkc:=HKB.out.cell;go_wp2_with fail
      clear hkc;refine iz.out.mono ?_
      rintro e w3 ⟨⟨row3,hF3⟩,he⟩;replace HB:=Z_ (HB.out.call hF3).assoc;clear hF3 iz;cases pb with
      | false=>
       obtain rfl:e=_:=he;simp only [Bool.false_eq_true,if_false];go_wp2_with fail
       exact aG (by rw [←HT.out,di]) HB.out.f
      | true=>
       obtain rfl:e=_:=he;rw [then_ok] at HT;simp only [if_true];go_wp2_with fail
       go_roundw
       case rel=>exact⟨j+1,_,row3,by omega,by go_num,by rw [show decide (j+1=0)=false from by simp];exact HT,HB,Z_ (by have h1:=jQ.out;have h2:pw.length+1≤12*dL x:=hpl;simp only [List.length_append,List.length_cons,List.length_nil];omega)⟩
       case measure=>simp [intOf];omega
    ·obtain rfl:j=N:=by omega
     have hjd:decide ((j:Int)<(j:Int))=false:=by simp
     rw [List.drop_of_length_le (by rw [←vG.out,Cc,HN.out];exact Nat.le_refl _)] at HT;simp only [oJ] at HT;rw [aT,List.append_nil] at HT;go_wp2_with fail
     try clear hbc
     refine(bQ HB.out.f.pw [aV] _ rfl 1 rfl (by decide) (by have h9:=rF.out;rw [List.length_append];omega)).mono ?_
     rintro e w3 ⟨rfl,row3,hF3⟩;replace HB:=Z_ (HB.out.call hF3).assoc;clear hF3;rw [aT] at HT;go_wp2_with fail
     exact⟨_,results_none rfl _ _ _,eU (by rw [←HT.out,fH]) HB.out.f⟩
 rw [if_neg k19,if_neg k20,if_neg k15,if_neg k17,if_neg k18] at hT;have HT:=Z_ (show PO.then (true,[]) ((bu (decide (k=16))).then ((gG t m N 0 0).then (ah [])))=T by rw [←hT,←fE,←dP]);have b19:(k == 19)=false:=beq_eq_false_iff_ne.2 k19;have b20:(k == 20)=false:=beq_eq_false_iff_ne.2 (fun e=>k20 (.inl e));have b21:(k == 21)=false:=beq_eq_false_iff_ne.2 (fun e=>k20 (.inr e));have b15:(k == 15)=false:=beq_eq_false_iff_ne.2 k15;have b17:(k == 17)=false:=beq_eq_false_iff_ne.2 k17;have b18:(k == 18)=false:=beq_eq_false_iff_ne.2 k18;clear hT k19 k20 k15 k17 k18;go_enter_defers Tryz.func182,Tryz.ntmps182
 go_upto_region 1 with (fail)
 try rw [hNb]
 generalize u.alloc (.cells #[.int .i64 k,.string t,.int .i64 m,.slice a N cc] 24)=u0 at *;clear hNb;have hbc:=HB.out.nb.cell;obtain⟨bb,hbb⟩:∃ bb,(k == 16)=bb:=⟨_,rfl⟩;have WL:=Z_ (show decide (k=16)=bb from by rw [←hbb];by_cases e:k=16<;>simp [e]);rw [WL.out] at HT;go_wp2_with fail
 refine(gq bb _).mono ?_
 rintro e w3 ⟨rfl,rfl⟩;cases bb with
 | false=>
  simp only [Bool.false_eq_true,if_false];go_wp2_with fail
  exact aG (by rw [←HT.out,eC]) HB.out.f
 | true=>
  rw [dw] at HT;simp only [if_true];go_wp2_with fail
  try clear hbc
  obtain⟨q,hq⟩:∃ q,gG t m N 0 0=q:=⟨_,rfl⟩;have Xm:=Z_ (ni HB.out.f.pw HV.out rC.out k m t a N cc 0 0 Je.out (by have h9:=HLEN.out;first|omega|(simp at h9 ⊢;omega)));rw [hq] at HT Xm;have HWQ:=Z_ hq;clear hq;refine Xm.out.mono ?_
  rintro e w3 ⟨⟨row3,hF3⟩,he⟩;replace HB:=Z_ (HB.out.call hF3).assoc;clear hF3;obtain⟨qb,qw⟩:=q;cases qb with
  | false=>
   obtain rfl:e=_:=he;simp only [Bool.false_eq_true,if_false];go_wp2_with fail
   exact aG (by rw [←HT.out,di]) HB.out.f
  | true=>
   obtain rfl:e=_:=he;rw [then_ok] at HT;simp only [if_true];have kN:=Cb t m N (0) (0);rw [HWQ.out] at kN;replace kN:qw.length≤3:=kN;go_wp2_with fail
   exact⟨_,results_none rfl _ _ _,eU (by rw [←HT.out,fH]) HB.out.f⟩
end prt
end Go.Proofs.YtpcihajmcejliacGreatDoor
