/- Trees under way: what is kept while a statement's or a block's kids are looked over. A region that draws its order, with operations under guards. -/
import Derived.Test.YtpcihajmcejliacGreatDoorChkSm
import Derived.Test.YtpcihajmcejliacGreatDoorSynCm
namespace Go.Proofs.YtpcihajmcejliacGreatDoor
open Go.RowKit
namespace chk
open bn dn
def yD (W u:World) (C Mo D K P B:Nat) (E:dH) (vl:Value) (deep:Int) (at_:Nat) (cH dB:Value) (dc:Array Value) (pr:aI) (kd:Int) (T:Rz (Tr×List Loc)) (e:Ending) (u':World):Prop:=aB (LS C P vl) u u'∧match T with
 | .bad c p=>e=.panicked (mJ c (p:Nat))
 | .ok t=>∃ g zI pc',e=.returned (.pointer (some ⟨g,0,none⟩))∧u.heap.size≤g∧CS W u' C Mo D K P B E zI t.2 deep (at_:Nat) cH dB dc pc'∧yC pr pc'∧qH (hide (bM u.heap.size zI) u') t.1 (.pointer (some ⟨g,0,none⟩))∧(∀ i,zI.ownBlock=some i→vl.ownBlock=some i∨u.heap.size≤i)∧t.1.kd=kd
structure SB (W u0 u:World) (C Mo D K P B Nb X:Nat) (E:dH) (wZ vl:Value) (L:List Loc) (deep at_:Int) (cH dB:Value) (dc pc:Array Value) (pr:aI) (nc:Array Value) (xc:Value→Array Value) (rN r:Value) (ks:List Tr):Prop where
 cs:CS W u C Mo D K P B E vl L deep at_ cH dB dc pc
 pc:yC pr pc
 nb:aH u Nb nc 24
 x:aH u X (xc rN) 345
 grow:je (dn.ownB vl) 1 219 zH (X+1) u r ks
 aO:aB (LS C P wZ) u0 u
 fresh:∀ i,vl.ownBlock=some i→(wZ.ownBlock=some i∧i<Nb)∨X<i
 apart:∀ i,r.ownBlock=some i→vl.ownBlock≠some i
 h0:u0.heap.size≤Nb
 hB:B≤Nb
 wS:Nb<X
variable {W u0 u u':World} {C Mo D K P B Nb X:Nat} {E:dH} {wZ vl:Value} {L:List Loc} {deep at_:Int} {cH dB:Value} {dc pc:Array Value} {pr:aI} {nc:Array Value} {xc:Value→Array Value} {rN r:Value} {ks:List Tr}
theorem SB.extend (h:SB W u0 u C Mo D K P B Nb X E wZ vl L deep at_ cH dB dc pc pr nc xc rN r ks) (hE:Ext u u'):SB W u0 u' C Mo D K P B Nb X E wZ vl L deep at_ cH dB dc pc pr nc xc rN r ks:=
 ⟨h.cs.extend hE,h.pc,h.nb.ext hE,h.x.ext hE,eG h.grow b_ hE (fun _ e=>e.elim) (fun _ _ e2=>e2) (fun _ e=>.inl e),h.aO.ext hE,h.fresh,h.apart,h.h0,h.hB,h.wS⟩
theorem SB.far (h:SB W u0 u C Mo D K P B Nb X E wZ vl L deep at_ cH dB dc pc pr nc xc rN r ks):∀ i,LS C P vl i→i≠Nb∧i≠X∧r.ownBlock≠some i∧(i<X+1∨dn.ownB vl i=true):=fun i hi=>by
 have h1:=h.cs.cB;have h2:=h.cs.pB;have h3:=h.hB;have h4:=h.wS
 have ho:=bH h.grow;rcases hi with e|e|e
 ·exact⟨by omega,by omega,fun e2=>by have:=ho i e2;omega,.inl (by omega)⟩
 ·exact⟨by omega,by omega,fun e2=>by have:=ho i e2;omega,.inl (by omega)⟩
 ·refine⟨?_,?_,fun e2=>h.apart i e2 e,.inr (by simp [dn.ownB,e])⟩
  ·rcases h.fresh i e with f|f<;>omega
  ·rcases h.fresh i e with f|f<;>omega
theorem SB.ls (h:SB W u0 u C Mo D K P B Nb X E wZ vl L deep at_ cH dB dc pc pr nc xc rN r ks):∀ i,i<u0.heap.size→LS C P vl i→LS C P wZ i:=fun i hi e=>by
 have h1:=h.h0;have h2:=h.wS
 rcases e with e|e|e
 ·exact .inl e
 ·exact .inr (.inl e)
 ·rcases h.fresh i e with f|f
  ·exact .inr (.inr f.1)
  ·omega
theorem SB.call {zI:Value} {L':List Loc} {deep' at':Int} {pc':Array Value} (h:SB W u0 u C Mo D K P B Nb X E wZ vl L deep at_ cH dB dc pc pr nc xc rN r ks) (hC:aB (LS C P vl) u u') (hcs:CS W u' C Mo D K P B E zI L' deep' at' cH dB dc pc') (hpc:yC pr pc') (hf:∀ i,zI.ownBlock=some i→vl.ownBlock=some i∨u.heap.size≤i) :
  SB W u0 u' C Mo D K P B Nb X E wZ zI L' deep' at' cH dB dc pc' pr nc xc rN r ks:=by
 have hX:=h.x.lt;refine⟨hcs,hpc,h.nb.aO hC (fun e=>(h.far _ e).1 rfl),h.x.aO hC (fun e=>(h.far _ e).2.1 rfl),eG h.grow b_ hC (fun i e=>(h.far i e).2.2.2) (fun i e e2=>(h.far i e2).2.2.1 e) (fun i e=>?_),h.aO.trans hC h.ls,fun i e=>?_,fun i e e2=>?_,h.h0,h.hB,h.wS⟩
 ·have e2:zI.ownBlock=some i:=by simpa [dn.ownB] using e
  rcases hf i e2 with f|f
  ·exact .inl (by simp [dn.ownB,f])
  ·exact .inr f
 ·rcases hf i e with f|f
  ·exact h.fresh i f
  ·exact .inr (by omega)
 ·rcases hf i e2 with f|f
  ·exact h.apart i e f
  ·have:=bH h.grow i e;omega
theorem SB.kV {deep' at':Int} (h:SB W u0 u C Mo D K P B Nb X E wZ vl L deep at_ cH dB dc pc pr nc xc rN r ks) (hC:aB (fun i=>i=C) u u') (hc:aH u' C (qw Mo K vl deep' at' P) 221):SB W u0 u' C Mo D K P B Nb X E wZ vl L deep' at' cH dB dc pc pr nc xc rN r ks:=
 h.call (hC.weak fun _ _ e=>.inl e) (h.cs.kV hC hc) h.pc (fun _ e=>.inl e)
theorem SB.more {r2:Value} {ks2:List Tr} (h:SB W u0 u C Mo D K P B Nb X E wZ vl L deep at_ cH dB dc pc pr nc xc rN r ks) (hG:je (dn.ownB vl) 1 219 zH (X+1) u' r2 ks2) (hC:aB (fun i=>r.ownBlock=some i) u u') (ha:∀ i,r2.ownBlock=some i→r.ownBlock=some i∨u.heap.size≤i) :
  SB W u0 u' C Mo D K P B Nb X E wZ vl L deep at_ cH dB dc pc pr nc xc rN r2 ks2:=by
 have ho:=bH h.grow;have h1:=h.hB;have h2:=h.wS;have h3:=h.h0
 refine⟨h.cs.far hC (fun i e=>by have:=ho i e;omega) (fun i e e2=>h.apart i e2 e),h.pc,h.nb.aO hC (fun e=>by have:=ho _ e;omega),h.x.aO hC (fun e=>by have:=ho _ e;omega),hG,h.aO.trans hC (fun i hi e=>by have:=ho i e;omega),h.fresh,fun i e e2=>?_,h3,h1,h2⟩
 rcases ha i e with f|f
 ·exact h.apart i f e2
 ·have:=bh h.cs.loc i e2;omega
theorem SB.put {j:Nat} {v:Value} {PG:Value→Array Value} (h:SB W u0 u C Mo D K P B Nb X E wZ vl L deep at_ cH dB dc pc pr nc xc rN r ks) (hx:(xc rN).setIfInBounds j v=PG r):SB W u0 (u.setCell ⟨X,j,none⟩ v) C Mo D K P B Nb X E wZ vl L deep at_ cH dB dc pc pr nc PG r r ks:=by
 have h1:=h.hB;have h2:=h.wS;have h3:=h.h0
 have ho:=bH h.grow;have hC:=ak (S:=X) (aB.refl _ u) j v;have hl:∀ i,vl.ownBlock=some i→i≠X:=fun i e=>by rcases h.fresh i e with f|f<;>omega
 exact⟨h.cs.far hC (fun i e=>by omega) (fun i e e2=>hl i e e2),h.pc,h.nb.aO hC (by omega),by have:=h.x.set j v;rw [hx] at this;exact this,eG h.grow b_ hC (fun i e=>.inl (by omega)) (fun i e e2=>by have:=ho i e;omega) (fun i e=>.inl e),h.aO.trans hC (fun i hi e=>by omega),h.fresh,h.apart,h3,h1,h2⟩
theorem zZ {u:World} {X B:Nat} {vl:Value} {k m:Int} {row:Value} {ks:List Tr} {r:mG} {p0 p1 p2 p3 p4 p5:Value} {lab ctx:Int} (hX:aH u X (jh k m row r p0 p1 p2 p3 p4 p5 lab ctx) 345) (hG:je (dn.ownB vl) 1 219 zH (X+1) u row ks) (hB:B≤X) (hr:uM r) (hl:∀ i,vl.ownBlock=some i→i≠X) (ha:∀ i,row.ownBlock=some i→vl.ownBlock≠some i):qH (hide (bM B vl) u) (.mk k m ks r lab ctx) (.pointer (some ⟨X,0,none⟩)):=by
 obtain⟨us,g1,g2,g3⟩:=hG.ex;rw [uC]
 have hXh:bM B vl X=false:=by
  simp only [bM,Bool.or_eq_false_iff,decide_eq_false_iff_not];exact⟨by omega,fun e=>hl X e rfl⟩
 have hcell:∀ row':Value,row'=row→∀ i,i<16→(hide (bM B vl) u).cell? ⟨X,i,none⟩=(jh k m row' r p0 p1 p2 p3 p4 p5 lab ctx)[i]?:=fun row' e i hi=>by
  rw [fU _ _ _ hXh,hX.cell,e]
 rcases g2.2 with ⟨e,h0⟩|⟨g,cap,cur,e,hBg,hg,hc1,hc2,hc3,hc4⟩
 ·exact⟨hr,X,none,0,p0,p1,p2,p3,p4,p5,rfl,by rw [bK];exact hX.lt,hcell _ (by rw [h0];exact e.symm),by omega,by decide,fun j hj=>by omega⟩
 ·have hgv:vl.ownBlock≠some g:=ha g (by rw [e];rfl)
  have hgh:bM B vl g=false:=by
   simp only [bM,Bool.or_eq_false_iff,decide_eq_false_iff_not];exact⟨by omega,hgv⟩
  refine⟨hr,X,some ⟨g,0,none⟩,cap,p0,p1,p2,p3,p4,p5,rfl,by rw [bK];exact hX.lt,hcell _ e.symm,hc1,hc2,fun j hj=>?_⟩
  have hj':j<us.length:=by omega
  obtain⟨q1,q2⟩:=g3 j hj hj'
  have hall:∀ u∈us,u.cells.size=1:=fun u hu=>by
   obtain⟨q,hq,rfl⟩:=List.getElem_of_mem hu;exact(g3 q (by omega) hq).2
  refine⟨g,0,rfl,by rw [bK];exact(Array.getElem?_eq_some_iff.1 hg).1,?_⟩
  refine qZ _ _ _ _ us[j] (b_ _ _ _ _ (aZ (Nat.le_refl _) fun i hi hm=>?_) q1) q2 fun i hi=>?_
  ·simp only [Bool.or_eq_false_iff,bM,decide_eq_false_iff_not,dn.ownB] at hm ⊢
   exact⟨⟨by omega,hm.2⟩,trivial⟩
  ·rw [fU _ _ _ hgh]
   rw [←zh 1 us hall j hj' i hi,←hc4,List.getElem?_take,if_pos (by
    have:(j+1)*1≤ks.length*1:=Nat.mul_le_mul_right _ hj;rw [Nat.succ_mul] at this;omega)]
   rw [cell_of_row u g _ cur _ (0,0) hg];simp
end chk
end Go.Proofs.YtpcihajmcejliacGreatDoor
namespace Go.Proofs.YtpcihajmcejliacGreatDoor
open Go.RowKit
namespace aj
open chain
open specs (ja upTo wU oC pG rU)
def SC (ops:Array Oper) (c:List Nat):Bool:=
 ((List.range ops.size).all fun i=>(match ops[i]? with|some o=>o.after.all (fun e=>!Region.binds .any e || decide (e.on<i))|none=>false)&&(List.range i).all fun j=>(aW ops i).isNone || aW ops i != aW ops j) &&
 (List.range c.length).all fun m=>decide (c.getD m 0<ops.size)&&(m == 0 || (match ops[c.getD m 0]? with|some o=>ja o (c.getD (m-1) 0)|none=>false))&&at_ c (c.getD m 0) == some m
theorem DU {ops:Array Oper} {c:List Nat} (h:SC ops c=true) {i:Nat} {o:Oper} (ho:ops[i]? = some o):(∀ e∈o.after,Region.binds .any e=true→e.on<i)∧∀ j t,j<i→aW ops i=some t→aW ops j≠some t:=by
 have hi:=(Array.getElem?_eq_some_iff.1 ho).1;have h1:=List.all_eq_true.1 (Bool.and_eq_true_iff.1 h).1 i (List.mem_range.2 hi);rw [ho] at h1;simp only [Bool.and_eq_true,List.all_eq_true,List.mem_range,Bool.or_eq_true,bne_iff_ne,Array.all_eq_true_iff_forall_mem,decide_eq_true_eq,Option.isNone_iff_eq_none] at h1;refine⟨fun e he hb=>by have:=h1.1 e he;rw [hb] at this;simpa using this,fun j t hj ht e=>?_⟩
 rcases h1.2 j hj with h2|h2
 ·rw [h2] at ht;cases ht
 ·exact h2 (ht.trans e.symm)
theorem qi {ops:Array Oper} {c:List Nat} (h:SC ops c=true) {m:Nat} (hm:m<c.length):c.getD m 0<ops.size∧(m=0∨∃ o,ops[c.getD m 0]? = some o∧ja o (c.getD (m-1) 0)=true)∧at_ c (c.getD m 0)=some m:=by
 have h1:=List.all_eq_true.1 (Bool.and_eq_true_iff.1 h).2 m (List.mem_range.2 hm);simp only [Bool.and_eq_true,Bool.or_eq_true,beq_iff_eq,decide_eq_true_eq] at h1;refine⟨h1.1.1,?_,h1.2⟩
 rcases h1.1.2 with h2|h2
 ·exact .inl h2
 ·cases ho:ops[c.getD m 0]? with
  | none=>rw [ho] at h2;cases h2
  | some o=>rw [ho] at h2;exact .inr ⟨o,rfl,h2⟩
theorem Nu {ops:Array Oper} {c:List Nat} (h:SC ops c=true) {i j t:Nat} (hi:i<ops.size) (hj:j<ops.size) (hne:i≠j) (ht:aW ops i=some t):aW ops j≠some t:=by
 rcases Nat.lt_or_gt_of_ne hne with h'|h'
 ·intro e
  exact(DU h (Array.getElem?_eq_getElem hj)).2 i t h' e ht
 ·exact(DU h (Array.getElem?_eq_getElem hi)).2 j t h' ht
theorem DV {ops:Array Oper} {c:List Nat} {l:Array Bool} (hB:SC ops c=true) (hs:l.size=ops.size):∀ d i,i=d→i<ops.size→l.getD i false=false→∃ j,j∈Region.ready .any ops l:=by
 intro d;induction d using Nat.strongRecOn with
 | _ d ih=>
  intro i hd hi hun;have ho:=Array.getElem?_eq_getElem hi;by_cases hall:∀ e∈ops[i].after,Region.binds .any e=true→l.getD e.on false=true
  ·have hil:i<l.size:=by omega
   have QT:l.getD i true=false:=by simp [hil] at hun ⊢;exact hun
   exact⟨i,mem_ready.2 ⟨QT,ops[i],ho,hall⟩⟩
  ·simp only [Classical.not_forall] at hall
   obtain⟨e,he,hbd,hl⟩:=hall;have hlt:=(DU hB ho).1 e he hbd;exact ih e.on (by omega) e.on rfl (by omega) (by simpa using hl)
def wQ (ops:Array Oper):Nat→Oper→Nat→Bool
 | 0,o,i=>ja o i
 | n+1,o,i=>ja o i || o.after.any fun e=>Region.binds .any e&&(match ops[e.on]? with|some o2=>wQ ops n o2 i|none=>false)
theorem zG {ops:Array Oper} {l:Array Bool} (hc:∀ j o,ops[j]? = some o→l.getD j false=true→∀ e∈o.after,Region.binds .any e=true→l.getD e.on false=true):∀ (n j:Nat) (o:Oper) (i:Nat),ops[j]? = some o→l.getD j false=true→wQ ops n o i=true→l.getD i false=true:=by
 have one:∀ (j:Nat) (o:Oper) (i:Nat),ops[j]? = some o→l.getD j false=true→ja o i=true→l.getD i false=true:=fun j o i ho hl hw=>by
  obtain⟨e,he,hb⟩:=Array.any_eq_true'.1 hw;simp only [Bool.and_eq_true,beq_iff_eq] at hb;have:=hc _ o ho hl e he hb.1;rw [hb.2] at this;exact this
 intro n;induction n with
 | zero=>exact one
 | succ n ih=>
  intro j o i ho hl hr;rw [wQ,Bool.or_eq_true] at hr;rcases hr with hr|hr
  ·exact one j o i ho hl hr
  ·obtain⟨e,he,hb⟩:=Array.any_eq_true'.1 hr
   rw [Bool.and_eq_true] at hb;have h1:=hc _ o ho hl e he hb.1;cases h2:ops[e.on]? with
   | none=>rw [h2] at hb;cases hb.2
   | some o2=>rw [h2] at hb;exact ih _ o2 i h2 h1 hb.2
def Oz (P:Program) (ops:Array Oper) (n:Nat) (c:List Nat) (Sp:Nat→Value→World→Prop) (F:List Value→World→Prop) (G:World→World→Prop) (frame:(Nat→Value)→Act) (Q:Exit→Act→World→Prop) (i:Nat) (o:Oper):Prop:=
 ∀ x vs w,F vs w→(∀ m,at_ c i=some m→vs.length=m)→(∀ m o',m<c.length→ops[c.getD m 0]? = some o'→wQ ops 40 o' i=true→vs.length≤m)→(∀ j,j<n→ja o j=true→known ops c Sp x vs w j)→
  ∀ K:Act→World→Prop,Shut (∀ a' w' v,a'=(frame x).put o.dst v→G w w'→(match at_ c i with|some _=>F (vs ++ [v]) w'|none=>Sp i v w'∧F vs w')→K a' w')→if Region.wanted o (yielded ops (frame x).tmps)=true then Oper.wp P o (frame x) w K Q else K ((frame x).put o.dst undef) w
theorem rung {P:Program} {ops:Array Oper} {Q:Exit→Act→World→Prop} {a:Act} (c:List Nat) (Sp:Nat→Value→World→Prop) (F:List Value→World→Prop) (G:World→World→Prop) (hB:SC ops c=true) (hS:EH ops c=true)
  (DK:∀ i v w w',Sp i v w→G w w'→Sp i v w')
  (step:∀ i o,ops[i]? = some o→Oz P ops ops.size c Sp F G (aK ops a) Q i o)
  (fin:∀ x vs w,vs.length=c.length→F vs w→(∀ i,i<ops.size→known ops c Sp x vs w i)→Q .normal (aK ops a x) w) :
  ∀ (fuel:Nat) (l:Array Bool) (x:Nat→Value) (w:World) (vs:List Value),wU l ops.size=fuel→Inv ops c Sp F l x w vs→wpAny P .any ops Q fuel l (aK ops a x) w:=by
 intro fuel;induction fuel with
 | zero=>
  intro l x w vs hu hI;have hall:=pG _ hu;refine⟨?_,fin x vs w ?_ hI.holds fun i hi=>hI.yes i hi (hall i hi)⟩
  ·rw [List.eq_nil_iff_forall_not_mem]
   intro j hj;obtain⟨h1,o,ho,-⟩:=mem_ready.1 hj;have hj':=(Array.getElem?_eq_some_iff.1 ho).1;have h2:=hall j hj';have hjl:j<l.size:=by rw [hI.size];exact hj'
   simp [hjl] at h1 h2
   rw [h1] at h2;cases h2
  ·rcases Nat.lt_or_ge vs.length c.length with h|h
   ·have:=(hI.done _ h).1 (hall _ (qi hB h).1)
    omega
   ·have:=hI.len;omega
 | succ fuel ih=>
  intro l x w vs hu hI;refine⟨fun h0=>?_,fun i hi=>?_⟩
  ·exfalso
   have:∃ i,i<ops.size∧l.getD i false=false:=by
    by_cases hc:∃ i,i<ops.size∧l.getD i false=false
    ·exact hc
    ·exfalso
     have hz:∀ n,n≤ops.size→wU l n=0:=by
      intro n;induction n with
      | zero=>intro _;rfl
      | succ n ihn=>
       intro hn;rw [wU,ihn (by omega),if_pos];cases hb:l.getD n false
       ·exact absurd ⟨n,by omega,hb⟩ hc
       ·rfl
     rw [hz _ (Nat.le_refl _)] at hu;omega
   obtain⟨i,hi,hb⟩:=this;obtain⟨j,hj⟩:=DV hB hI.size i i rfl hi hb;rw [h0] at hj;cases hj
  ·obtain⟨h1,o,ho,hall⟩:=mem_ready.1 hi
   have Nl:=(Array.getElem?_eq_some_iff.1 ho).1;have hil:i<l.size:=by rw [hI.size];exact Nl
   have h1':l.getD i false=false:=by simp [hil] at h1 ⊢;exact h1
   have JV:∀ j,ja o j=true→l.getD j false=true:=fun j hw=>by
    obtain⟨e,he,hb⟩:=Array.any_eq_true'.1 hw;simp only [Bool.and_eq_true,beq_iff_eq] at hb;rw [←hb.2];exact hall e he hb.1
   have hlen:∀ m,at_ c i=some m→vs.length=m:=fun m hm=>by
    obtain⟨hmc,GF⟩:=qh hm
    have hno:¬ m<vs.length:=fun h=>by
     have:=(hI.done m hmc).2 h;rw [GF,h1'] at this;cases this
    rcases (qi hB hmc).2.1 with h|⟨o',ho',hw⟩
    ·omega
    ·rw [GF] at ho'
     obtain rfl:o'=o:=Option.some.inj (ho'.symm.trans ho);rcases Nat.eq_zero_or_pos m with h0|h0
     ·omega
     ·have:=(hI.done (m-1) (by omega)).1 (JV _ hw)
      omega
   have hbef:∀ m o',m<c.length→ops[c.getD m 0]? = some o'→wQ ops 40 o' i=true→vs.length≤m:=fun m o' hm ho' hw=>by
    rcases Nat.lt_or_ge m vs.length with h|h
    ·exfalso
     have hl:=(hI.done m hm).2 h;have:=zG hI.closed 40 _ o' i ho' hl hw;rw [h1'] at this;cases this
    ·exact h
   refine wpOp_step ho fun K hK=>?_
   refine step i o ho x vs w hI.holds hlen hbef (fun j hj hw=>hI.yes j hj (JV j hw)) K (fun a' w' v ha' hG hv=>hK a' w' ?_)
   subst ha';rw [yj a x ho]
   have hne:∀ j t u,j<ops.size→j≠i→aW ops j=some t→slots ops i x u t=x t:=fun j t u hj hne ht=>by
    unfold slots;cases hd:aW ops i with
    | none=>rfl
    | some t'=>
     simp only [upTo];rw [if_neg];rintro rfl;exact Nu hB Nl hj (Ne.symm hne) hd ht
   have heq:∀ t u,aW ops i=some t→slots ops i x u t=u:=fun t u ht=>by
    unfold slots;rw [ht];simp [upTo]
   have hdst:∀ j,j<ops.size→at_ c j=none→aW ops j=some (BZ ops j):=fun j hj hc=>by
    have:=List.all_eq_true.1 hS j (List.mem_range.2 hj);rw [hc] at this;simp only [Option.isSome_none,Bool.false_or] at this;obtain⟨t,ht⟩:=Option.isSome_iff_exists.1 this;unfold BZ;rw [ht];rfl
   have hold:∀ j,j<ops.size→l.getD j false=true→j≠i→∀ vs',(∀ m,m<vs.length→vs'.getD m undef=vs.getD m undef)→known ops c Sp (slots ops i x v) vs' w' j:=fun j hj hl hji vs' hvs=>by
    have hk:=hI.yes j hj hl;unfold known at hk ⊢;cases hcj:at_ c j with
    | none=>
     rw [hcj] at hk;simp only at hk ⊢;rw [hne j _ v hj hji (hdst j hj hcj)];exact DK _ _ _ _ hk hG
    | some m=>
     rw [hcj] at hk;simp only at hk ⊢;intro t ht;rw [hne j t v hj hji ht,hk t ht];obtain⟨hmc,hmj⟩:=qh hcj;exact(hvs m ((hI.done m hmc).1 (by rw [hmj];exact hl))).symm
   cases hc:at_ c i with
   | none=>
    rw [hc] at hv;obtain⟨hsp,hF⟩:=hv;refine ih _ _ _ vs (by have:=oC hil h1' ops.size Nl;omega) ⟨by simp [hI.size],hF,hI.len,fun j oj hoj hl e he hb=>?_,fun m hm=>?_,fun j hj hl=>?_⟩
    ·by_cases e':i=j
     ·subst e'
      obtain rfl:oj=o:=Option.some.inj (hoj.symm.trans ho);exact getD_set_true (hall e he hb)
     ·rw [getD_set_ne false e'] at hl
      exact getD_set_true (hI.closed j oj hoj hl e he hb)
    ·have GF:c.getD m 0≠i:=fun e=>by
      have:=(qi hB hm).2.2;rw [e,hc] at this;cases this
     rw [getD_set_ne false (Ne.symm GF)];exact hI.done m hm
    ·by_cases e':j=i
     ·subst e'
      unfold known;rw [hc];simp only
      rw [heq _ _ (hdst _ hj hc)];exact hsp
     ·rw [getD_set_ne false (Ne.symm e')] at hl
      exact hold j hj hl e' vs fun _ _=>rfl
   | some m=>
    rw [hc] at hv;have hvl:=hlen m hc;obtain⟨hmc,GF⟩:=qh hc;refine ih _ _ _ (vs ++ [v]) (by have:=oC hil h1' ops.size Nl;omega) ⟨by simp [hI.size],hv,by simp;omega,fun j oj hoj hl e he hb=>?_,fun m' hm'=>?_,fun j hj hl=>?_⟩
    ·by_cases e':i=j
     ·subst e'
      obtain rfl:oj=o:=Option.some.inj (hoj.symm.trans ho);exact getD_set_true (hall e he hb)
     ·rw [getD_set_ne false e'] at hl
      exact getD_set_true (hI.closed j oj hoj hl e he hb)
    ·rw [List.length_append,List.length_singleton,hvl]
     by_cases e':m'=m
     ·subst e'
      rw [GF];simp [hil]
     ·have QU:c.getD m' 0≠i:=fun e=>by
       have:=(qi hB hm').2.2;rw [e,hc] at this;cases this;exact e' rfl
      rw [getD_set_ne false (Ne.symm QU),hI.done m' hm',hvl];omega
    ·by_cases e':j=i
     ·subst e'
      unfold known;rw [hc];simp only
      intro t ht;rw [heq t _ ht];simp [←hvl]
     ·rw [getD_set_ne false (Ne.symm e')] at hl
      exact hold j hj hl e' _ fun m' hm'=>by simp [List.getElem?_append_left hm']
theorem af {P:Program} {ops:Array Oper} {o:Oper} {a:Act} {w:World} {K:Act→World→Prop} {Q:Exit→Act→World→Prop} (hg:o.guard=none) (h:Oper.wp P o a w K Q):if Region.wanted o (yielded ops a.tmps)=true then Oper.wp P o a w K Q else K (a.put o.dst undef) w:=by
 rw [if_pos (by simp [Region.wanted,hg])];exact h
theorem dN {P:Program} {ops:Array Oper} {o:Oper} {a:Act} {w:World} {K:Act→World→Prop} {Q:Exit→Act→World→Prop} {g:Nat} {b:Bool} (hg:o.guard=some (g,b)) (hy:yielded ops a.tmps g=some b) (h:Oper.wp P o a w K Q):if Region.wanted o (yielded ops a.tmps)=true then Oper.wp P o a w K Q else K (a.put o.dst undef) w:=by
 rw [if_pos (by simp [Region.wanted,hg,hy])];exact h
theorem gq {P:Program} {ops:Array Oper} {o:Oper} {a:Act} {w:World} {K:Act→World→Prop} {Q:Exit→Act→World→Prop} {g:Nat} {b c:Bool} (hg:o.guard=some (g,b)) (hy:yielded ops a.tmps g=some c) (hc:(c == b)=false) (h:K (a.put o.dst undef) w):if Region.wanted o (yielded ops a.tmps)=true then Oper.wp P o a w K Q else K (a.put o.dst undef) w:=by
 rw [if_neg (by simp only [Region.wanted,hg,hy];simp at hc;simpa using hc)];exact h
end aj
open specs aj in
theorem di {P:Program} {id:Nat} {l:List Oper} {Q:Exit→Act→World→Prop} {a:Act} {w:World} (c:List Nat) (Sp:Nat→Value→World→Prop) (F:List Value→World→Prop) (G:World→World→Prop) {frame:(Nat→Value)→Act} (hf:∀ x,chain.aK l.toArray a x=frame x) (hm:P.follows .mixedOrders=true) (hB:aj.SC l.toArray c=true) (hS:EH l.toArray c=true)
  (DK:∀ i v w w',Sp i v w→G w w'→Sp i v w')
  (h0:F [] w.drew)
  (step:ai (fun i o=>aj.Oz P l.toArray l.length c Sp F G frame Q i o) 0 l)
  (fin:∀ x vs w1,vs.length=c.length→F vs w1→(∀ i,i<l.length→aj.known l.toArray c Sp x vs w1 i)→Q .normal (frame x) w1):(Code.region id l.toArray true).wp P Q a w:=by
 have ha:chain.aK l.toArray a (fun k=>a.tmps.getD k undef)=a:=by unfold chain.aK;rw [chain.yh]
 have hfe:chain.aK l.toArray a=frame:=funext hf;refine wp_region_any hm ?_
 have h:=aj.rung (P:=P) (ops:=l.toArray) (Q:=Q) (a:=a) c Sp F G hB hS DK (fun i o ho=>by
   have h:=step.get i o (by simpa using ho);rw [Nat.zero_add] at h;rw [hfe];simpa using h) (fun x vs w1 hl hF hs=>by rw [hf];exact fin x vs w1 hl hF fun i hi=>hs i (by simpa using hi)) l.toArray.size (Array.replicate l.toArray.size false) (fun k=>a.tmps.getD k undef) w.drew [] (rU _ _ (Nat.le_refl _))
  ⟨by simp,h0,by simp,fun j o ho hl=>(by rw [getD_replicate_false] at hl;cases hl),fun m hm=>(by rw [getD_replicate_false];simp),fun i hi hl=>(by rw [getD_replicate_false] at hl;cases hl)⟩
 rw [ha] at h;exact h
end Go.Proofs.YtpcihajmcejliacGreatDoor
