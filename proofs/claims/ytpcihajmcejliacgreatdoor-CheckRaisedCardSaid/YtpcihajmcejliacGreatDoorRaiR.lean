/- Faces, in plain Lean; and how one lies in memory. What the checker makes of a module, in plain Lean: what names are, labels, faults. What comes out low may come out high instead: the checker's plain law. A node whose outputs are made high: its form, its declarations, the checker's answer. The walk of raised: a node whose n-th output that is low is high; the node is new. -/
import Derived.Maps.OwnSet
import Derived.Maps.OwnOps
import Derived.Lib.IndexMore
import Derived.Test.YtpcihajmcejliacGreatDoorLexNum
import Derived.Test.YtpcihajmcejliacGreatDoorNameMath
import Derived.Test.YtpcihajmcejliacGreatDoorOfD
import Derived.Test.YtpcihajmcejliacGreatDoorSynC
import Derived.Test.YtpcihajmcejliacGreatDoorSyn3
namespace Go.Proofs.YtpcihajmcejliacGreatDoor
open Go.RowKit Go.WideMaps Go.Maps
def uN (n:Int):Bool:=n == 0 || n == 1
def OA (v:jw):Bool:=v.pub&&uN v.label&&decide (0≤v.size)&&decide (v.size≤64)
def DU (p:aO):Bool:=p.pub&&decide (p.params.length≤5)&&uN p.writes&&uN p.given&&(p.gives || p.given == 0)&&p.params.all uN
def jw.key (v:jw):List UInt8:=v.name.data.toList
def aO.key (p:aO):List UInt8:=p.name.data.toList
def bf.keys (f:bf):List (List UInt8):=f.vars.map jw.key++f.procs.map aO.key
def jE:List (List UInt8)→Bool
 | []=>true
 | x::r=>!r.contains x&&jE r
def sG (f:bf):Bool:=
 nameB f.modn.data.toList&&decide (f.vars.length+f.procs.length≤20)&&f.vars.all OA&&f.procs.all DU&&f.keys.all nameB&&jE f.keys
namespace face
theorem wH (l:List (List UInt8)) (x:List UInt8):jE (l ++ [x])=(jE l && !l.contains x):=by
 induction l with
 | nil=>simp [jE]
 | cons y r ih=>
  have e1:(r ++ [x]).contains y=(r.contains y || decide (y=x)):=by
   rw [Bool.eq_iff_iff];simp
  have e2:(y::r).contains x=(decide (y=x) || r.contains x):=by
   rw [List.contains_cons,Bool.eq_iff_iff];simp only [Bool.or_eq_true,beq_iff_eq,decide_eq_true_eq];constructor
   ·rintro (h|h)
    ·exact .inl h.symm
    ·exact .inr h
   ·rintro (h|h)
    ·exact .inl h.symm
    ·exact .inr h
  simp only [List.cons_append,jE,ih,e1,e2];cases r.contains y<;>cases r.contains x<;>cases jE r<;>cases decide (y=x)<;>rfl
def Ho {H:Type} (D:DataW H) (L:List (List UInt8)):Prop:=
 (∀ s,has D (.string s)=L.contains s)∧Maps.size D≤L.length∧(jE L=decide (Maps.size D=L.length))
theorem OD {H:Type}:Ho (.map []:DataW H) []:=⟨fun _=>rfl,Nat.le_refl _,rfl⟩
theorem DW {H:Type} {D:DataW H} {L:List (List UInt8)} (h:Ho D L) (ht:Tidy D) (x:List UInt8) (d:DataW H):Ho (D.put (.string x) d) (L ++ [x]):=by
 obtain⟨h1,h2,h3⟩:=h;have hk:WideAt.IsKeyLit (.string x):=by trivial
 have hsz:=size_put ht (k:=.string x) d;refine⟨fun s=>?_,?_,?_⟩
 ·by_cases hs:s=x
  ·subst hs
   rw [has_put_same ht.isMap hk];simp
  ·rw [has_put_other (by simpa using hs),h1]
   simp [hs]
 ·rw [hsz,List.length_append]
  simp
  split<;>omega
 ·rw [wH,h3,hsz,h1 x]
  simp only [List.length_append,List.length_singleton];cases hc:L.contains x
  ·simp
  ·simp;omega
theorem BA {α : Type} (p:α→Bool) (l:List α) (k:Nat) (h:k<l.length):(l.take (k+1)).all p=((l.take k).all p&&p l[k]):=by
 rw [List.take_succ_eq_append_getElem h,List.all_append,List.all_cons,List.all_nil,Bool.and_true]
theorem Fb {α : Type} {p:α→Bool} {l:List α} {k:Nat} (h:k<l.length) (hp:p l[k]=false):l.all p=false:=by
 rw [Bool.eq_false_iff];intro ha;rw [List.all_eq_true] at ha;rw [ha _ (List.getElem_mem h)] at hp;cases hp
theorem yX {α : Type} {p:α→Bool} {l:List α} {k:Nat} (h:l.length=k) (hp:(l.take k).all p=true):l.all p=true:=by
 rw [List.take_of_length_le (by omega)] at hp;exact hp
end face
end Go.Proofs.YtpcihajmcejliacGreatDoor
namespace Go.Proofs.YtpcihajmcejliacGreatDoor
open Go.RowKit
structure ry where
 (loc:Int) (modn name:ByteArray) (label size:Int)
inductive Tr where
 | mk (kind num:Int) (kids:List Tr) (ref:ry) (label ctx:Int)
def Tr.kd:Tr→Int
 | .mk k _ _ _ _ _=>k
def Tr.nm:Tr→Int
 | .mk _ m _ _ _ _=>m
def Tr.kids:Tr→List Tr
 | .mk _ _ l _ _ _=>l
def Tr.ref:Tr→ry
 | .mk _ _ _ r _ _=>r
def Tr.lab:Tr→Int
 | .mk _ _ _ _ b _=>b
def Tr.ctx:Tr→Int
 | .mk _ _ _ _ _ c=>c
def jo:ry:=⟨0,aF,aF,0,0⟩
instance:Inhabited Tr:=⟨.mk 0 0 [] jo 0 0⟩
structure Loc where
 (name:ByteArray) (label deep:Int)
structure eG where
 (own:bf) (known:List (ByteArray×bf))
inductive Rz (α : Type) where
 | bad (c:Int) (p:Nat)
 | ok (x:α)
def Rz.bind {α β : Type} (r:Rz α) (f:α→Rz β):Rz β:=match r with
 | .bad c p=>.bad c p
 | .ok x=>f x
def fK (z:Int) (ls:List Int):Bool:=ls.all fun l=>decide (z=1) || decide (l=0)
def NY (t:ByteArray):ByteArray×ByteArray×Bool:=(⟨(Lib.cut t.data.toList [46]).1.toArray⟩,⟨(Lib.cut t.data.toList [46]).2.1.toArray⟩,(Lib.cut t.data.toList [46]).2.2)
def dH (L:List (ByteArray×bf)) (s:ByteArray):Option bf:=match L with
 | []=>none
 | (x,f)::r=>if x=s then some f else dH r s
def mV (E:eG) (t:ByteArray):bf×ByteArray×Bool:=
 if (NY t).2.2=false then (E.own,t,true) else ((dH E.known (NY t).1).getD kC,(NY t).2.1,(dH E.known (NY t).1).isSome)
def zZ (L:List Loc) (t:ByteArray):Nat→Option (Nat×Loc)
 | 0=>none
 | n+1=>match L[n]? with
  | some l=>if l.name=t then some (n,l) else zZ L t n
  | none=>zZ L t n
def DL (l:List jw) (s:ByteArray):Option jw:=l.find? fun v=>decide (v.name=s)
def ru (l:List aO) (s:ByteArray):Option aO:=l.foldl (fun o p=>if p.name=s then some p else o) none
def AU (E:eG) (L:List Loc) (t:ByteArray) (at_:Nat):Rz ry:=
 match zZ L t L.length with
 | some (i,l)=>.ok ⟨(i:Nat),aF,aF,l.label,0⟩
 | none=>if (mV E t).2.2=true then (match DL (mV E t).1.vars (mV E t).2.1 with
   | some v=>.ok ⟨-1,(mV E t).1.modn,(mV E t).2.1,v.label,v.size⟩
   | none=>.bad 4 at_) else .bad 4 at_
def nZ:List Int→List Tr→Bool
 | p::ps,k::ks=>fK p [k.lab]&&nZ ps ks
 | _,_=>true
def Gx (fm s:ByteArray) (ctx:Int) (alone:Bool) (ks:List Tr) (at_:Nat):Option aO→Rz (ry×Int)
 | none=>.bad 4 at_
 | some p=>if p.params.length≠ks.length then .bad 6 at_ else if (p.gives || alone)=false then .bad 3 at_
  else if nZ p.params ks=false then .bad 7 at_ else if fK p.writes [ctx]=false then .bad 7 at_
  else .ok (⟨-1,fm,s,0,0⟩,p.given)
def uC (E:eG) (ctx:Int) (alone:Bool) (t:ByteArray) (ks:List Tr) (at_:Nat):Rz (ry×Int):=
 Gx (mV E t).1.modn (mV E t).2.1 ctx alone ks at_ (if (mV E t).2.2=true then ru (mV E t).1.procs (mV E t).2.1 else none)
def joinL (ks:List Tr):Int:=ks.foldl (fun a y=>jL a y.lab) 0
def wS (E:eG) (L:List Loc) (ctx:Int) (alone:Bool) (k:Int) (t:ByteArray) (m:Int) (ks:List Tr) (at_:Nat):Rz Tr:=
 if k=16∨k=17 then (AU E L t at_).bind fun r=>if decide (0<r.size)=decide (k=17) then .ok (.mk k m ks r (jL (joinL ks) r.label) ctx) else .bad 3 at_
 else if k=18 then (uC E ctx alone t ks at_).bind fun r=>.ok (.mk k m ks r.1 r.2 ctx)
 else .ok (.mk k m ks jo (joinL ks) ctx)
mutual
def zy (E:eG) (L:List Loc) (ctx:Int):Bool→Nd→Nat→Rz Tr
 | alone,.mk k t m l,at_=>(tX E L ctx l (at_+1)).bind fun ks=>wS E L ctx alone k t m ks at_
def tX (E:eG) (L:List Loc) (ctx:Int):List Nd→Nat→Rz (List Tr)
 | [],_=>.ok []
 | x::r,at_=>(zy E L ctx false x at_).bind fun y=>(tX E L ctx r (at_+dL x)).bind fun ys=>.ok (y::ys)
end
def jv (x:Tr):Int:=if x.kd=17 then (x.kids.headD default).lab else 0
def wQ (pr:aO) (L:List Loc) (deep ctx:Int) (last:Bool) (k:Int) (t:ByteArray) (m:Int) (ks:List Tr) (at_:Nat):Rz (Tr×List Loc):=
 if k=7 then
  if (L.any fun l=>decide (l.deep=deep)&&decide (l.name=t))=true then .bad 5 at_
  else if 20≤L.length then .bad 1 at_
  else if fK m [(ks.headD default).lab,ctx]=false then .bad 7 at_
  else .ok (.mk k m ks ⟨(L.length:Nat),aF,aF,m,0⟩ 0 ctx,L ++ [⟨t,m,deep⟩])
 else if k=8 then
  if fK (ks.headD default).ref.label [((ks.tail).headD default).lab,jv (ks.headD default),ctx]=false then .bad 7 at_ else .ok (.mk k m ks jo 0 ctx,L)
 else if k=12 then
  if fK m [(ks.headD default).lab,ctx]=false then .bad 7 at_ else .ok (.mk k m ks jo 0 ctx,L)
 else if k=13 then
  if fK m [ctx]=false then .bad 7 at_ else if fK (ks.headD default).ref.label [m,jv (ks.headD default),ctx]=false then .bad 7 at_ else .ok (.mk k m ks jo 0 ctx,L)
 else if k=14 then
  if (last&&pr.gives)=false then .bad 2 at_ else if fK pr.given [(ks.headD default).lab]=false then .bad 7 at_ else .ok (.mk k m ks jo 0 ctx,L)
 else .ok (.mk k m ks jo 0 ctx,L)
mutual
def Gz (E:eG) (pr:aO) (ctx:Int) (last:Bool):List Loc→Int→Nd→Nat→Rz (Tr×List Loc)
 | L,deep,.mk k t m l,at_=>(lU E pr ctx (decide (k=9)) L deep l none (at_+1)).bind fun ks=>wQ pr L deep ctx last k t m ks at_
/-- a statement's kids; the label of the first -/
def lU (E:eG) (pr:aO) (ctx:Int) (alone:Bool):List Loc→Int→List Nd→Option Int→Nat→Rz (List Tr)
 | _,_,[],_,_=>.ok []
 | L,deep,x::r,b,at_=>(if x.kd=6 then C0 E pr (jL ctx (b.getD 0)) false L (deep+1) x at_ else zy E L ctx alone x at_).bind fun y=>
   (lU E pr ctx alone L deep r (some (b.getD y.lab)) (at_+dL x)).bind fun ys=>.ok (y::ys)
def C0 (E:eG) (pr:aO) (ctx:Int) (outer:Bool):List Loc→Int→Nd→Nat→Rz Tr
 | L,deep,.mk k _ _ l,at_=>(wR E pr ctx outer L deep l (at_+1)).bind fun ks=>.ok (.mk k 0 ks jo 0 ctx)
def wR (E:eG) (pr:aO) (ctx:Int) (outer:Bool):List Loc→Int→List Nd→Nat→Rz (List Tr)
 | _,_,[],_=>.ok []
 | L,deep,x::r,at_=>(Gz E pr ctx (outer&&r.isEmpty) L deep x at_).bind fun y=>(wR E pr ctx outer y.2 deep r (at_+dL x)).bind fun ys=>.ok (y.1::ys)
end
def ve (ps:List Nd):List Loc:=ps.map fun p=>⟨p.tx,p.nm,1⟩
def u_ (E:eG) (pr:aO) (x:Nd) (at_:Nat):Rz Tr:=
 (C0 E pr pr.writes true (ve x.kids.dropLast) 1 (x.kids.getLastD kE) (at_+1+x.kids.dropLast.length)).bind fun b=>
  if (pr.gives && !(match (x.kids.getLastD kE).kids.getLast? with
   | some s=>decide (s.kd=14)
   | none=>false))=true then .bad 2 at_ else .ok b
def iR (own:bf) (G:List (ByteArray×bf)):List Nd→List (ByteArray×bf)→List aO→List (aO×Tr)→Nat→Rz (List (ByteArray×bf)×List (aO×Tr))
 | [],K,_,B,_=>.ok (K,B)
 | x::r,K,ps,B,at_=>
  if x.kd=2 then (match dH G x.tx with
   | none=>.bad 4 at_
   | some f=>iR own G r (K ++ [(x.tx,f)]) ps B (at_+1))
  else if x.kd=3 then iR own G r K ps B (at_+(1+x.kids.length))
  else match ps with
   | []=>.bad 0 at_
   | p::q=>(u_ ⟨own,K⟩ p x at_).bind fun b=>iR own G r K q (B ++ [(p,b)]) (at_+dL x)
def mO:List bf→List (ByteArray×bf)→Option (List (ByteArray×bf))
 | [],G=>some G
 | f::r,G=>if (dH G f.modn).isSome=true∨sG f=false then none else mO r (G ++ [(f.modn,f)])
def eu (s:ByteArray) (l:List bf):Rz (Nd×List (ByteArray×bf)×List (aO×Tr)):=
 match mO l [] with
 | none=>.bad 2 0
 | some G=>if (zF s).2.2.1=0 then
   (iR ⟨(aZ s).1.tx,iy (aZ s).1.kids,bh (aZ s).1.kids⟩ G (aZ s).1.kids [] (bh (aZ s).1.kids) [] 1).bind fun r=>.ok ((aZ s).1,r)
  else .bad (zF s).2.2.1 (zF s).2.2.2.toNat
end Go.Proofs.YtpcihajmcejliacGreatDoor
namespace Go.Proofs.YtpcihajmcejliacGreatDoor
open Go.RowKit
def rsM (k m n:Int):Int:=if k=12∧m=0∧n=0 then 1 else m
def Xp (k m n:Int):Int:=if k=12∧m=0 then n-1 else n
mutual
/-- a node whose n-th output that is low is high; how many are left -/
def yN:Nd→Int→Nd×Int
 | .mk k t m l,n=>(.mk k t (rsM k m n) (zn l (Xp k m n)).1,(zn l (Xp k m n)).2)
def zn:List Nd→Int→List Nd×Int
 | [],n=>([],n)
 | x::r,n=>((yN x n).1::(zn r (yN x n).2).1,(zn r (yN x n).2).2)
end
namespace raised
mutual
/-- the same but for outputs that were low -/
def yA:Nd→Nd→Prop
 | .mk k t m l,.mk k' t' m' l'=>k'=k∧t'=t∧(m'=m∨(k=12∧m=0∧m'=1))∧pJ l l'
def pJ:List Nd→List Nd→Prop
 | [],[]=>True
 | x::r,y::s=>yA x y∧pJ r s
 | _,_=>False
end
theorem YV (k m n:Int):rsM k m n=m∨(k=12∧m=0∧rsM k m n=1):=by
 unfold rsM;split
 ·rename_i h;exact .inr ⟨h.1,h.2.1,rfl⟩
 ·exact .inl rfl
theorem YW {l:List Nd} (h:∀ x∈l,∀ n,yA x (yN x n).1):∀ n,pJ l (zn l n).1:=by
 induction l with
 | nil=>intro n;simp only [zn,pJ]
 | cons x r ih=>
  intro n;simp only [zn,pJ];exact⟨h x (List.mem_cons_self ..) n,ih (fun y hy=>h y (List.mem_cons_of_mem _ hy)) _⟩
theorem ai5:∀ x n,yA x (yN x n).1:=by
 refine gz fun k t m l ih n=>?_
 simp only [yN,yA];exact⟨trivial,trivial,YV _ _ _,YW ih _⟩
def FQ {α β : Type} (R:α→β→Prop) (x:Rz α) (y:Rz β):Prop:=∀ a,x=.ok a→∃ b,y=.ok b∧R a b
theorem jU {α β : Type} {R:α→β→Prop} {a:α} {b:β} (h:R a b):FQ R (.ok a) (.ok b):=fun x e=>by cases e;exact⟨b,rfl,h⟩
theorem wB {α β : Type} {R:α→β→Prop} {c:Int} {p:Nat} {y:Rz β}:FQ R (.bad c p:Rz α) y:=fun x e=>by cases e
theorem jV {α β γ δ : Type} {R:α→β→Prop} {S:γ→δ→Prop} {x:Rz α} {y:Rz β} {f:α→Rz γ} {g:β→Rz δ} (h:FQ R x y) (hf:∀ a b,R a b→FQ S (f a) (g b)):FQ S (x.bind f) (y.bind g):=by
 cases x with
 | bad c p=>exact wB
 | ok a=>
  obtain⟨b,rfl,hr⟩:=h a rfl;exact hf a b hr
theorem IW {α : Type} {R:α→α→Prop} (h:∀ a,R a a) (x:Rz α):FQ R x x:=fun a e=>⟨a,e,h a⟩
theorem nP {α β : Type} {R:α→β→Prop} {P:Prop} [Decidable P] {c:Int} {p:Nat} {x:Rz α} {y:Rz β} (h:¬ P→FQ R x y):FQ R (if P then .bad c p else x) (if P then .bad c p else y):=by
 by_cases hP:P
 ·rw [if_pos hP,if_pos hP];exact wB
 ·rw [if_neg hP,if_neg hP];exact h hP
structure Um (a b:Tr):Prop where
 kd:b.kd=a.kd
 ref:b.ref=a.ref
 lab:b.lab=a.lab
 first:(b.kids.headD default).lab=(a.kids.headD default).lab
inductive tC:List Tr→List Tr→Prop where
 | nil:tC [] []
 | cons {a b:Tr} {r s:List Tr}:Um a b→tC r s→tC (a::r) (b::s)
theorem TB (a:Tr):Um a a:=⟨rfl,rfl,rfl,rfl⟩
theorem tC.head {r s:List Tr} (h:tC r s):Um (r.headD default) (s.headD default):=by
 cases h with
 | nil=>exact TB _
 | cons h _=>exact h
theorem tC.tail {r s:List Tr} (h:tC r s):tC r.tail s.tail:=by
 cases h with
 | nil=>exact .nil
 | cons _ h=>exact h
theorem tC.len {r s:List Tr} (h:tC r s):s.length=r.length:=by
 induction h with
 | nil=>rfl
 | cons _ _ ih=>simp [ih]
theorem tC.join {r s:List Tr} (h:tC r s):joinL s=joinL r:=by
 unfold joinL
 have:∀ a,s.foldl (fun a y=>jL a y.lab) a=r.foldl (fun a y=>jL a y.lab) a:=by
  induction h with
  | nil=>intro a;rfl
  | cons h _ ih=>intro a;simp only [List.foldl_cons,h.lab];exact ih _
 exact this 0
theorem tC.args {r s:List Tr} (h:tC r s):∀ ps,nZ ps s=nZ ps r:=by
 induction h with
 | nil=>intro ps;cases ps<;>rfl
 | cons h _ ih=>
  intro ps;cases ps with
  | nil=>rfl
  | cons p q=>simp only [nZ,h.lab,ih]
theorem VD {E:eG} {ctx:Int} {alone:Bool} {t:ByteArray} {r s:List Tr} {at_:Nat} (h:tC r s):uC E ctx alone t s at_=uC E ctx alone t r at_:=by
 unfold uC;generalize (if (mV E t).2.2=true then ru (mV E t).1.procs (mV E t).2.1 else none)=o;cases o with
 | none=>rfl
 | some p=>simp only [Gx,h.len,h.args]
def MP (k m m':Int):Prop:=m'=m∨(k=12∧m=0∧m'=1)
theorem YX {E:eG} {L:List Loc} {ctx:Int} {alone:Bool} {k:Int} {t:ByteArray} {m m':Int} {r s:List Tr} {at_:Nat} (h:tC r s):FQ Um (wS E L ctx alone k t m r at_) (wS E L ctx alone k t m' s at_):=by
 unfold wS;by_cases h1:k=16∨k=17
 ·rw [if_pos h1,if_pos h1]
  refine jV (IW (R:=Eq) (fun _=>rfl) _) ?_
  rintro a _ rfl;by_cases h2:decide (0<a.size)=decide (k=17)
  ·rw [if_pos h2,if_pos h2]
   exact jU ⟨rfl,rfl,by show jL (joinL s) a.label=jL (joinL r) a.label;rw [h.join],h.head.lab⟩
  ·rw [if_neg h2,if_neg h2];exact wB
 ·rw [if_neg h1,if_neg h1]
  by_cases h2:k=18
  ·rw [if_pos h2,if_pos h2,VD h]
   refine jV (IW (R:=Eq) (fun _=>rfl) _) ?_
   rintro a _ rfl;exact jU ⟨rfl,rfl,rfl,h.head.lab⟩
  ·rw [if_neg h2,if_neg h2]
   exact jU ⟨rfl,rfl,h.join,h.head.lab⟩
theorem qX {x y:Nd} (h:yA x y):y.kd=x.kd∧y.tx=x.tx∧MP x.kd x.nm y.nm∧pJ x.kids y.kids:=by
 cases x with
 | mk k t m l=>cases y with
  | mk k' t' m' l'=>simp only [yA] at h;exact h
theorem Em:∀ x y,yA x y→dL y=dL x:=by
 refine gz fun k t m l ih y h=>?_
 cases y with
 | mk k' t' m' l'=>
  simp only [yA] at h;have h4:=h.2.2.2;simp only [dL];congr 1
  clear h;induction l generalizing l' with
  | nil=>cases l' with
   | nil=>rfl
   | cons _ _=>simp only [pJ] at h4
  | cons x r ih2=>cases l' with
   | nil=>simp only [pJ] at h4
   | cons y s=>
    simp only [pJ] at h4;simp only [gm];rw [ih x (List.mem_cons_self ..) y h4.1,ih2 (fun z hz=>ih z (List.mem_cons_of_mem _ hz)) s h4.2]
theorem YY {E:eG} {L:List Loc} {ctx:Int}:∀ (l l':List Nd) (at_:Nat),(∀ x∈l,∀ y alone at_,yA x y→FQ Um (zy E L ctx alone x at_) (zy E L ctx alone y at_))→pJ l l'→FQ tC (tX E L ctx l at_) (tX E L ctx l' at_):=by
 intro l;induction l with
 | nil=>intro l' at_ _ h;cases l' with
  | nil=>simp only [tX];exact jU .nil
  | cons _ _=>simp only [pJ] at h
 | cons x r ih=>intro l' at_ hx h;cases l' with
  | nil=>simp only [pJ] at h
  | cons y s=>
   simp only [pJ] at h;simp only [tX];refine jV (hx x (List.mem_cons_self ..) y false at_ h.1) fun a b hab=>?_
   rw [Em x y h.1];refine jV (ih s _ (fun z hz=>hx z (List.mem_cons_of_mem _ hz)) h.2) fun ka kb h2=>?_
   exact jU (.cons hab h2)
theorem ai6 {E:eG} {L:List Loc} {ctx:Int}:∀ (x y:Nd) (alone:Bool) (at_:Nat),yA x y→FQ Um (zy E L ctx alone x at_) (zy E L ctx alone y at_):=by
 refine gz fun k t m l ih y alone at_ h=>?_
 cases y with
 | mk k' t' m' l'=>
  simp only [yA] at h;obtain⟨rfl,rfl,-,h4⟩:=h;simp only [zy];exact jV (YY l l' _ ih h4) fun a b hab=>YX hab
theorem TC {a b:Tr} (h:Um a b):jv b=jv a:=by unfold jv;rw [h.kd,h.first]
theorem Pv (ls:List Int):fK 1 ls=true:=by
 unfold fK;rw [List.all_eq_true];intro x _;simp
def ai7 (a b:Tr×List Loc):Prop:=Um a.1 b.1∧b.2=a.2
theorem YZ {pr:aO} {L:List Loc} {deep ctx:Int} {last:Bool} {k:Int} {t:ByteArray} {m m':Int} {r s:List Tr} {at_:Nat} (h:tC r s) (hm:MP k m m'):FQ ai7 (wQ pr L deep ctx last k t m r at_) (wQ pr L deep ctx last k t m' s at_):=by
 unfold wQ;have hh:=h.head;have hi:=TC hh;have ht:=h.tail.head.lab;by_cases h7:k=7
 ·obtain rfl:m'=m:=by
   rcases hm with e|⟨e,-⟩
   ·exact e
   ·omega
  rw [if_pos h7,if_pos h7,hh.lab];refine nP fun _=>nP fun _=>nP fun _=>jU ⟨⟨rfl,rfl,rfl,hh.lab⟩,rfl⟩
 rw [if_neg h7,if_neg h7];by_cases h8:k=8
 ·rw [if_pos h8,if_pos h8,hh.ref,ht,hi]
  exact nP fun _=>jU ⟨⟨rfl,rfl,rfl,hh.lab⟩,rfl⟩
 rw [if_neg h8,if_neg h8];by_cases h12:k=12
 ·rw [if_pos h12,if_pos h12,hh.lab]
  rcases hm with e|⟨-,-,e⟩
  ·rw [e]
   exact nP fun _=>jU ⟨⟨rfl,rfl,rfl,hh.lab⟩,rfl⟩
  ·rw [e,Pv,if_neg (fun h:true=false=>by cases h)]
   by_cases hf:fK m [(r.headD default).lab,ctx]=false
   ·rw [if_pos hf];exact wB
   ·rw [if_neg hf];exact jU ⟨⟨rfl,rfl,rfl,hh.lab⟩,rfl⟩
 rw [if_neg h12,if_neg h12]
 obtain rfl:m'=m:=by
  rcases hm with e|⟨e,-⟩
  ·exact e
  ·omega
 by_cases h13:k=13
 ·rw [if_pos h13,if_pos h13,hh.ref,hi]
  exact nP fun _=>nP fun _=>jU ⟨⟨rfl,rfl,rfl,hh.lab⟩,rfl⟩
 rw [if_neg h13,if_neg h13];by_cases h14:k=14
 ·rw [if_pos h14,if_pos h14,hh.lab]
  exact nP fun _=>nP fun _=>jU ⟨⟨rfl,rfl,rfl,hh.lab⟩,rfl⟩
 rw [if_neg h14,if_neg h14];exact jU ⟨⟨rfl,rfl,rfl,hh.lab⟩,rfl⟩
def Y0 (x:Nd):Prop:=∀ y,yA x y→(∀ E pr ctx last L deep at_,FQ ai7 (Gz E pr ctx last L deep x at_) (Gz E pr ctx last L deep y at_))∧(∀ E pr ctx outer L deep at_,FQ Um (C0 E pr ctx outer L deep x at_) (C0 E pr ctx outer L deep y at_))
theorem VE {E:eG} {pr:aO} {ctx:Int} {alone:Bool} {L:List Loc} {deep:Int}:∀ (l l':List Nd) (b:Option Int) (at_:Nat),(∀ x∈l,Y0 x)→pJ l l'→FQ tC (lU E pr ctx alone L deep l b at_) (lU E pr ctx alone L deep l' b at_):=by
 intro l;induction l with
 | nil=>intro l' b at_ _ h;cases l' with
  | nil=>simp only [lU];exact jU .nil
  | cons _ _=>simp only [pJ] at h
 | cons x r ih=>intro l' b at_ hx h;cases l' with
  | nil=>simp only [pJ] at h
  | cons y s=>
   simp only [pJ] at h;simp only [lU];rw [(qX h.1).1,Em x y h.1];refine jV (R:=Um) ?_ fun a c hac=>?_
   ·by_cases h6:x.kd=6
    ·rw [if_pos h6,if_pos h6];exact(hx x (List.mem_cons_self ..) y h.1).2 _ _ _ _ _ _ _
    ·rw [if_neg h6,if_neg h6];exact ai6 x y _ _ h.1
   ·rw [hac.lab]
    refine jV (ih s _ _ (fun z hz=>hx z (List.mem_cons_of_mem _ hz)) h.2) fun ka kb h2=>?_
    exact jU (.cons hac h2)
theorem VF {l l':List Nd} (h:pJ l l'):l'.isEmpty=l.isEmpty:=by
 cases l with
 | nil=>cases l' with
  | nil=>rfl
  | cons _ _=>simp only [pJ] at h
 | cons _ _=>cases l' with
  | nil=>simp only [pJ] at h
  | cons _ _=>rfl
theorem Y1 {E:eG} {pr:aO} {ctx:Int} {outer:Bool} {deep:Int}:∀ (l l':List Nd) (L:List Loc) (at_:Nat),(∀ x∈l,Y0 x)→pJ l l'→FQ tC (wR E pr ctx outer L deep l at_) (wR E pr ctx outer L deep l' at_):=by
 intro l;induction l with
 | nil=>intro l' L at_ _ h;cases l' with
  | nil=>simp only [wR];exact jU .nil
  | cons _ _=>simp only [pJ] at h
 | cons x r ih=>intro l' L at_ hx h;cases l' with
  | nil=>simp only [pJ] at h
  | cons y s=>
   simp only [pJ] at h;simp only [wR];rw [Em x y h.1,VF h.2];refine jV ((hx x (List.mem_cons_self ..) y h.1).1 _ _ _ _ _ _ _) fun a c hac=>?_
   rw [hac.2];refine jV (ih s _ _ (fun z hz=>hx z (List.mem_cons_of_mem _ hz)) h.2) fun ka kb h2=>?_
   exact jU (.cons hac.1 h2)
theorem ai8:∀ x,Y0 x:=by
 refine gz fun k t m l ih y h=>?_
 cases y with
 | mk k' t' m' l'=>
  simp only [yA] at h;obtain⟨rfl,rfl,h3,h4⟩:=h;constructor
  ·intro E pr ctx last L deep at_
   simp only [Gz];exact jV (VE l l' none _ ih h4) fun a b hab=>YZ hab h3
  ·intro E pr ctx outer L deep at_
   simp only [C0];exact jV (Y1 l l' L _ ih h4) fun a b hab=>jU ⟨rfl,rfl,rfl,hab.head.lab⟩
end raised
end Go.Proofs.YtpcihajmcejliacGreatDoor
namespace Go.Proofs.YtpcihajmcejliacGreatDoor
open Go.RowKit
namespace raised
theorem fV {l:List Nd} (h:pJ [] l):l=[]:=by
 cases l with
 | nil=>rfl
 | cons _ _=>simp only [pJ] at h
theorem iT {x:Nd} {r l:List Nd} (h:pJ (x::r) l):∃ y s,l=y::s∧yA x y∧pJ r s:=by
 cases l with
 | nil=>simp only [pJ] at h
 | cons y s=>simp only [pJ] at h;exact⟨y,s,rfl,h.1,h.2⟩
theorem jm {x:Nd} {l:List Nd} (h:pJ [x] l):∃ y,l=[y]∧yA x y:=by
 obtain⟨y,s,rfl,h1,h2⟩:=iT h;obtain rfl:=fV h2;exact⟨y,rfl,h1⟩
theorem Au:∀ {a b l:List Nd},pJ (a++b) l→∃ a' b',l=a'++b'∧pJ a a'∧pJ b b':=by
 intro a;induction a with
 | nil=>intro b l h;exact⟨[],l,rfl,by simp only [pJ],h⟩
 | cons x r ih=>
  intro b l h;obtain⟨y,s,rfl,h1,h2⟩:=iT h;obtain⟨a',b',rfl,h3,h4⟩:=ih h2;exact⟨y::a',b',rfl,by simp only [pJ];exact⟨h1,h3⟩,h4⟩
theorem MQ:∀ {l l':List Nd},pJ l l'→∀ y∈l',∃ x∈l,yA x y:=by
 intro l;induction l with
 | nil=>intro l' h y hy;obtain rfl:=fV h;cases hy
 | cons x r ih=>
  intro l' h y hy;obtain⟨z,s,rfl,h1,h2⟩:=iT h;rcases List.mem_cons.1 hy with rfl|hy
  ·exact⟨x,List.mem_cons_self ..,h1⟩
  ·obtain⟨q,hq,h3⟩:=ih h2 y hy
   exact⟨q,List.mem_cons_of_mem _ hq,h3⟩
theorem jZ {x y:Nd} (h:yA x y):y.kd=x.kd:=(qX h).1
theorem CE {P:Int→Prop} {l l':List Nd} (h:pJ l l') (hp:∀ x∈l,P x.kd):∀ y∈l',P y.kd:=fun y hy=>by
 obtain⟨x,hx,hu⟩:=MQ h y hy;rw [jZ hu];exact hp x hx
theorem jl {k m m':Int} (h:MP k m m') (hk:k≠12):m'=m:=by
 rcases h with h|⟨e,-⟩
 ·exact h
 ·exact absurd e hk
theorem VG {k:Int} {t:ByteArray} {m m':Int} {l l':List Nd} (h:Form k t m l) (hm:MP k m m') (hl:pJ l l'):Form k t m' l':=by
 cases h with
 | module ht ha hb=>
  obtain rfl:=jl hm (by decide);obtain⟨a',b',rfl,h1,h2⟩:=Au hl;exact .module ht (CE (P:=fun k=>k=2) h1 ha) (CE (P:=fun k=>k=3∨k=4) h2 hb)
 | imp ht=>obtain rfl:=jl hm (by decide);obtain rfl:=fV hl;exact .imp ht
 | var ht h0 h1=>obtain rfl:=jl hm (by decide);obtain rfl:=fV hl;exact .var ht h0 h1
 | array ht h0 h1 hy=>
  obtain rfl:=jl hm (by decide);obtain⟨y,rfl,hu⟩:=jm hl;exact .array ht h0 h1 (by rw [jZ hu];exact hy)
 | proc ht h0 h1 hp hb=>
  obtain rfl:=jl hm (by decide);obtain⟨a',b',rfl,h2,h3⟩:=Au hl;obtain⟨y,rfl,hu⟩:=jm h3;exact .proc ht h0 h1 (CE (P:=fun k=>k=5) h2 hp) (by rw [jZ hu];exact hb)
 | out h0 h1 hx=>
  obtain⟨y,rfl,hu⟩:=jm hl;refine .out ?_ ?_ (by rw [jZ hu];exact hx)
  ·rcases hm with e|⟨-,-,e⟩<;>omega
  ·rcases hm with e|⟨-,-,e⟩<;>omega
 | param ht h0 h1=>obtain rfl:=jl hm (by decide);obtain rfl:=fV hl;exact .param ht h0 h1
 | block hb=>obtain rfl:=jl hm (by decide);exact .block (CE hl hb)
 | loc ht h0 h1 hx=>
  obtain rfl:=jl hm (by decide);obtain⟨y,rfl,hu⟩:=jm hl;exact .loc ht h0 h1 (by rw [jZ hu];exact hx)
 | set hp hx=>
  obtain rfl:=jl hm (by decide);obtain⟨y,s,rfl,hu,hs⟩:=iT hl;obtain⟨z,rfl,hv⟩:=jm hs;exact .set (by rw [jZ hu];exact hp) (by rw [jZ hv];exact hx)
 | Wy hc=>
  obtain rfl:=jl hm (by decide);obtain⟨y,rfl,hu⟩:=jm hl;exact .Wy (by rw [jZ hu];exact hc)
 | WA hx hb=>
  obtain rfl:=jl hm (by decide);obtain⟨y,s,rfl,hu,hs⟩:=iT hl;obtain⟨z,rfl,hv⟩:=jm hs;exact .WA (by rw [jZ hu];exact hx) (by rw [jZ hv];exact hb)
 | WB hx hb hc=>
  obtain rfl:=jl hm (by decide);obtain⟨y,s,rfl,hu,hs⟩:=iT hl;obtain⟨z,q,rfl,hv,hq⟩:=iT hs;obtain⟨p,rfl,hw⟩:=jm hq;exact .WB (by rw [jZ hu];exact hx) (by rw [jZ hv];exact hb) (by rw [jZ hw];exact hc)
 | uV hx hb=>
  obtain rfl:=jl hm (by decide);obtain⟨y,s,rfl,hu,hs⟩:=iT hl;obtain⟨z,rfl,hv⟩:=jm hs;exact .uV (by rw [jZ hu];exact hx) (by rw [jZ hv];exact hb)
 | inp h0 h1 hx=>
  obtain rfl:=jl hm (by decide);obtain⟨y,rfl,hu⟩:=jm hl;exact .inp h0 h1 (by rw [jZ hu];exact hx)
 | ret hx=>
  obtain rfl:=jl hm (by decide);obtain⟨y,rfl,hu⟩:=jm hl;exact .ret (by rw [jZ hu];exact hx)
 | num h0 h1=>obtain rfl:=jl hm (by decide);obtain rfl:=fV hl;exact .num h0 h1
 | name ht=>obtain rfl:=jl hm (by decide);obtain rfl:=fV hl;exact .name ht
 | call ht hb=>obtain rfl:=jl hm (by decide);exact .call ht (CE hl hb)
 | item ht hx=>
  obtain rfl:=jl hm (by decide);obtain⟨y,rfl,hu⟩:=jm hl;exact .item ht (by rw [jZ hu];exact hx)
 | op h0 h1 hx hy=>
  obtain rfl:=jl hm (by decide);obtain⟨y,s,rfl,hu,hs⟩:=iT hl;obtain⟨z,rfl,hv⟩:=jm hs;exact .op h0 h1 (by rw [jZ hu];exact hx) (by rw [jZ hv];exact hy)
 | neg hx=>
  obtain rfl:=jl hm (by decide);obtain⟨y,rfl,hu⟩:=jm hl;exact .neg (by rw [jZ hu];exact hx)
 | not_ hx=>
  obtain rfl:=jl hm (by decide);obtain⟨y,rfl,hu⟩:=jm hl;exact .not_ (by rw [jZ hu];exact hx)
theorem ai9:∀ x y,yA x y→fC x→fC y:=by
 refine gz fun k t m l ih y h hi=>?_
 cases y with
 | mk k' t' m' l'=>
  simp only [yA] at h;obtain⟨rfl,rfl,h3,h4⟩:=h;refine .mk (VG hi.form h3 h4) fun z hz=>?_
  obtain⟨x,hx,hu⟩:=MQ h4 z hz;exact ih x hx z hu (hi.kids x hx)
theorem FT:∀ {l l':List Nd},pJ l l'→l'.length=l.length:=by
 intro l;induction l with
 | nil=>intro l' h;obtain rfl:=fV h;rfl
 | cons x r ih=>intro l' h;obtain⟨y,s,rfl,-,h2⟩:=iT h;simp [ih h2]
theorem yB {α : Type} {f:Nd→α}:∀ {l l':List Nd},pJ l l'→(∀ x∈l,∀ y,yA x y→f y=f x)→l'.map f=l.map f:=by
 intro l;induction l with
 | nil=>intro l' h _;obtain rfl:=fV h;rfl
 | cons x r ih=>
  intro l' h hf;obtain⟨y,s,rfl,h1,h2⟩:=iT h;rw [List.map_cons,List.map_cons,hf x (List.mem_cons_self ..) y h1,ih h2 fun z hz=>hf z (List.mem_cons_of_mem _ hz)]
theorem CG {p:Int→Bool}:∀ {l l':List Nd},pJ l l'→pJ (l.filter fun x=>p x.kd) (l'.filter fun x=>p x.kd):=by
 intro l;induction l with
 | nil=>intro l' h;obtain rfl:=fV h;simp only [List.filter_nil,pJ]
 | cons x r ih=>
  intro l' h;obtain⟨y,s,rfl,h1,h2⟩:=iT h;rw [List.filter_cons,List.filter_cons,jZ h1];by_cases hp:p x.kd=true
  ·rw [if_pos hp,if_pos hp];simp only [pJ];exact⟨h1,ih h2⟩
  ·rw [if_neg hp,if_neg hp];exact ih h2
theorem MR {x y:Nd} (h:yA x y) (hk:x.kd≠12):y.nm=x.nm:=jl (qX h).2.2.1 hk
theorem CH {x y:Nd} (h:yA x y):y.tx=x.tx:=(qX h).2.1
theorem CJ {ps:List Nd} {b:Nd}:(ps ++ [b]).dropLast=ps:=by simp
theorem Y2 (p:Nat):∀ (l l':List Nd) (j:Nat) (seen:List (List UInt8)),l'.map Nd.key=l.map Nd.key→Du p j seen l'=Du p j seen l:=by
 intro l;induction l with
 | nil=>intro l' j seen h;cases l' with
  | nil=>rfl
  | cons _ _=>simp at h
 | cons x r ih=>intro l' j seen h;cases l' with
  | nil=>simp at h
  | cons y s=>
   simp only [List.map_cons,List.cons.injEq] at h;simp only [Du,h.1,ih s _ _ h.2]
theorem FU {x y:Nd} (hi:fC x) (h:yA x y) (hk:x.kd=2∨x.kd=3∨x.kd=4):(x.kd=3→varOf y=varOf x)∧(x.kd=4→rO y=rO x)∧(∀ p,qN y p=qN x p):=by
 have hn:=MR h (by omega);cases x with
 | mk k t m l=>cases y with
  | mk k' t' m' l'=>
   simp only [yA] at h;obtain⟨rfl,rfl,-,h4⟩:=h;obtain rfl:m'=m:=hn;have hf:=hi.form;replace hk:k'=2∨k'=3∨k'=4:=hk;cases hf with
   | imp ht=>obtain rfl:=fV h4;exact⟨fun _=>rfl,fun _=>rfl,fun _=>rfl⟩
   | var ht h0 h1=>obtain rfl:=fV h4;exact⟨fun _=>rfl,fun _=>rfl,fun _=>rfl⟩
   | @array _ _ y0 ht h0 h1 hy=>
    obtain⟨z,rfl,hu⟩:=jm h4;have hz:=MR hu (by omega);refine⟨fun _=>?_,fun e=>absurd (show (3:Int)=4 from e) (by decide),fun p=>?_⟩
    ·simp only [varOf,Nd.tx,Nd.nm,Nd.kids];exact congrArg _ hz
    ·unfold qN
     rw [if_pos (show (Nd.mk 3 t' m' [z]).kd=3 from rfl),if_pos (show (Nd.mk 3 t' m' [y0]).kd=3 from rfl)];simp only [Nd.kids];rw [hz]
   | @proc _ _ ps b0 ht h0 h1 hp hb=>
    obtain⟨a',b',rfl,h5,h6⟩:=Au h4;obtain⟨z,rfl,hu⟩:=jm h6;have hm1:=yB (f:=Nd.nm) h5 fun q hq r hr=>MR hr (by rw [hp q hq];decide)
    have hm2:=yB (f:=Nd.key) h5 fun q hq r hr=>by unfold Nd.key;rw [CH hr]
    refine⟨fun e=>absurd (show (4:Int)=3 from e) (by decide),fun _=>?_,fun p=>?_⟩
    ·unfold rO
     simp only [Nd.tx,Nd.nm,Nd.kids,CJ];rw [hm1];rfl
    ·unfold qN
     rw [if_neg (show ¬ (Nd.mk 4 t' m' (a' ++ [z])).kd=3 from fun e=>absurd (show (4:Int)=3 from e) (by decide)),if_neg (show ¬ (Nd.mk 4 t' m' (ps ++ [b0])).kd=3 from fun e=>absurd (show (4:Int)=3 from e) (by decide))];simp only [Nd.kids,CJ];rw [FT h5,Y2 p ps a' 0 [] hm2]
   | _=>exact absurd hk (by decide)
def IX (l:List Nd):Prop:=∀ x∈l,fC x∧(x.kd=2∨x.kd=3∨x.kd=4)
theorem IX.tail {x:Nd} {r:List Nd} (h:IX (x::r)):IX r:=fun y hy=>h y (List.mem_cons_of_mem _ hy)
theorem VH {l l':List Nd} (hd:IX l) (h:pJ l l'):iy l'=iy l:=by
 unfold iy isVar;refine yB (CG (p:=fun k=>decide (k=3)) h) fun x hx y hu=>?_
 obtain⟨hx,hk⟩:=List.mem_filter.1 hx;exact(FU (hd x hx).1 hu (hd x hx).2).1 (by simpa using hk)
theorem TD {l l':List Nd} (hd:IX l) (h:pJ l l'):bh l'=bh l:=by
 unfold bh mN;refine yB (CG (p:=fun k=>decide (k=4)) h) fun x hx y hu=>?_
 obtain⟨hx,hk⟩:=List.mem_filter.1 hx;exact(FU (hd x hx).1 hu (hd x hx).2).2.1 (by simpa using hk)
theorem VI (m:ByteArray):∀ (l l':List Nd) (I L:List (List UInt8)) (p:Nat),IX l→pJ l l'→jM m l' I L p=jM m l I L p:=by
 intro l;induction l with
 | nil=>intro l' I L p _ h;obtain rfl:=fV h;rfl
 | cons x r ih=>
  intro l' I L p hd h;obtain⟨y,s,rfl,h1,h2⟩:=iT h;have hk:y.key=x.key:=by unfold Nd.key;rw [CH h1]
  have hx:=hd x (List.mem_cons_self ..);simp only [jM,hk,jZ h1,CH h1,Em x y h1,ih s _ _ _ hd.tail h2,(FU hx.1 h1 hx.2).2.2]
theorem VJ {E:eG} {pr:aO} {x y:Nd} {at_:Nat} (hi:fC x) (hk:x.kd=4) (h:yA x y):FQ (fun _ _=>True) (u_ E pr x at_) (u_ E pr y at_):=by
 cases x with
 | mk k t m l=>cases y with
  | mk k' t' m' l'=>
   simp only [yA] at h;obtain⟨rfl,rfl,-,h4⟩:=h;obtain rfl:k'=4:=hk;cases hi.form with
   | @proc _ _ ps b0 ht h0 h1 hp hb=>
    obtain⟨a',b',rfl,h5,h6⟩:=Au h4;obtain⟨z,rfl,hu⟩:=jm h6;obtain⟨bk,bt,bm,bl⟩:=b0;obtain⟨zk,zt,zm,zl⟩:=z
    have hpl:ve a'=ve ps:=by
     unfold ve;exact yB h5 fun q hq r hr=>by rw [CH hr,MR hr (by rw [hp q hq];decide)]
    have hlast:∀ o:List Nd,∀ o':List Nd,pJ o o'→o'.getLast?.map Nd.kd=o.getLast?.map Nd.kd:=by
     intro o;induction o with
     | nil=>intro o' h;obtain rfl:=fV h;rfl
     | cons q r ih=>
      intro o' h;obtain⟨q',r',rfl,g1,g2⟩:=iT h;cases r with
      | nil=>
       obtain rfl:=fV g2;simp only [List.getLast?_singleton,Option.map_some,jZ g1]
      | cons q2 r2=>
       obtain⟨q3,r3,rfl,-,-⟩:=iT g2;rw [List.getLast?_cons_cons,List.getLast?_cons_cons];exact ih _ g2
    unfold u_;have e1:∀ (u:List Nd) (v:Nd),(u ++ [v]).getLastD kE=v:=fun u v=>by simp
    simp only [Nd.kids,CJ,e1,hpl,FT h5];refine jV ((ai8 (.mk bk bt bm bl) (.mk zk zt zm zl) hu).2 _ _ _ _ _ _ _) fun a b hab=>?_
    have e2:zl.getLast?.map Nd.kd=bl.getLast?.map Nd.kd:=hlast bl zl (qX hu).2.2.2;revert e2
    generalize zl.getLast? = oz;generalize bl.getLast? = ob;intro e2;cases oz with
    | none=>cases ob with
     | none=>exact nP fun _=>jU trivial
     | some _=>cases e2
    | some p=>cases ob with
     | none=>cases e2
     | some q=>
      have e3:p.kd=q.kd:=by simpa using e2
      simp only [e3];exact nP fun _=>jU trivial
theorem Y3 {own:bf} {G:List (ByteArray×bf)}:∀ (l l':List Nd) (K:List (ByteArray×bf)) (ps:List aO) (B B':List (aO×Tr)) (a:Nat),IX l→pJ l l'→FQ (fun _ _=>True) (iR own G l K ps B a) (iR own G l' K ps B' a):=by
 intro l;induction l with
 | nil=>intro l' K ps B B' a _ h;obtain rfl:=fV h;exact jU trivial
 | cons x r ih=>
  intro l' K ps B B' a hd h;obtain⟨y,s,rfl,h1,h2⟩:=iT h;have hx:=hd x (List.mem_cons_self ..);unfold iR;rw [jZ h1,CH h1,Em x y h1,FT (qX h1).2.2.2];by_cases hk:x.kd=2
  ·rw [if_pos hk,if_pos hk]
   cases dH G x.tx with
   | none=>exact wB
   | some f=>exact ih _ _ _ _ _ _ hd.tail h2
  ·rw [if_neg hk,if_neg hk]
   by_cases h3:x.kd=3
   ·rw [if_pos h3,if_pos h3];exact ih _ _ _ _ _ _ hd.tail h2
   ·rw [if_neg h3,if_neg h3]
    cases ps with
    | nil=>exact wB
    | cons p q=>exact jV (VJ hx.1 (by omega) h1) fun _ _ _=>ih _ _ _ _ _ _ hd.tail h2
theorem VK {x:Nd} (hi:fC x) (hk:x.kd=1):IX x.kids:=by
 cases x with
 | mk k t m l=>
  obtain rfl:k=1:=hk;intro y hy;refine⟨hi.kids y hy,?_⟩
  cases hi.form with
  | module ht ha hb=>
   rcases List.mem_append.1 hy with hy|hy
   ·exact .inl (ha y hy)
   ·exact .inr (hb y hy)
def MV {α : Type}:Rz α→Bool
 | .ok _=>true
 | .bad _ _=>false
theorem TE {s s':ByteArray} {x y:Nd} {p p':Int} {l:List bf} (hp:aZ s=(x,0,p)) (hp':aZ s'=(y,0,p')) (hi:fC x) (hk:x.kd=1) (h:yA x y) (hc:MV (eu s l)=true):MV (eu s' l)=true:=by
 have hd:=VK hi hk;have hu:=(qX h).2.2.2
 have hof:(zF s').2.2.1=(zF s).2.2.1:=by
  unfold zF;simp only [hp,hp',VI _ _ _ _ _ _ hd hu,CH h]
  repeat' (first|rfl|split)
 unfold eu at hc ⊢;cases hg:mO l [] with
 | none=>rw [hg] at hc;cases hc
 | some G=>
  rw [hg] at hc;simp only [hof] at hc ⊢;by_cases h0:(zF s).2.2.1=0
  ·rw [if_pos h0] at hc ⊢
   simp only [hp,hp'] at hc ⊢;rw [VH hd hu,TD hd hu,CH h];have hm:=Y3 (own:=⟨x.tx,iy x.kids,bh x.kids⟩) (G:=G) x.kids y.kids [] (bh x.kids) [] [] 1 hd hu;revert hc hm
   cases iR ⟨x.tx,iy x.kids,bh x.kids⟩ G x.kids [] (bh x.kids) [] 1 with
   | bad c p=>intro hc _;cases hc
   | ok r=>
    intro _ hm;obtain⟨r',e,-⟩:=hm r rfl;rw [e];rfl
  ·rw [if_neg h0] at hc;cases hc
end raised
end Go.Proofs.YtpcihajmcejliacGreatDoor
namespace Go.Proofs.YtpcihajmcejliacGreatDoor
open Go.RowKit
namespace raised
open bH
theorem MW (k m n:Int):n-1≤Xp k m n∧Xp k m n≤n:=by
 unfold Xp;split<;>omega
theorem MX {l:List Nd} (h:∀ x∈l,∀ k,k-(dL x:Nat)≤(yN x k).2∧(yN x k).2≤k):∀ k,k-(gm l:Nat)≤(zn l k).2∧(zn l k).2≤k:=by
 induction l with
 | nil=>intro k;simp only [zn,gm];omega
 | cons x r ih=>
  intro k;simp only [zn,gm];have h1:=h x (List.mem_cons_self ..) k;have h2:=ih (fun y hy=>h y (List.mem_cons_of_mem _ hy)) (yN x k).2;omega
theorem KO:∀ x k,k-(dL x:Nat)≤(yN x k).2∧(yN x k).2≤k:=by
 refine gz fun k t m l ih n=>?_
 simp only [yN,dL];have h1:=MW k m n;have h2:=MX ih (Xp k m n);omega
theorem TF {l:List Nd}:∀ (q:Nat) (k:Int) (h:q<l.length),zn (l.take (q+1)) k=((zn (l.take q) k).1 ++ [(yN l[q] (zn (l.take q) k).2).1],(yN l[q] (zn (l.take q) k).2).2):=by
 induction l with
 | nil=>intro q k h;cases h
 | cons x r ih=>
  intro q k h;cases q with
  | zero=>simp only [List.take_succ_cons,List.take_zero,zn,List.getElem_cons_zero,List.nil_append]
  | succ q=>
   have h2:=ih q (yN x k).2 (by simpa using h);simp only [List.take_succ_cons,zn,List.getElem_cons_succ,List.cons_append];rw [h2]
theorem MZ {l:List Nd}:∀ k,(zn l k).1.length=l.length:=by
 induction l with
 | nil=>intro k;rfl
 | cons x r ih=>intro k;simp only [zn,List.length_cons,ih]
theorem VL {l:List Nd}:∀ (q:Nat) (h:q<l.length),gm (l.take q)+dL l[q]≤gm l:=by
 induction l with
 | nil=>intro q h;cases h
 | cons x r ih=>
  intro q h;cases q with
  | zero=>simp only [List.take_zero,gm,List.getElem_cons_zero];omega
  | succ q=>
   have h2:=ih q (by simpa using h);simp only [List.take_succ_cons,gm,List.getElem_cons_succ];omega
theorem Y4:∀ (l:List Nd),l.length≤gm l:=by
 intro l;induction l with
 | nil=>exact Nat.zero_le _
 | cons x r ih=>
  cases x with
  | mk k t m q=>simp only [List.length_cons,gm,dL];omega
def wZ (B:Nat) (w0:World) (row:Value) (acc:List Nd) (x:Nd) (v:Value):List Value→World→Prop
 | [],u=>Ext w0 u∧Grow 4 24 Jk B u row acc∧ij (hide (cg B row) u) x v
 | [s],u=>Ext w0 u∧Grow 4 24 Jk B u row acc∧ij (hide (cg B row) u) x v∧∃ g,s=.slice (some ⟨g,0,none⟩) 1 1∧aJ u g v.cells 24∧row.ownBlock≠some g
 | [_,r],u=>aB (fun i=>row.ownBlock=some i) w0 u∧Grow 4 24 Jk B u r (acc ++ [x])
 | [_,r,s],u=>s=r∧aB (fun i=>row.ownBlock=some i) w0 u∧Grow 4 24 Jk B u r (acc ++ [x])
 | _,_=>False
theorem bG {B:Nat} {u:World} {row:Value} {acc:List Nd} (h:Grow 4 24 Jk B u row acc) {i:Nat} (e:row.ownBlock=some i):B≤i∧i<u.heap.size:=by
 obtain⟨us,_,ho,_⟩:=h.ex;exact World.ownsRow.lt ho i e
theorem wA {B:Nat} {w0:World} {row:Value} {acc:List Nd} {x:Nd} {v:Value} {u:World} (h:wZ B w0 row acc x v [] u) {c:Array Value} (hc:v.cells=c) :
  wZ B w0 row acc x v [.slice (some ⟨u.heap.size,0,none⟩) 1 1] (u.alloc (.cells c 24)):=by
 obtain⟨h1,h2,h3⟩:=h;have hE:=(aB.refl (fun _=>False) u).alloc (.cells c 24);refine⟨h1.ext hE,h2.aU gJ hE (fun _ h=>h.elim),aQ (aN hE fun _ _ h=>h.elim) _ _ h3,_,rfl,by rw [hc];exact aJ.made _ _ _,fun e=>?_⟩
 have:=(bG h2 e).2;omega
theorem KP {B:Nat} {w0:World} {row:Value} {acc:List Nd} {x:Nd} {v s:Value} {u u':World} {us:List Value} (h:wZ B w0 row acc x v [s] u) (hus:us.length=acc.length)
  (hu3:∀ j (h:j<acc.length) (h':j<us.length),Jk acc[j] us[j] (hide (cg B row) u)∧us[j].cells.size=4) {g c:Nat}
  (ho:u'.ownsRow B 24 4 (.slice (some ⟨g,0,none⟩) (acc.length+1) c) (acc.length+1) (us.flatMap (fun u=>u.cells.toList)++v.cells.toList))
  (hg:u.grownBy u' row.ownBlock) (ha:row.ownBlock=some g∨g=u.heap.size) :
  wZ B w0 row acc x v [s,.slice (some ⟨g,0,none⟩) (acc.length+1) c] u':=by
 obtain⟨h1,h2,hx,-⟩:=h;have hC:aB (fun i=>row.ownBlock=some i) u u':=⟨hg.os,hg.tape,hg.output,hg.size,fun i hi hn=>hg.block i hi (by first|exact hn|exact fun e=>hn e.symm)⟩
 refine⟨((aB.refl _ _).ext h1).then hC,Grow.push gJ hus hu3 hx (gY hx) ho hg.size (fun i hi hne=>hC.block i hi hne) (fun i e=>by
  have:g=i:=by simpa [Value.ownBlock] using e
  subst this;rcases ha with ha|ha
  ·exact .inl ha
  ·exact .inr (by omega))⟩
set_option maxRecDepth 100000 in
set_option maxHeartbeats 8000000 in
theorem KQ:∀ (x:Nd) (v:Value) (w:World) (n:Int),ij w x v→dL x≤500→n≤7→-1000≤n-(dL x:Nat)→
  Calls Tryz.prog 38 #[v,.int .i64 n] w fun e w'=>∃ v',e=.returned (.tuple #[v',.int .i64 (yN x n).2])∧ij (hide (below w.heap.size) w') (yN x n).1 v'∧Ext w w':=by
 refine gz fun k t m l ih v w n hx hs hn hlo=>?_
 rw [dY] at hx;obtain⟨a,cc,rfl,hx1,hx2,hx3,LY⟩:=hx;simp only [dL] at hs hlo;simp only [yN];have hkl:=MW k m n;have HK:=Z_ (show Xp k m n=if k=12∧m=0 then n-1 else n from rfl);have E5:=Z_ (show rsM k m n=if k=12∧m=0∧n=0 then 1 else m from rfl);obtain⟨k1,hk1⟩:∃ k1,Xp k m n=k1:=⟨_,rfl⟩;obtain⟨m1,hm1⟩:∃ m1,rsM k m n=m1:=⟨_,rfl⟩;rw [hk1] at hkl HK ⊢;rw [hm1] at E5 ⊢;obtain⟨N,hN⟩:∃ N,l.length=N:=⟨_,rfl⟩;rw [hN] at hx1 ⊢;have hlen:=Y4 l;have HN:=Z_ hN;have HI:=Z_ LY;have HIH:=Z_ ih;have HS:=Z_ (show gm l+1≤500 from hs);have HLO:=Z_ (show -1000≤k1-(gm l:Nat) by omega);have HT:=Z_ hx3;have a6_:k1≤7:=by omega
 have hN5:N≤500:=by omega
 have ay0:wrap64 (n-1)=n-1:=by unfold wrap64;omega
 have hwn:IntKind.i64.wrap (n-1)=n-1:=by rw [IntKind.wrap_i64];omega
 have HB:=Z_ ((aJ.made w #[.int .i64 k,.string t,.int .i64 m,.slice a N cc] 24).alloc (.cells cG 24));have HA:=Z_ (aJ.made2 w (.cells #[.int .i64 k,.string t,.int .i64 m,.slice a N cc] 24) cG 24);have HE:=Z_ (((aB.refl (fun _=>False) w).alloc (.cells #[.int .i64 k,.string t,.int .i64 m,.slice a N cc] 24)).alloc (.cells cG 24));obtain⟨Nb,hNb⟩:∃ Nb,w.heap.size=Nb:=⟨_,rfl⟩;rw [hNb] at HB HA ⊢;have HNb:=Z_ hNb;unfold cG at HA HE HB;clear ih LY hN hs hlo hk1 hm1 hx3 hlen hkl;go_enter Tryz.func38,Tryz.ntmps38
 go_upto_region 1 with (fail)
 try rw [hNb]
 generalize (w.alloc (.cells #[.int .i64 k,.string t,.int .i64 m,.slice a N cc] 24)).alloc (.cells #[.int .i64 0,.string ⟨#[]⟩,.int .i64 0,.slice none 0 0] 24)=u0 at *;have hbc:=HB.out.cell;have hbf:=HB.out.frozen;have hbl:=HB.out.lt;clear hNb;obtain⟨o,ho⟩:∃ o,decide (k=12∧m=0)=o:=⟨_,rfl⟩;go_cut [17] (fun s w'=>s=.bool o∧w'=u0)
 case first=>
  by_cases h12:k=12
  ·by_cases h0:m=0
   ·subst h12 h0
    have ho2:o=true:=by rw [←ho];rfl
    subst ho2;go_wp2_with fail
    go_meet
    exact⟨rfl,rfl⟩
   ·subst h12
    have ho2:o=false:=by rw [←ho,decide_eq_false_iff_not];exact fun h=>h0 h.2
    subst ho2;have hne:(m == 0)=false:=by simpa using h0
    go_wp2_with fail
    go_meet
    exact⟨by first|rfl|rw [hne],rfl⟩
  ·have ho2:o=false:=by rw [←ho,decide_eq_false_iff_not];exact fun h=>h12 h.1
   subst ho2;have hne:(k == 12)=false:=by simpa using h12
   go_wp2_with fail
   go_meet
   exact⟨rfl,rfl⟩
 case rest=>
  obtain⟨rfl,rfl⟩:=hcut;have HO:=Z_ ho;clear ho;go_upto_if 17 with (fail)
  go_cut [1] (fun s w'=>s=.int .i64 k1∧Ext w w'∧aJ w' Nb #[.int .i64 k,.string t,.int .i64 m1,.slice a N cc] 24∧aJ w' (Nb+1) #[.int .i64 0,.string ⟨#[]⟩,.int .i64 0,.slice none 0 0] 24)
  case first=>
   cases o with
   | true=>
    obtain⟨rfl,rfl⟩:=of_decide_eq_true HO.out;have hk9:=HK.out;have G5:=E5.out;rw [if_pos ⟨rfl,rfl⟩] at hk9;by_cases hn0:n=0
    ·subst hn0
     rw [if_pos ⟨rfl,rfl,rfl⟩] at G5;subst hk9 G5;clear HK E5 HO;go_wp2_with fail
     go_meet
     have hE2:=HE.out.bM (p:=⟨Nb,2,none⟩) (by rw [HNb.out];exact Nat.le_refl _) (.int .i64 1);exact⟨by first|rfl|simp,hE2,HB.out.set 2 (.int .i64 1),HA.out.setOther (p:=⟨Nb,2,none⟩) (by show Nb+1≠Nb;omega) _⟩
    ·rw [if_neg (fun h=>hn0 h.2.2)] at G5
     subst hk9 G5;clear HK E5 HO;have hne:(n == 0)=false:=by simpa using hn0
     go_wp2_with fail
     go_meet
     exact⟨by first|rfl|simp,HE.out,HB.out,HA.out⟩
   | false=>
    have h12:=of_decide_eq_false HO.out;have hk9:=HK.out;have G5:=E5.out;rw [if_neg h12] at hk9;rw [if_neg (fun h=>h12 ⟨h.1,h.2.1⟩)] at G5;subst hk9 G5;clear HK E5 HO;go_wp2_with fail
    go_meet
    exact⟨rfl,HE.out,HB.out,HA.out⟩
  case rest=>
   obtain⟨rfl,hE1,hB1,hA1⟩:=hcut;generalize wc=w1 at *;clear hbc hbf hbl HK E5 HO HE HB HA hwn ay0;have J0:=Z_ hE1;have Ul:=Z_ hB1;have Y5:=Z_ hA1;clear hE1 hB1 hA1;go_wp2_with fail
   go_loopw [1,6,7] (fun kk row i wr=>∃ q:Nat,q≤N∧i=.int .i64 q∧kk=.int .i64 (zn (l.take q) k1).2∧Ext w wr∧aJ wr Nb #[.int .i64 k,.string t,.int .i64 m1,.slice a N cc] 24∧aJ wr (Nb+1) #[.int .i64 0,.string ⟨#[]⟩,.int .i64 0,.slice none 0 0] 24∧Grow 4 24 Jk (Nb+2) wr row (zn (l.take q) k1).1) (fun _ _ i _=>N-(intOf i).toNat)
   case atStart=>exact⟨0,Nat.zero_le _,rfl,rfl,J0.out,Ul.out,Y5.out,Grow.nil _ _ _ _ _⟩
   case round=>
    obtain⟨q,hq,rfl,rfl,hE,hB,hA,hG⟩:=hrel;have hbc:=hB.cell;have hbf:=hB.frozen;have hbl:=hB.lt;by_cases hlt:q<N
    ·have kN:q<l.length:=by rw [HN.out];exact hlt
     have hqi:(q:Int)<(N:Int):=by omega
     have tP:=Z_ (TF q k1 kN);have hlo1:=MX (l:=l.take q) (fun x _=>KO x) k1;have hst:=VL q kN;have hlo2:=KO l[q] (zn (l.take q) k1).2;have hln:=MZ (l:=l.take q) k1;rw [List.length_take,Nat.min_eq_left (by omega)] at hln;obtain⟨b,o,rfl,hb,u,hu,hus,hcl⟩:=(HI.out.keeps (Ext.keeps hE) fun b o y=>jd (Ext.keeps hE) b o y) q kN;have VM:=Z_ (HIH.out l[q] (List.getElem_mem kN) u wr (zn (l.take q) k1).2 hu (by have:=HS.out;omega) (by omega) (by have:=HLO.out;omega));obtain⟨k2,t2,m2,a2,l2,c2,rfl⟩:=dF hu;have q0:wr.cell? ⟨b,o+q*4,none⟩=some (.int .i64 k2):=hcl 0 (by decide);have q1:wr.cell? ⟨b,o+q*4+1,none⟩=some (.string t2):=hcl 1 (by decide);have q2:wr.cell? ⟨b,o+q*4+2,none⟩=some (.int .i64 m2):=hcl 2 (by decide);have q3:wr.cell? ⟨b,o+q*4+3,none⟩=some (.slice a2 l2 c2):=hcl 3 (by decide)
     obtain⟨acc,hacc⟩:∃ acc,(zn (l.take q) k1).1=acc:=⟨_,rfl⟩;obtain⟨kq,hkq⟩:∃ kq,(zn (l.take q) k1).2=kq:=⟨_,rfl⟩;rw [hacc] at hG hln tP;rw [hkq] at hlo1 hlo2 VM tP ⊢;obtain⟨y,hy⟩:∃ y,(yN l[q] kq).1=y:=⟨_,rfl⟩;obtain⟨kr,hkr⟩:∃ kr,(yN l[q] kq).2=kr:=⟨_,rfl⟩;rw [hy,hkr] at VM tP;have HE:=Z_ hE;have HB:=Z_ hB;have HA:=Z_ hA;have HG:=Z_ hG;have rF:=Z_ hln;clear hE hB hA hG hcl hu hus hlo1 hst hlo2 hln hacc hkq hy hkr Ul J0 Y5;go_wp2_with fail
     refine VM.out.mono ?_
     rintro e w5 ⟨v5,rfl,hn5,xN⟩;obtain⟨k5,t5,m5,a5,l5,c5,rfl⟩:=dF hn5;have NP:=(aB.refl (fun _=>False) w5).alloc (.cells #[.int .i64 k5,.string t5,.int .i64 m5,.slice a5 l5 c5] 24);have HE5:=Z_ ((HE.out.ext xN).ext NP);have ER:=Z_ ((HB.out.ext xN).ext NP);have HA5:=Z_ ((HA.out.ext xN).ext NP);have Np:=Z_ ((HG.out.aU gJ xN (fun _ h=>h.elim)).aU gJ NP (fun _ h=>h.elim));have CZ:=Z_ (aJ.made w5 #[.int .i64 k5,.string t5,.int .i64 m5,.slice a5 l5 c5] 24)
     have HN5:Hid (ij (hide (cg (Nb+2) u6) (w5.alloc (.cells #[.int .i64 k5,.string t5,.int .i64 m5,.slice a5 l5 c5] 24))) y (.agg #[.int .i64 k5,.string t5,.int .i64 m5,.slice a5 l5 c5])):=by
      refine aQ (aN NP fun _ _ h=>h.elim) _ _ (aQ (bJ (Nat.le_refl _) fun i hi hm=>?_) _ _ hn5)
      simp only [below,cg,decide_eq_false_iff_not,Bool.or_eq_false_iff] at hm ⊢;have h1:=HA.out.lt;refine⟨⟨by omega,fun e=>?_⟩,trivial⟩
      have:=(bG HG.out e).2;omega
     obtain⟨X,hX⟩:∃ X,w5.heap.size=X:=⟨_,rfl⟩;rw [hX] at CZ
     have HRX:=Z_ (fun i (e:u6.ownBlock=some i)=>show i≠X from by
      have h1:=(bG HG.out e).2;have h2:=xN.size;omega)
     clear xN NP hn5 HE HB HA HG VM;go_upto_region 11 with (fail)
     try rw [hX]
     generalize w5.alloc (.cells #[.int .i64 k5,.string t5,.int .i64 m5,.slice a5 l5 c5] 24)=u5 at *;have oO:wZ (Nb+2) u5 u6 acc y (.agg #[.int .i64 k5,.string t5,.int .i64 m5,.slice a5 l5 c5]) [] u5:=⟨aB.refl _ _,Np.out,HN5.out⟩;have hF1:=wA oO (c:=#[.int .i64 k5,.string t5,.int .i64 m5,.slice a5 l5 c5]) rfl;have HNW:=Z_ (aJ.made u5 #[.int .i64 k5,.string t5,.int .i64 m5,.slice a5 l5 c5] 24);have hG6:=hF1.2.1;obtain⟨us,hu1,ho,hu3⟩:=hG6.ex;have Gm:=Z_ hF1;have hlt2:Nb+2≤u5.heap.size:=HA5.out.lt;have hln:=rF.out;have rD:=CZ.out.cell;have HU:=Z_ (And.intro hu1 hu3);obtain⟨U5,hU5⟩:∃ U5,u5.heap.size=U5:=⟨_,rfl⟩;rw [hU5] at Gm HNW hlt2;have HU5:=Z_ hU5;clear oO hF1 hG6 hu1 hu3;obtain⟨mg,mD,hz0,hz1,hz2⟩:=bD gK;go_wp2_with (at_builtin;refine wpList_append_lies _ rfl _ _ 22 rfl (Nb+2) 24 mg (.agg #[.int .i64 0,.string ⟨#[]⟩,.int .i64 0,.slice none 0 0]) 4 56 Tryz.underlying22 mD hz0 hz1 hz2 rfl (by decide) u6 acc.length (us.flatMap fun u=>u.cells.toList) rfl ho ⟨U5,0,none⟩ 1 1 [.int .i64 k5,.string t5,.int .i64 m5,.slice a5 l5 c5] rfl rfl (by intro j_ z_ hj;have e:(⟨U5,0,none⟩:Addr).add j_=⟨U5,j_,none⟩:=(by unfold Addr.add;split<;>simp_all);rw [e,HNW.out.cell];simpa using hj) (by intro q_ hq_;simp only [List.mem_cons,List.not_mem_nil,or_false] at hq_;rcases hq_ with rfl|rfl|rfl|rfl<;>rfl) (by decide) (by unfold maxLen;omega) (by omega) (by simp [hU5];omega) (U5+1) (by simp [hU5]) ?_;intro g9 c9 w9 hown hgrow hat hlt1)
     have rG:=KP Gm.out HU.out.1 HU.out.2 hown hgrow (by rcases hat with h|h;exact .inl h;exact .inr (by rw [h,←HU5.out];simp));obtain⟨jP,hG9⟩:=rG;have Jo:=Z_ (HE5.out.trans jP fun i hi e=>by have h1:=(bG Np.out e).1;have:=HNb.out;omega);have HB9:=Z_ (ER.out.aU jP fun e=>by have h1:=(bG Np.out e).1;omega);have HA9:=Z_ (HA5.out.aU jP fun e=>by have h1:=(bG Np.out e).1;omega);go_roundw
     case rel=>exact⟨q+1,by omega,by go_num,by rw [tP.out],Jo.out,HB9.out,HA9.out,by rw [tP.out,←rF.out];exact hG9⟩
     case measure=>simp [intOf];omega
    ·obtain rfl:q=N:=by omega
     have hnl:¬ ((q:Int)<(q:Int)):=by omega
     have a71:decide ((q:Int)<(q:Int))=false:=by simp
     have htk:l.take q=l:=List.take_of_length_le (by rw [HN.out];exact Nat.le_refl _);rw [htk] at hG ⊢;have hA1:=hA.cell;have hA2:=hA.frozen;have hA3:=hA.lt;have SD:=hG;have hln:=MZ (l:=l) k1;rw [HN.out] at hln;obtain⟨kf,hkf⟩:∃ kf,(zn l k1).2=kf:=⟨_,rfl⟩;obtain⟨lf,hlf⟩:∃ lf,(zn l k1).1=lf:=⟨_,rfl⟩;rw [hkf];rw [hlf] at hG hln;have Jr:=Z_ hkf;have JV:=Z_ hlf;have HE:=Z_ hE;have HB:=Z_ hB;have HA:=Z_ hA;have HG:=Z_ hG;clear hE hB hA hG Ul J0 Y5 hkf hlf SD
     obtain⟨a9,c9,rfl⟩:∃ a c,u6=.slice a q c:=by
      obtain⟨us,_,ho,_⟩:=HG.out.ex;rcases ho.2 with ⟨rfl,h0⟩|⟨g,cap,cur,rfl,_⟩
      ·exact⟨_,_,by rw [←hln,h0]⟩
      ·exact⟨_,_,by rw [hln]⟩
     go_wp2_with fail
     have hC:=(((((aB.refl (fun i=>i=Nb∨i=Nb+1) wr).setCell (p:=⟨Nb,3,none⟩) (fun _=>.inl rfl) (.slice a9 q c9)).setCell (p:=⟨Nb+1,0,none⟩) (fun _=>.inr rfl) (.int .i64 k)).setCell (p:=⟨Nb+1,1,none⟩) (fun _=>.inr rfl) (.string t)).setCell (p:=⟨Nb+1,2,none⟩) (fun _=>.inr rfl) (.int .i64 m1)).setCell (p:=⟨Nb+1,3,none⟩) (fun _=>.inr rfl) (.slice a9 q c9);refine bodyPost_ret (dQ rfl _ _ rfl (((((HA.out.setOther (p:=⟨Nb,3,none⟩) (by show Nb+1≠Nb;omega) (.slice a9 q c9)).set 0 (.int .i64 k)).set 1 (.string t)).set 2 (.int .i64 m1)).set 3 (.slice a9 q c9)) Tryz.underlying24 rfl (by kernel_rfl)) rfl ⟨_,by rw [Jr.out];rfl,?_,HE.out.trans hC fun i hi e=>by have:=HNb.out;omega⟩
     rw [JV.out];exact BI (sN (DZ HG.out HT.out) hC (fun i e=>by omega)) (by omega)
end raised
end Go.Proofs.YtpcihajmcejliacGreatDoor
