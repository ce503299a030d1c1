/- Part of the proofs of this seat's laws: Va. No condition. -/
import Derived.WalkKit
import Derived.Below
import Derived.Deep.Draws
set_option linter.unusedVariables false
set_option linter.unusedSimpArgs false
set_option linter.unusedSectionVars false
namespace Go.Vs
open Go.RowKit
inductive R where
 |v (x:Value)
 |s (k:Nat) (es:List (List R))
 |fn (g:Nat) (bs:List (List R))
inductive D where
 |r (x:R)
 |o (k:Nat) (es:List (List D))
inductive C where
 |r (x:R)
 |n (k:Nat)
 |f (id k lo n:Nat)
 |p (id k i off:Nat)
 |m (id:Nat)
 |un
inductive V where
 |c (x:C)
 |g (cs:List C)
 |u (vs:List V)
 |q (cs:List R)
 |ifc (t:Nat) (x:C)
 |clo (g:Nat) (cs:List C)
inductive Ent where
 |arr (k:Nat) (es:List (List D))
 |foc (k:Nat) (pre:List (List D)) (cs:List C) (post:List (List D))
 |opn (k:Nat) (es:List (List D)) (i:Nat) (cs:List C)
 |mi (l:List Int)
 |ms (l:List ByteArray)
mutual
def aY (w:World) (S:Nat→Prop):R→Value→Prop
 |.v x,y=>y=x∧x.oneCell'=true
 |.s k es,y=>∃(a:Option Addr) (cap:Nat),y=.slice a es.length cap∧es.length≤cap∧cap≤maxLen∧(es≠[]→∃b o,a=some ⟨b,o,none⟩∧S b∧bv w S b k o es)
 |.fn g bs,y=>∃lb:List Value,y=.func (.func g) #[] lb.toArray∧dT w S bs lb
def aJ (w:World) (S:Nat→Prop) (b:Nat):Nat→List R→Prop
 |_,[]=>True
 |o,t::ts=>(∃y,w.cell? ⟨b,o,none⟩=some y∧aY w S t y)∧aJ w S b (o+1) ts
def bv (w:World) (S:Nat→Prop) (b k:Nat):Nat→List (List R)→Prop
 |_,[]=>True
 |o,e::es=>(e.length=k∧aJ w S b o e)∧bv w S b k (o+k) es
def dT (w:World) (S:Nat→Prop):List (List R)→List Value→Prop
 |[],lb=>lb=[]
 |e::es,lb=>∃(b o:Nat) (zs:List Value),lb=.pointer (some ⟨b,o,none⟩)::zs∧(e≠[]→S b)∧aJ w S b o e∧dT w S es zs
end
mutual
def cv (w:World) (S:Nat→Prop):D→Value→List Nat→Prop
 |.r x,y,fp=>fp=[]∧aY w S x y
 |.o k es,y,fp=>∃ty xs fps,w.ownsRow 0 ty k y es.length xs∧an w S k es xs fps∧fp=y.ownBlock.toList++fps
def ak (w:World) (S:Nat→Prop):List D→List Value→List Nat→Prop
 |[],xs,fp=>xs=[]∧fp=[]
 |t::ts,xs,fp=>∃y ys f1 f2,xs=y::ys∧fp=f1++f2∧cv w S t y f1∧ak w S ts ys f2
def an (w:World) (S:Nat→Prop) (k:Nat):List (List D)→List Value→List Nat→Prop
 |[],xs,fp=>xs=[]∧fp=[]
 |e::es,xs,fp=>∃x1 x2 f1 f2,xs=x1++x2∧fp=f1++f2∧(e.length=k∧ak w S e x1 f1)∧an w S k es x2 f2
end
def Hd (h:Value) (b N cap:Nat):Prop:=h=.slice (some ⟨b,0,none⟩) N cap
def av (w:World) (S:Nat→Prop) (φ:Nat→Value):C→Value→Prop
 |.r t,y=>aY w S t y
 |.n _,y=>y=.slice none 0 0
 |.f id k lo n,y=>(lo=0∧n=0∧φ id=.slice none 0 0∧y=.slice none 0 0)∨
  (lo=0∧∃b N cap,Hd (φ id) b N cap∧y=.slice (some ⟨b,0,none⟩) n cap∧n≤cap∧cap≤maxLen)∨
  (0<lo∧∃a c,y=.slice a n c∧n≤c∧c≤maxLen∧(0<n→∃b N cap,Hd (φ id) b N cap∧a=some ⟨b,lo*k,none⟩))
 |.p id k i off,y=>∃b N cap,Hd (φ id) b N cap∧y=.pointer (some ⟨b,i*k+off,none⟩)
 |.m id,y=>y=φ id
 |.un,_=>True
def ar (w:World) (S:Nat→Prop) (φ:Nat→Value):List C→List Value→Prop
 |[],ys=>ys=[]
 |c::cs,ys=>∃z zs,ys=z::zs∧av w S φ c z∧ar w S φ cs zs
mutual
def vRep (w:World) (S:Nat→Prop) (φ:Nat→Value):V→Value→Prop
 |.c x,y=>av w S φ x y
 |.g cs,y=>∃ys,y=.agg ys.toArray∧ar w S φ cs ys
 |.u vs,y=>∃ys,y=.tuple ys.toArray∧aQ w S φ vs ys
 |.q cs,y=>∃b o,y=.pointer (some ⟨b,o,none⟩)∧(cs≠[]→S b)∧aJ w S b o cs
 |.ifc t x,y=>∃z,y=.iface t z∧av w S φ x z
 |.clo g cs,y=>∃zs,y=.func (.func g) #[] zs.toArray∧ar w S φ cs zs
def aQ (w:World) (S:Nat→Prop) (φ:Nat→Value):List V→List Value→Prop
 |[],ys=>ys=[]
 |v::vs,ys=>∃z zs,ys=z::zs∧vRep w S φ v z∧aQ w S φ vs zs
end
def qF (w:World) (S:Nat→Prop) (φ:Nat→Value) (h:Value) (k:Nat) (pr:List (List D)) (cs:List C) (po:List (List D)) (fp:List Nat):Prop:=
 ∃ty x1 xs x2 f1 f2,w.ownsRow 0 ty k h (pr.length+1+po.length) (x1++(xs++x2))∧an w S k pr x1 f1∧(cs.length=k∧ar w S φ cs xs)∧an w S k po x2 f2∧fp=h.ownBlock.toList++(f1++f2)
def entRep (w:World) (S:Nat→Prop) (φ:Nat→Value) (h:Value):Ent→List Nat→Prop
 |.arr k es,fp=>∃ty xs fps,w.ownsRow 0 ty k h es.length xs∧an w S k es xs fps∧fp=h.ownBlock.toList++fps
 |.foc k pr cs po,fp=>∃ty x1 xs x2 f1 f2,w.ownsRow 0 ty k h (pr.length+1+po.length) (x1++(xs++x2))∧an w S k pr x1 f1∧(cs.length=k∧ar w S φ cs xs)∧an w S k po x2 f2∧fp=h.ownBlock.toList++(f1++f2)
 |.opn k es i cs,fp=>i<es.length∧qF w S φ h k (es.take i) cs (es.drop (i+1)) fp
 |.mi l,fp=>∃b es ck,h=.map (some b)∧w.heap[b]?=some (.map es ck)∧es.toList.map (fun e=>(e.key,e.val))=l.map (fun k=>(.int .i64 k,.bool true))∧fp=[b]
 |.ms l,fp=>∃b es ck,h=.map (some b)∧w.heap[b]?=some (.map es ck)∧es.toList.map (fun e=>(e.key,e.val))=l.map (fun k=>(.string k,.bool true))∧fp=[b]
mutual
theorem gf {w w':World} {S S':Nat→Prop} (hS:∀b,S b→S' b) (hw:∀b,S b→w'.heap[b]?=w.heap[b]?):∀(t:R) (y:Value),aY w S t y→aY w' S' t y
 |.v x,y,h=>by simpa [aY] using h
 |.s k es,y,h=>by
  simp only[aY] at h ⊢
  obtain⟨a,cap,h1,h2,h3,h4⟩:=h
  refine⟨a,cap,h1,h2,h3,fun hne=>?_⟩
  obtain⟨b,o,e1,e2,e3⟩:=h4 hne
  exact⟨b,o,e1,hS _ e2,mp hS hw b k o es e2 e3⟩
 |.fn g bs,y,h=>by
  simp only[aY] at h ⊢
  obtain⟨lb,h1,h2⟩:=h
  exact⟨lb,h1,kN hS hw bs lb h2⟩
theorem du {w w':World} {S S':Nat→Prop} (hS:∀b,S b→S' b) (hw:∀b,S b→w'.heap[b]?=w.heap[b]?) (b:Nat):∀(o:Nat) (ts:List R),S b→aJ w S b o ts→aJ w' S' b o ts
 |_,[],_,_=>by simp[aJ]
 |o,t::ts,hb,h=>by
  simp only[aJ] at h ⊢
  obtain⟨⟨y,h1,h2⟩,h3⟩:=h
  refine⟨⟨y,?_,gf hS hw t y h2⟩,du hS hw b (o+1) ts hb h3⟩
  rw[←h1]
  exact World.cell?_of_block (hw b hb)
theorem mp {w w':World} {S S':Nat→Prop} (hS:∀b,S b→S' b) (hw:∀b,S b→w'.heap[b]?=w.heap[b]?) (b k:Nat):∀(o:Nat) (es:List (List R)),S b→bv w S b k o es→bv w' S' b k o es
 |_,[],_,_=>by simp[bv]
 |o,e::es,hb,h=>by
  simp only[bv] at h ⊢
  exact⟨⟨h.1.1,du hS hw b o e hb h.1.2⟩,mp hS hw b k (o+k) es hb h.2⟩
theorem kN {w w':World} {S S':Nat→Prop} (hS:∀b,S b→S' b) (hw:∀b,S b→w'.heap[b]?=w.heap[b]?):∀(bs:List (List R)) (lb:List Value),dT w S bs lb→dT w' S' bs lb
 |[],lb,h=>by simpa [dT] using h
 |e::es,lb,h=>by
  simp only[dT] at h ⊢
  obtain⟨b,o,zs,h1,h2,h3,h4⟩:=h
  refine⟨b,o,zs,h1,fun hne=>hS _ (h2 hne),?_,kN hS hw es zs h4⟩
  match e,h2,h3 with
  |[],_,_=>simp[aJ]
  |r::rs,h2,h3=>exact du hS hw b o (r::rs) (h2 (by simp)) h3
end
theorem fD {w w':World} {ty k:Nat} {h:Value} {n:Nat} {xs:List Value} (hw:∀b,h.ownBlock=some b→w'.heap[b]?=w.heap[b]?) (ho:w.ownsRow 0 ty k h n xs):w'.ownsRow 0 ty k h n xs:=by
 refine⟨ho.1,?_⟩
 rcases ho.2 with hn|⟨g,cap,cur,rfl,hb,hg,rest⟩
 ·exact .inl hn
 ·exact .inr ⟨g,cap,cur,rfl,hb,(hw g (by simp[Value.ownBlock])).trans hg,rest⟩
mutual
theorem jg {w w':World} {S S':Nat→Prop} (hS:∀b,S b→S' b) (hw:∀b,S b→w'.heap[b]?=w.heap[b]?):∀(t:D) (y:Value) (fp:List Nat),(∀b∈fp,w'.heap[b]?=w.heap[b]?)→cv w S t y fp→cv w' S' t y fp
 |.r x,y,fp,hf,h=>by
  simp only[cv] at h ⊢
  exact⟨h.1,gf hS hw x y h.2⟩
 |.o k es,y,fp,hf,h=>by
  simp only[cv] at h ⊢
  obtain⟨ty,xs,fps,h1,h2,h3⟩:=h
  subst h3
  exact⟨ty,xs,fps,fD (fun b hb=>hf b (by simp[hb])) h1,bI hS hw k es xs fps (fun b hb=>hf b (by simp[hb])) h2,rfl⟩
theorem bN {w w':World} {S S':Nat→Prop} (hS:∀b,S b→S' b) (hw:∀b,S b→w'.heap[b]?=w.heap[b]?):∀(ts:List D) (xs:List Value) (fp:List Nat),(∀b∈fp,w'.heap[b]?=w.heap[b]?)→ak w S ts xs fp→ak w' S' ts xs fp
 |[],_,_,_,h=>by simpa [ak] using h
 |t::ts,xs,fp,hf,h=>by
  simp only[ak] at h ⊢
  obtain⟨y,ys,f1,f2,h1,h2,h3,h4⟩:=h
  subst h2
  exact⟨y,ys,f1,f2,h1,rfl,jg hS hw t y f1 (fun b hb=>hf b (by simp[hb])) h3,bN hS hw ts ys f2 (fun b hb=>hf b (by simp[hb])) h4⟩
theorem bI {w w':World} {S S':Nat→Prop} (hS:∀b,S b→S' b) (hw:∀b,S b→w'.heap[b]?=w.heap[b]?) (k:Nat):∀(es:List (List D)) (xs:List Value) (fp:List Nat),(∀b∈fp,w'.heap[b]?=w.heap[b]?)→an w S k es xs fp→an w' S' k es xs fp
 |[],_,_,_,h=>by simpa [an] using h
 |e::es,xs,fp,hf,h=>by
  simp only[an] at h ⊢
  obtain⟨x1,x2,f1,f2,h1,h2,h3,h4⟩:=h
  subst h2
  exact⟨x1,x2,f1,f2,h1,rfl,⟨h3.1,bN hS hw e x1 f1 (fun b hb=>hf b (by simp[hb])) h3.2⟩,bI hS hw k es x2 f2 (fun b hb=>hf b (by simp[hb])) h4⟩
end
def C.inU (U:Nat→Prop):C→Prop
 |.f id _ _ _=>U id
 |.p id _ _ _=>U id
 |.m id=>U id
 |_=>True
def Cs.inU (U:Nat→Prop):List C→Prop
 |[]=>True
 |c::cs=>c.inU U∧Cs.inU U cs
mutual
def V.inU (U:Nat→Prop):V→Prop
 |.c x=>x.inU U
 |.g cs=>Cs.inU U cs
 |.u vs=>V.insU U vs
 |.q _=>True
 |.ifc _ x=>x.inU U
 |.clo _ cs=>Cs.inU U cs
def V.insU (U:Nat→Prop):List V→Prop
 |[]=>True
 |v::vs=>v.inU U∧V.insU U vs
end
def Ent.inU (U:Nat→Prop):Ent→Prop
 |.arr _ _=>True
 |.foc _ _ cs _=>Cs.inU U cs
 |.opn _ _ _ cs=>Cs.inU U cs
 |_=>True
section
variable {w w':World} {S S':Nat→Prop} {φ φ':Nat→Value} {U:Nat→Prop}
theorem jy (hS:∀b,S b→S' b) (hw:∀b,S b→w'.heap[b]?=w.heap[b]?) (hφ:∀id,U id→φ' id=φ id):∀(c:C) (y:Value),c.inU U→av w S φ c y→av w' S' φ' c y
 |.r t,y,_,h=>by simp only[av] at h ⊢;exact gf hS hw t y h
 |.n _,y,_,h=>by simpa [av] using h
 |.f id k lo n,y,hu,h=>by simp only[av,hφ id hu] at h ⊢;exact h
 |.p id k i off,y,hu,h=>by simp only[av,hφ id hu] at h ⊢;exact h
 |.m id,y,hu,h=>by simp only[av,hφ id hu] at h ⊢;exact h
 |.un,_,_,_=>by simp[av]
theorem cB (hS:∀b,S b→S' b) (hw:∀b,S b→w'.heap[b]?=w.heap[b]?) (hφ:∀id,U id→φ' id=φ id):∀(cs:List C) (ys:List Value),Cs.inU U cs→ar w S φ cs ys→ar w' S' φ' cs ys
 |[],_,_,h=>by simpa [ar] using h
 |c::cs,ys,hu,h=>by
  simp only[ar] at h ⊢
  obtain⟨z,zs,h1,h2,h3⟩:=h
  exact⟨z,zs,h1,jy hS hw hφ c z hu.1 h2,cB hS hw hφ cs zs hu.2 h3⟩
mutual
theorem cE (hS:∀b,S b→S' b) (hw:∀b,S b→w'.heap[b]?=w.heap[b]?) (hφ:∀id,U id→φ' id=φ id):∀(v:V) (y:Value),v.inU U→vRep w S φ v y→vRep w' S' φ' v y
 |.c x,y,hu,h=>by simp only[vRep,V.inU] at h hu ⊢;exact jy hS hw hφ x y hu h
 |.g cs,y,hu,h=>by
  simp only[vRep,V.inU] at h hu ⊢
  obtain⟨ys,h1,h2⟩:=h
  exact⟨ys,h1,cB hS hw hφ cs ys hu h2⟩
 |.u vs,y,hu,h=>by
  simp only[vRep,V.inU] at h hu ⊢
  obtain⟨ys,h1,h2⟩:=h
  exact⟨ys,h1,np hS hw hφ vs ys hu h2⟩
 |.q cs,y,_,h=>by
  simp only[vRep] at h ⊢
  obtain⟨b,o,h1,h2,h3⟩:=h
  refine⟨b,o,h1,fun hne=>hS _ (h2 hne),?_⟩
  by_cases hne:cs=[]
  ·subst hne;simp[aJ]
  ·exact du hS hw b o cs (h2 hne) h3
 |.ifc t x,y,hu,h=>by
  simp only[vRep,V.inU] at h hu ⊢
  obtain⟨z,h1,h2⟩:=h
  exact⟨z,h1,jy hS hw hφ x z hu h2⟩
 |.clo g cs,y,hu,h=>by
  simp only[vRep,V.inU] at h hu ⊢
  obtain⟨zs,h1,h2⟩:=h
  exact⟨zs,h1,cB hS hw hφ cs zs hu h2⟩
theorem np (hS:∀b,S b→S' b) (hw:∀b,S b→w'.heap[b]?=w.heap[b]?) (hφ:∀id,U id→φ' id=φ id):∀(vs:List V) (ys:List Value),V.insU U vs→aQ w S φ vs ys→aQ w' S' φ' vs ys
 |[],_,_,h=>by simpa [aQ] using h
 |v::vs,ys,hu,h=>by
  simp only[aQ,V.insU] at h hu ⊢
  obtain⟨z,zs,h1,h2,h3⟩:=h
  exact⟨z,zs,h1,cE hS hw hφ v z hu.1 h2,np hS hw hφ vs zs hu.2 h3⟩
end
theorem ba {h:Value} {b:Nat} {fps:List Nat} (hb:h.ownBlock=some b):b∈h.ownBlock.toList++fps:=by simp[hb]
theorem dq {h:Value} (hS:∀b,S b→S' b) (hw:∀b,S b→w'.heap[b]?=w.heap[b]?) (hφ:∀id,U id→φ' id=φ id):∀(e:Ent) (fp:List Nat),e.inU U→(∀b∈fp,w'.heap[b]?=w.heap[b]?)→entRep w S φ h e fp→entRep w' S' φ' h e fp
 |.arr k es,fp,hu,hf,hh=>by
  obtain⟨ty,xs,fps,h1,h2,rfl⟩:=hh
  exact⟨ty,xs,fps,fD (fun b hb=>hf b (ba hb)) h1,bI hS hw k es xs fps (fun b hb=>hf b (by simp[hb])) h2,rfl⟩
 |.foc k pr cs po,fp,hu,hf,hh=>by
  obtain⟨ty,x1,xs,x2,f1,f2,h1,h2,h3,h4,rfl⟩:=hh
  exact⟨ty,x1,xs,x2,f1,f2,fD (fun b hb=>hf b (ba hb)) h1,bI hS hw k pr x1 f1 (fun b hb=>hf b (by simp[hb])) h2,
   ⟨h3.1,cB hS hw hφ cs xs hu h3.2⟩,bI hS hw k po x2 f2 (fun b hb=>hf b (by simp[hb])) h4,rfl⟩
 |.opn k es i cs,fp,hu,hf,hh=>by
  obtain⟨hi,ty,x1,xs,x2,f1,f2,h1,h2,h3,h4,rfl⟩:=hh
  exact⟨hi,ty,x1,xs,x2,f1,f2,fD (fun b hb=>hf b (ba hb)) h1,bI hS hw k _ x1 f1 (fun b hb=>hf b (by simp[hb])) h2,
   ⟨h3.1,cB hS hw hφ cs xs hu h3.2⟩,bI hS hw k _ x2 f2 (fun b hb=>hf b (by simp[hb])) h4,rfl⟩
 |.mi l,fp,hu,hf,hh=>by
  obtain⟨b,es,ck,h1,h2,h3,rfl⟩:=hh
  exact⟨b,es,ck,h1,(hf b (by simp)).trans h2,h3,rfl⟩
 |.ms l,fp,hu,hf,hh=>by
  obtain⟨b,es,ck,h1,h2,h3,rfl⟩:=hh
  exact⟨b,es,ck,h1,(hf b (by simp)).trans h2,h3,rfl⟩
end
end Go.Vs
namespace Go.Vs
open Go.RowKit
def aB {α:Type} (d:α):List (Nat×α)→Nat→α
 |[],_=>d
 |(k,v)::r,t=>if t=k then v else aB d r t
structure St where
 sl:List (Nat×V)
 tab:List (Nat×Option Ent)
def St.get (st:St) (t:Nat):V:=aB (.c .un) st.sl t
def St.ent (st:St) (id:Nat):Option Ent:=aB none st.tab id
def St.put (st:St) (d:Nat) (v:V):St:={st with sl:=(d,v)::st.sl}
def St.set (st:St) (id:Nat) (e:Ent):St:={st with tab:=(id,some e)::st.tab}
def St.kill (st:St) (id:Nat):St:={st with tab:=(id,none)::st.tab}
theorem zf (st:St) (d t:Nat) (v:V):(st.put d v).get t=if t=d then v else st.get t:=rfl
theorem bq (st:St) (id i:Nat) (e:Ent):(st.set id e).ent i=if i=id then some e else st.ent i:=rfl
theorem wP (st:St) (id t:Nat):(st.kill id).get t=st.get t:=rfl
theorem ax (st:St) (id i:Nat):(st.kill id).ent i=if i=id then none else st.ent i:=rfl
def upd {α:Type} (f:Nat→α) (i:Nat) (x:α):Nat→α:=fun j=>if j=i then x else f j
@[simp] theorem cu {α:Type} (f:Nat→α) (i:Nat) (x:α):upd f i x i=x:=by simp[upd]
theorem bV {α:Type} (f:Nat→α) {i j:Nat} (x:α) (h:j≠i):upd f i x j=f j:=by simp[upd,h]
structure MS where
 bl:List Nat
 pins:List (Nat×Value)
 ro:Nat→Prop
instance:Membership Nat MS:=⟨fun m b=>b∈m.bl⟩
def zZ (pn:List Nat) (M:MS):Prop:=∀p∈M.pins,p.1∈pn
structure SimX (φ:Nat→Value) (S:Nat→Prop) (fp:Nat→List Nat) (M:MS) (w0:World) (U:Nat→Prop) (N:Nat) (st:St) (a:Act) (w:World):Prop where
 defers:a.defers=[]
 size:a.tmps.size=N
 os:w.os=w0.os
 tape:w.tape=w0.tape
 output:w.output=w0.output
 grow:w0.heap.size≤w.heap.size
 old:∀b,b<w0.heap.size→b∉M→w.heap[b]?=w0.heap[b]?
 sIn:∀b,S b→b<w0.heap.size→M.ro b∨b∈M
 sLt:∀b,S b→b<w.heap.size
 ents:∀id e,st.ent id=some e→U id∧e.inU U∧entRep w S φ (φ id) e (fp id)∧(fp id).Nodup∧∀b∈fp id,(w0.heap.size≤b∨b∈M)∧b<w.heap.size∧¬S b
 disj:∀id e id' e',st.ent id=some e→st.ent id'=some e'→id≠id'→∀b∈fp id,b∉fp id'
 slots:∀t,(st.get t).inU U∧(t<N∨st.get t=.c .un)∧vRep w S φ (st.get t) (a.tmps.getD t undef)
 pin:∀p∈M.pins,φ p.1=p.2∧U p.1
def Sim (M:MS) (w0:World) (U:Nat→Prop) (N:Nat) (st:St) (a:Act) (w:World):Prop:=
 ∃φ S fp,SimX φ S fp M w0 U N st a w
section
variable {φ:Nat→Value} {S:Nat→Prop} {fp:Nat→List Nat} {M:MS} {w0:World} {U:Nat→Prop} {N:Nat} {st:St} {a:Act} {w w':World}
theorem f6 {U':Nat→Prop} (h:∀i,U i→U' i):∀(c:C),c.inU U→c.inU U'
 |.r _,_=>trivial
 |.n _,_=>trivial
 |.f _ _ _ _,hh=>h _ hh
 |.p _ _ _ _,hh=>h _ hh
 |.m _,hh=>h _ hh
 |.un,_=>trivial
theorem dv {U':Nat→Prop} (h:∀i,U i→U' i):∀(cs:List C),Cs.inU U cs→Cs.inU U' cs
 |[],_=>trivial
 |c::cs,hh=>⟨f6 h c hh.1,dv h cs hh.2⟩
mutual
theorem ej {U':Nat→Prop} (h:∀i,U i→U' i):∀(v:V),v.inU U→v.inU U'
 |.c x,hh=>by simp only[V.inU] at*;exact f6 h x hh
 |.g cs,hh=>by simp only[V.inU] at*;exact dv h cs hh
 |.u vs,hh=>by simp only[V.inU] at*;exact jR h vs hh
 |.q _,_=>by simp[V.inU]
 |.ifc _ x,hh=>by simp only[V.inU] at*;exact f6 h x hh
 |.clo _ cs,hh=>by simp only[V.inU] at*;exact dv h cs hh
theorem jR {U':Nat→Prop} (h:∀i,U i→U' i):∀(vs:List V),V.insU U vs→V.insU U' vs
 |[],_=>by simp[V.insU]
 |v::vs,hh=>by simp only[V.insU] at*;exact⟨ej h v hh.1,jR h vs hh.2⟩
end
theorem fd {U':Nat→Prop} (h:∀i,U i→U' i):∀(e:Ent),e.inU U→e.inU U'
 |.arr _ _,_=>trivial
 |.foc _ _ cs _,hh=>dv h cs hh
 |.opn _ _ _ cs,hh=>dv h cs hh
 |.mi _,_=>trivial
 |.ms _,_=>trivial
theorem SimX.put (h:SimX φ S fp M w0 U N st a w) {d:Nat} {v:V} {y:Value} (hd:d<N) (hu:v.inU U) (hv:vRep w S φ v y):
 SimX φ S fp M w0 U N (st.put d v) (a.put (some d) y) w:=by
 refine⟨h.defers,by simpa [Act.put] using h.size,h.os,h.tape,h.output,h.grow,h.old,h.sIn,h.sLt,h.ents,h.disj,fun t=>?_,h.pin⟩
 rw[zf]
 by_cases ht:t=d
 ·subst ht
  have:(a.put (some t) y).tmps.getD t undef=y:=by
   simp[Act.put,Array.getD_eq_getD_getElem?,h.size,hd]
  rw[if_pos rfl,this]
  exact⟨hu,.inl hd,hv⟩
 ·have:(a.put (some d) y).tmps.getD t undef=a.tmps.getD t undef:=by
   simp[Act.put,Array.getD_eq_getD_getElem?,Ne.symm ht]
  rw[if_neg ht,this]
  exact h.slots t
theorem SimX.world (h:SimX φ S fp M w0 U N st a w) (ho:w'.os=w.os) (ht:w'.tape=w.tape) (hp:w'.output=w.output) (hs:w.heap.size≤w'.heap.size)
 (hk:∀b,b<w.heap.size→w'.heap[b]?=w.heap[b]?):SimX φ S fp M w0 U N st a w':=by
 have hS:∀b,S b→w'.heap[b]?=w.heap[b]?:=fun b hb=>hk b (h.sLt b hb)
 refine⟨h.defers,h.size,ho.trans h.os,ht.trans h.tape,hp.trans h.output,Nat.le_trans h.grow hs,fun b hb hm=>(hk b (Nat.lt_of_lt_of_le hb h.grow)).trans (h.old b hb hm),h.sIn,fun b hb=>Nat.lt_of_lt_of_le (h.sLt b hb) hs,fun id e he=>?_,h.disj,fun t=>?_,h.pin⟩
 ·obtain⟨h1,h2,h3,h4,h5⟩:=h.ents id e he
  exact⟨h1,h2,dq (U:=U) (fun _ hb=>hb) hS (fun _ _=>rfl) e _ h2 (fun b hb=>hk b (h5 b hb).2.1) h3,h4,fun b hb=>⟨(h5 b hb).1,Nat.lt_of_lt_of_le (h5 b hb).2.1 hs,(h5 b hb).2.2⟩⟩
 ·obtain⟨h1,h2,h3⟩:=h.slots t
  exact⟨h1,h2,cE (U:=U) (fun _ hb=>hb) hS (fun _ _=>rfl) _ _ h1 h3⟩
theorem SimX.new (h:SimX φ S fp M w0 U N st a w) {id:Nat} (hid:¬U id) {e:Ent} {hd:Value} {F:List Nat} {S':Nat→Prop} (ho:w'.os=w.os) (ht:w'.tape=w.tape) (hp:w'.output=w.output) (hs:w.heap.size≤w'.heap.size)
 (hk:∀b,b<w.heap.size→w'.heap[b]?=w.heap[b]?) (hS1:∀b,S b→S' b) (hS2:∀b,S' b→S b∨(w.heap.size≤b∧b<w'.heap.size)) (heU:e.inU U)
 (hent:entRep w' S' (upd φ id hd) hd e F) (hF:F.Nodup) (hF2:∀b∈F,w.heap.size≤b∧b<w'.heap.size∧¬S' b):
 SimX (upd φ id hd) S' (upd fp id F) M w0 (fun i=>U i∨i=id) N (st.set id e) a w':=by
 have hS:∀b,S b→w'.heap[b]?=w.heap[b]?:=fun b hb=>hk b (h.sLt b hb)
 have hφ:∀i,U i→upd φ id hd i=φ i:=fun i hi=>bV _ _ (fun e=>hid (e▸hi))
 refine⟨h.defers,h.size,ho.trans h.os,ht.trans h.tape,hp.trans h.output,Nat.le_trans h.grow hs,fun b hb hm=>(hk b (Nat.lt_of_lt_of_le hb h.grow)).trans (h.old b hb hm),fun b hb hlt=>(hS2 b hb).elim (fun x=>h.sIn b x hlt) (fun x=>absurd hlt (by have:=h.grow;have:=x.1;omega)),fun b hb=>?_,fun i e' he=>?_,fun i e1 i' e2 h1 h2 hne b hb=>?_,fun t=>?_,fun p hp=>⟨(hφ _ (h.pin p hp).2).trans (h.pin p hp).1,.inl (h.pin p hp).2⟩⟩
 ·rcases hS2 b hb with hb|hb
  ·exact Nat.lt_of_lt_of_le (h.sLt b hb) hs
  ·exact hb.2
 ·rw[bq] at he
  by_cases hi:i=id
  ·subst hi
   rw[if_pos rfl] at he
   cases he
   rw[cu,cu]
   exact⟨.inr rfl,fd (fun _=>.inl) e heU,hent,hF,fun b hb=>⟨.inl (Nat.le_trans h.grow (hF2 b hb).1),(hF2 b hb).2.1,(hF2 b hb).2.2⟩⟩
  ·rw[if_neg hi] at he
   obtain⟨h1,h2,h3,h4,h5⟩:=h.ents i e' he
   rw[bV _ _ hi,bV _ _ hi]
   refine⟨.inl h1,fd (fun _=>.inl) e' h2,dq (U:=U) hS1 hS hφ e' _ h2 (fun b hb=>hk b (h5 b hb).2.1) h3,h4,fun b hb=>⟨(h5 b hb).1,Nat.lt_of_lt_of_le (h5 b hb).2.1 hs,fun hb'=>?_⟩⟩
   rcases hS2 b hb' with hb'|hb'
   ·exact(h5 b hb).2.2 hb'
   ·have:=(h5 b hb).2.1;omega
 ·rw[bq] at h1 h2
  by_cases hi:i=id
  ·by_cases hi':i'=id
   ·exact absurd (hi.trans hi'.symm) hne
   ·subst hi
    rw[if_neg hi'] at h2
    rw[cu] at hb
    rw[bV _ _ hi']
    intro hb2
    have:=((h.ents i' e2 h2).2.2.2.2 b hb2).2.1
    have:=(hF2 b hb).1
    omega
  ·rw[if_neg hi] at h1
   rw[bV _ _ hi] at hb
   by_cases hi':i'=id
   ·subst hi'
    rw[cu]
    intro hb2
    have:=((h.ents i e1 h1).2.2.2.2 b hb).2.1
    have:=(hF2 b hb2).1
    omega
   ·rw[if_neg hi'] at h2
    rw[bV _ _ hi']
    exact h.disj i e1 i' e2 h1 h2 hne b hb
 ·obtain⟨h1,h2,h3⟩:=h.slots t
  exact⟨ej (fun _=>.inl) _ h1,h2,cE (U:=U) hS1 hS hφ _ _ h1 h3⟩
theorem SimX.upd (h:SimX φ S fp M w0 U N st a w) {id:Nat} {e e':Ent} (he:st.ent id=some e) {F:List Nat} (ho:w'.os=w.os) (ht:w'.tape=w.tape) (hp:w'.output=w.output) (hs:w.heap.size≤w'.heap.size)
 (hk:∀b,b<w.heap.size→b∉fp id→w'.heap[b]?=w.heap[b]?) (heU:e'.inU U)
 (hent:entRep w' S φ (φ id) e' F) (hF:F.Nodup) (hF2:∀b∈F,b∈fp id∨(w.heap.size≤b∧b<w'.heap.size)):
 SimX φ S (upd fp id F) M w0 U N (st.set id e') a w':=by
 obtain⟨u1,u2,u3,u4,u5⟩:=h.ents id e he
 have hS:∀b,S b→w'.heap[b]?=w.heap[b]?:=fun b hb=>hk b (h.sLt b hb) (fun hm=>(u5 b hm).2.2 hb)
 refine⟨h.defers,h.size,ho.trans h.os,ht.trans h.tape,hp.trans h.output,Nat.le_trans h.grow hs,fun b hb hm=>(hk b (Nat.lt_of_lt_of_le hb h.grow) (fun hx=>(u5 b hx).1.elim (fun q=>absurd hb (by omega)) hm)).trans (h.old b hb hm),h.sIn,fun b hb=>Nat.lt_of_lt_of_le (h.sLt b hb) hs,fun i e'' he''=>?_,fun i e1 i' e2 h1 h2 hne b hb=>?_,fun t=>?_,h.pin⟩
 ·rw[bq] at he''
  by_cases hi:i=id
  ·subst hi
   rw[if_pos rfl] at he''
   cases he''
   rw[cu]
   refine⟨u1,heU,hent,hF,fun b hb=>?_⟩
   rcases hF2 b hb with hb|hb
   ·exact⟨(u5 b hb).1,Nat.lt_of_lt_of_le (u5 b hb).2.1 hs,(u5 b hb).2.2⟩
   ·exact⟨.inl (Nat.le_trans h.grow hb.1),hb.2,fun hb'=>by have:=h.sLt b hb';omega⟩
  ·rw[if_neg hi] at he''
   obtain⟨h1,h2,h3,h4,h5⟩:=h.ents i e'' he''
   rw[bV _ _ hi]
   exact⟨h1,h2,dq (U:=U) (fun _ hb=>hb) hS (fun _ _=>rfl) e'' _ h2 (fun b hb=>hk b (h5 b hb).2.1 (h.disj i e'' id e he'' he hi b hb)) h3,h4,fun b hb=>⟨(h5 b hb).1,Nat.lt_of_lt_of_le (h5 b hb).2.1 hs,(h5 b hb).2.2⟩⟩
 ·rw[bq] at h1 h2
  by_cases hi:i=id
  ·by_cases hi':i'=id
   ·exact absurd (hi.trans hi'.symm) hne
   ·subst hi
    rw[if_neg hi'] at h2
    rw[cu] at hb
    rw[bV _ _ hi']
    intro hb2
    rcases hF2 b hb with hb|hb
    ·exact h.disj i e i' e2 he h2 hne b hb hb2
    ·have:=((h.ents i' e2 h2).2.2.2.2 b hb2).2.1
     omega
  ·rw[if_neg hi] at h1
   rw[bV _ _ hi] at hb
   by_cases hi':i'=id
   ·subst hi'
    rw[cu]
    intro hb2
    rcases hF2 b hb2 with hb2|hb2
    ·exact h.disj i e1 i' e h1 he hne b hb hb2
    ·have:=((h.ents i e1 h1).2.2.2.2 b hb).2.1
     omega
   ·rw[if_neg hi'] at h2
    rw[bV _ _ hi']
    exact h.disj i e1 i' e2 h1 h2 hne b hb
 ·obtain⟨h1,h2,h3⟩:=h.slots t
  exact⟨h1,h2,cE (U:=U) (fun _ hb=>hb) hS (fun _ _=>rfl) _ _ h1 h3⟩
theorem SimX.kill (h:SimX φ S fp M w0 U N st a w) (id:Nat):SimX φ S fp M w0 U N (st.kill id) a w:=by
 refine⟨h.defers,h.size,h.os,h.tape,h.output,h.grow,h.old,h.sIn,h.sLt,fun i e he=>?_,fun i e i' e' he he'=>?_,h.slots,h.pin⟩
 ·rw[ax] at he
  by_cases hi:i=id
  ·rw[if_pos hi] at he;cases he
  ·rw[if_neg hi] at he;exact h.ents i e he
 ·rw[ax] at he he'
  by_cases hi:i=id
  ·rw[if_pos hi] at he;cases he
  ·rw[if_neg hi] at he
   by_cases hi':i'=id
   ·rw[if_pos hi'] at he';cases he'
   ·rw[if_neg hi'] at he';exact h.disj i e i' e' he he'
end
end Go.Vs
namespace Go.Vs
open Go.RowKit
inductive O where
 |t (n:Nat)
 |k (v:V)
def oU:Value→Value→Bool
 |.bool a,.bool b=>a==b
 |.int k a,.int k' b=>k==k'&&a==b
 |.string a,.string b=>a.data.toList==b.data.toList
 |_,_=>false
theorem pc {a b:Value} (h:oU a b=true):a=b∧a.oneCell'=true:=by
 cases a<;>cases b<;>simp[oU,Value.oneCell'] at h ⊢
 ·exact h
 ·exact h
 ·exact ByteArray.ext h
def zC:Value→C→Bool
 |.slice none 0 0,.n _=>true
 |v,.r (.v x)=>oU v x
 |_,.un=>true
 |_,_=>false
def il:List Value→List C→Bool
 |[],[]=>true
 |v::vs,c::cs=>zC v c&&il vs cs
 |_,_=>false
def Ac:Value→V→Bool
 |.agg xs,.g cs=>il xs.toList cs
 |v,.c c=>zC v c
 |_,_=>false
def aI:Operand→O→Bool
 |.tmp n,.t m=>n==m
 |.const v,.k u=>Ac v u
 |_,_=>false
def St.ev (st:St):O→V
 |.t n=>st.get n
 |.k v=>v
section
variable {φ:Nat→Value} {S:Nat→Prop} {fp:Nat→List Nat} {M:MS} {w0:World} {U:Nat→Prop} {N:Nat} {st:St} {a:Act} {w w':World} {P:Program}
theorem qm:∀{v:Value} {c:C},zC v c=true→av w S φ c v∧c.inU U:=by
 intro v c h
 unfold zC at h
 split at h
 ·exact⟨rfl,trivial⟩
 ·obtain⟨h1,h2⟩:=pc h
  subst h1
  exact⟨⟨rfl,h2⟩,trivial⟩
 ·exact⟨trivial,trivial⟩
 ·cases h
theorem fQ:∀(vs:List Value) (cs:List C),il vs cs=true→ar w S φ cs vs∧Cs.inU U cs
 |[],[],_=>⟨rfl,trivial⟩
 |v::vs,c::cs,h=>by
  simp only[il,Bool.and_eq_true] at h
  obtain⟨h1,h2⟩:=qm (w:=w) (S:=S) (φ:=φ) (U:=U) h.1
  obtain⟨h3,h4⟩:=fQ vs cs h.2
  exact⟨⟨v,vs,rfl,h1,h3⟩,h2,h4⟩
 |[],_::_,h=>by simp[il] at h
 |_::_,[],h=>by simp[il] at h
theorem uQ {v:Value} {u:V} (h:Ac v u=true):vRep w S φ u v∧u.inU U:=by
 unfold Ac at h
 split at h
 ·rename_i xs cs
  obtain⟨h1,h2⟩:=fQ (w:=w) (S:=S) (φ:=φ) (U:=U) _ _ h
  exact⟨by simp only[vRep];exact⟨xs.toList,by simp,h1⟩,by simpa [V.inU] using h2⟩
 ·obtain⟨h1,h2⟩:=qm (w:=w) (S:=S) (φ:=φ) (U:=U) h
  exact⟨by simpa [vRep] using h1,by simpa [V.inU] using h2⟩
 ·cases h
theorem SimX.ev (h:SimX φ S fp M w0 U N st a w) {x:Operand} {ox:O} (hx:aI x ox=true):vRep w S φ (st.ev ox) (a.eval x)∧(st.ev ox).inU U:=by
 unfold aI at hx
 split at hx
 ·rename_i n m
  obtain rfl:n=m:=by simpa using hx
  exact⟨(h.slots n).2.2,(h.slots n).1⟩
 ·exact uQ hx
 ·cases hx
theorem SimX.mono (h:SimX φ S fp M w0 U N st a w) {U':Nat→Prop} (hU:∀i,U i→U' i):SimX φ S fp M w0 U' N st a w:=
 {h with
  ents:=fun id e he=>let⟨h1,h2,h3⟩:=h.ents id e he;⟨hU _ h1,fd hU e h2,h3⟩
  slots:=fun t=>let⟨h1,h2⟩:=h.slots t;⟨ej hU _ h1,h2⟩
  pin:=fun p hp=>⟨(h.pin p hp).1,hU _ (h.pin p hp).2⟩}
def iy (U:Nat→Prop) (nid:Nat):Nat→Prop:=fun i=>U i∨(nid≤i∧i<nid+16)
def Out (P:Program) (o:Oper) (M:MS) (w0:World) (U:Nat→Prop) (N nid:Nat) (st':St) (v:V) (a:Act) (w:World):Prop:=
 ∃y w' φ' S' fp',((execOp a.eval o).run P w=.ok (.value y) w'∨((execOp a.eval o).run P w=.ok .skip w'∧y=undef))∧
  SimX φ' S' fp' M w0 (iy U nid) N st' a w'∧v.inU (iy U nid)∧vRep w' S' φ' v y
theorem Out.pure {o:Oper} {nid:Nat} {v:V} {y:Value} (h:SimX φ S fp M w0 U N st a w) (hr:(execOp a.eval o).run P w=.ok (.value y) w) (hu:v.inU U) (hv:vRep w S φ v y):Out P o M w0 U N nid st v a w:=
 ⟨y,w,φ,S,fp,.inl hr,h.mono (fun _=>.inl),ej (fun _=>.inl) _ hu,hv⟩
theorem aC:∀(cs:List C) (ys:List Value),ar w S φ cs ys→ys.length=cs.length
 |[],ys,h=>by simp[ar] at h;simp[h]
 |c::cs,ys,h=>by
  obtain⟨z,zs,rfl,_,h3⟩:=h
  simp[aC cs zs h3]
theorem lx:∀(cs:List C) (ys:List Value),ar w S φ cs ys→∀(j:Nat) (c:C),cs[j]?=some c→∃y,ys[j]?=some y∧av w S φ c y
 |[],_,_,j,c,hj=>by simp at hj
 |c0::cs,ys,h,j,c,hj=>by
  obtain⟨z,zs,rfl,h2,h3⟩:=h
  cases j with
  |zero=>simp at hj;subst hj;exact⟨z,rfl,h2⟩
  |succ j=>simp at hj;simpa using lx cs zs h3 j c hj
theorem Cs.inU_get {U:Nat→Prop}:∀{cs:List C},Cs.inU U cs→∀c∈cs,c.inU U
 |[],_,c,hc=>by cases hc
 |c0::cs,h,c,hc=>by
  rcases List.mem_cons.1 hc with rfl|hc
  ·exact h.1
  ·exact Cs.inU_get h.2 c hc
theorem Cs.inU_of {U:Nat→Prop}:∀{cs:List C},(∀c∈cs,c.inU U)→Cs.inU U cs
 |[],_=>trivial
 |c::cs,h=>⟨h c (by simp),Cs.inU_of fun c' hc=>h c' (by simp[hc])⟩
theorem aG:∀(ts:List D) (xs:List Value) (F:List Nat),ak w S ts xs F→xs.length=ts.length
 |[],xs,F,h=>by simp[ak] at h;simp[h.1]
 |t::ts,xs,F,h=>by
  simp only[ak] at h
  obtain⟨y,ys,f1,f2,rfl,_,_,h4⟩:=h
  simp[aG ts ys f2 h4]
theorem bn:∀{k:Nat} (es:List (List D)) (xs:List Value) (F:List Nat),an w S k es xs F→xs.length=es.length*k
 |_,[],xs,F,h=>by simp[an] at h;simp[h.1]
 |k,e::es,xs,F,h=>by
  simp only[an] at h
  obtain⟨x1,x2,f1,f2,rfl,_,h3,h4⟩:=h
  rw[List.length_append,aG e x1 f1 h3.2,h3.1,bn es x2 f2 h4,List.length_cons,Nat.succ_mul,Nat.add_comm]
theorem p5:∀{k:Nat} (es:List (List D)) (xs:List Value) (F:List Nat),an w S k es xs F→∀(i:Nat) (e:List D),es[i]?=some e→e.length=k∧∃ys F',ak w S e ys F'∧(∀b∈F',b∈F)∧∀j u,ys[j]?=some u→xs[i*k+j]?=some u
 |_,[],_,_,_,i,e,hi=>by simp at hi
 |k,e0::es,xs,F,h,i,e,hi=>by
  simp only[an] at h
  obtain⟨x1,x2,f1,f2,rfl,rfl,h3,h4⟩:=h
  have hl:=aG e0 x1 f1 h3.2
  cases i with
  |zero=>
   simp at hi
   subst hi
   refine⟨h3.1,x1,f1,h3.2,fun b hb=>by simp[hb],fun j u hj=>?_⟩
   have hlt:j<x1.length:=(List.getElem?_eq_some_iff.1 hj).1
   rw[Nat.zero_mul,Nat.zero_add,List.getElem?_append_left hlt]
   exact hj
  |succ i=>
   obtain⟨h5,ys,F',h6,h7,h8⟩:=p5 es x2 f2 h4 i e (by simpa using hi)
   refine⟨h5,ys,F',h6,fun b hb=>by simp[h7 b hb],fun j u hj=>?_⟩
   rw[List.getElem?_append_right (by rw[hl,h3.1,Nat.succ_mul];omega)]
   rw[hl,h3.1,show(i+1)*k+j-k=i*k+j from by rw[Nat.succ_mul];omega]
   exact h8 j u hj
theorem oX:∀(o:Nat) (b k:Nat) (es:List (List R)),bv w S b k o es→∀(i:Nat) (e:List R),es[i]?=some e→e.length=k∧aJ w S b (o+i*k) e
 |_,_,_,[],_,i,e,hi=>by simp at hi
 |o,b,k,e0::es,h,i,e,hi=>by
  simp only[bv] at h
  cases i with
  |zero=>simp at hi;subst hi;simpa using h.1
  |succ i=>
   have:=oX (o+k) b k es h.2 i e (by simpa using hi)
   rw[Nat.add_assoc,←Nat.succ_mul_eq_add_mul_aux k i] at this
   exact this
 where Nat.succ_mul_eq_add_mul_aux (k i:Nat):(i+1)*k=k+i*k:=by rw[Nat.succ_mul,Nat.add_comm]
theorem e7 {ty k n:Nat} {h:Value} {xs:List Value} (ho:w.ownsRow 0 ty k h n xs) {b N' cap:Nat} (hh:Hd h b N' cap) {j:Nat} {u:Value} (hj:xs[j]?=some u):w.cell? ⟨b,j,none⟩=some u:=by
 have:=ho.cells (g:=b) (by rw[hh];rfl) j u hj
 rwa [Addr.add_lit,Nat.zero_add] at this
end
end Go.Vs
namespace Go.Vs
open Go.RowKit
def df (P:Program) (t:TypeId):Option Bool:=
 match P.underlying t with
 |some (.struct _)=>some true
 |some (.array _ _)=>some true
 |some _=>some false
 |none=>none
def szT (P:Program) (t:TypeId):Option Nat:=(P.info? t).map (·.size)
section
variable {P:Program} {w:World}
theorem eJ {t:TypeId} {b:Bool} (h:df P t=some b):(isAgg t).run P w=.ok b w:=by
 unfold df at h
 cases hu:P.underlying t with
 |none=>simp[hu] at h
 |some d=>
  simp only[hu] at h
  unfold isAgg
  simp only[Sem.run_bind,run_underlying hu,Result.andThen_ok]
  cases d<;>simp_all
theorem dp {t:TypeId} {k:Nat} (h:szT P t=some k):(sizeOf t).run P w=.ok k w:=by
 unfold szT at h
 cases hi:P.info? t with
 |none=>simp[hi] at h
 |some i=>simp[hi] at h;subst h;simp[sizeOf,typeInfo,hi]
theorem nV {t:TypeId} {ad:Addr} {ys:List Value} (h1:df P t=some true) (h2:szT P t=some ys.length) (hc:∀j u,ys[j]?=some u→w.cell? (ad.add j)=some u):
 (Instr.loadAt t (.pointer (some ad))).run P w=.ok (.agg ys.toArray) w:=by
 simp[Instr.loadAt,Instr.sureAddr,loadVar,eJ h1,dp h2,run_loadCells_list (P:=P) w ad ys hc]
theorem oL {t:TypeId} {ad:Addr} {y:Value} (h1:df P t=some false) (hc:w.cell? ad=some y):
 (Instr.loadAt t (.pointer (some ad))).run P w=.ok y w:=by
 simp[Instr.loadAt,Instr.sureAddr,loadVar,eJ h1,hc]
end
def oJ:List D→Option (List C)
 |[]=>some []
 |.r x::ds=>(oJ ds).map (.r x:: ·)
 |.o _ _::_=>none
def Ent.k:Ent→Nat
 |.arr k _=>k
 |.foc k _ _ _=>k
 |.opn k _ _ _=>k
 |_=>0
def Ent.takeC:Ent→Nat→Nat→Nat→Option (List C)
 |.foc _ pr cs _,i,off,k=>if i=pr.length∧off+k≤cs.length then some ((cs.drop off).take k) else none
 |.arr _ es,i,off,k=>match es[i]? with
  |some e=>if off+k≤e.length then oJ ((e.drop off).take k) else none
  |none=>none
 |.opn _ _ i0 cs,i,off,k=>if i=i0∧off+k≤cs.length then some ((cs.drop off).take k) else none
 |_,_,_,_=>none
def mkV (agg:Bool) (cs:List C):Option V:=if agg then some (.g cs) else match cs with|[c]=>some (.c c)|_=>none
def jP (agg:Bool) (k:Nat) (pv:V) (st:St):Option V:=
 match pv with
 |.c (.p id kk i off)=>match st.ent id with
  |some e=>if e.k=kk then(e.takeC i off k).bind (mkV agg) else none
  |none=>none
 |.q cs=>if k≤cs.length then mkV agg ((cs.take k).map C.r) else none
 |_=>none
section
variable {φ:Nat→Value} {S:Nat→Prop} {fp:Nat→List Nat} {M:MS} {w0:World} {U:Nat→Prop} {N:Nat} {st:St} {a:Act} {w w':World} {P:Program}
theorem oM:∀(ds:List D) (cs:List C) (xs:List Value) (F:List Nat),oJ ds=some cs→ak w S ds xs F→ar w S φ cs xs∧Cs.inU U cs
 |[],cs,xs,F,h,hd=>by
  simp[oJ] at h
  simp[ak] at hd
  subst h
  rw[hd.1]
  exact⟨rfl,trivial⟩
 |.r x::ds,cs,xs,F,h,hd=>by
  simp only[oJ,Option.map_eq_some_iff] at h
  obtain⟨cs',h1,rfl⟩:=h
  simp only[ak] at hd
  obtain⟨y,ys,f1,f2,rfl,rfl,h3,h4⟩:=hd
  simp only[cv] at h3
  obtain⟨h5,h6⟩:=oM ds cs' ys f2 h1 h4
  exact⟨⟨y,ys,rfl,h3.2,h5⟩,trivial,h6⟩
 |.o _ _::ds,cs,xs,F,h,hd=>by simp[oJ] at h
theorem mI:∀(n:Nat) (ts:List D) (xs:List Value) (F:List Nat),ak w S ts xs F→∃F',ak w S (ts.take n) (xs.take n) F'∧∀b∈F',b∈F
 |0,ts,xs,F,h=>⟨[],by simp[ak],by simp⟩
 |n+1,[],xs,F,h=>by simp[ak] at h;exact⟨[],by simp[ak,h.1],by simp⟩
 |n+1,t::ts,xs,F,h=>by
  simp only[ak] at h
  obtain⟨y,ys,f1,f2,rfl,rfl,h3,h4⟩:=h
  obtain⟨F',h5,h6⟩:=mI n ts ys f2 h4
  refine⟨f1++F',?_,fun b hb=>?_⟩
  ·simp only[List.take_succ_cons,ak]
   exact⟨y,ys.take n,f1,F',rfl,rfl,h3,h5⟩
  ·rcases List.mem_append.1 hb with hb|hb
   ·simp[hb]
   ·simp[h6 b hb]
theorem md:∀(n:Nat) (ts:List D) (xs:List Value) (F:List Nat),ak w S ts xs F→∃F',ak w S (ts.drop n) (xs.drop n) F'∧∀b∈F',b∈F
 |0,ts,xs,F,h=>⟨F,by simpa using h,by simp⟩
 |n+1,[],xs,F,h=>by simp[ak] at h;exact⟨[],by simp[ak,h.1],by simp⟩
 |n+1,t::ts,xs,F,h=>by
  simp only[ak] at h
  obtain⟨y,ys,f1,f2,rfl,rfl,h3,h4⟩:=h
  obtain⟨F',h5,h6⟩:=md n ts ys f2 h4
  exact⟨F',by simpa using h5,fun b hb=>by simp[h6 b hb]⟩
theorem hP:∀(n:Nat) (cs:List C) (ys:List Value),ar w S φ cs ys→ar w S φ (cs.take n) (ys.take n)
 |0,_,_,_=>by simp[ar]
 |n+1,[],ys,h=>by simp[ar] at h;simp[ar,h]
 |n+1,c::cs,ys,h=>by
  obtain⟨z,zs,rfl,h2,h3⟩:=h
  exact⟨z,zs.take n,by simp,h2,hP n cs zs h3⟩
theorem gY:∀(n:Nat) (cs:List C) (ys:List Value),ar w S φ cs ys→ar w S φ (cs.drop n) (ys.drop n)
 |0,_,_,h=>by simpa using h
 |n+1,[],ys,h=>by simp[ar] at h;simp[ar,h]
 |n+1,c::cs,ys,h=>by
  obtain⟨z,zs,rfl,h2,h3⟩:=h
  simpa using gY n cs zs h3
theorem rF {U:Nat→Prop} {cs:List C} (n:Nat) (h:Cs.inU U cs):Cs.inU U (cs.take n):=Cs.inU_of fun c hc=>Cs.inU_get h c (List.mem_of_mem_take hc)
theorem sS {U:Nat→Prop} {cs:List C} (n:Nat) (h:Cs.inU U cs):Cs.inU U (cs.drop n):=Cs.inU_of fun c hc=>Cs.inU_get h c (List.mem_of_mem_drop hc)
theorem pT {U:Nat→Prop} (cs:List R):Cs.inU U (cs.map C.r):=Cs.inU_of fun c hc=>by
 obtain⟨x,_,rfl⟩:=List.mem_map.1 hc
 trivial
theorem p7 {h:Value} {F:List Nat} {kk:Nat} {pr po:List (List D)} {cs0:List C} (he:qF w S φ h kk pr cs0 po F) (hu:Cs.inU U cs0) {b N' cap:Nat} (hh:Hd h b N' cap) {off k:Nat} (hle:off+k≤cs0.length):
 ∃ys:List Value,ys.length=k∧((cs0.drop off).take k).length=k∧ar w S φ ((cs0.drop off).take k) ys∧Cs.inU U ((cs0.drop off).take k)∧∀j u,ys[j]?=some u→w.cell? ⟨b,pr.length*kk+off+j,none⟩=some u:=by
 obtain⟨ty,x1,xs,x2,f1,f2,h1,h2,h3,h4,rfl⟩:=he
 have hl:=aC _ _ h3.2
 have hcr:=hP k _ _ (gY off _ _ h3.2)
 refine⟨(xs.drop off).take k,?_,?_,hcr,rF _ (sS _ hu),fun j u hj=>?_⟩
 ·simp[List.length_take,List.length_drop,hl];omega
 ·simp[List.length_take,List.length_drop];omega
 ·rw[List.getElem?_take] at hj
  split at hj
  ·rw[List.getElem?_drop] at hj
   refine e7 h1 hh ?_
   have hx1:=bn _ _ _ h2
   have hlt:off+j<xs.length:=(List.getElem?_eq_some_iff.1 hj).1
   rw[List.getElem?_append_right (by omega),List.getElem?_append_left (by omega)]
   rw[←hj]
   congr 1
   omega
  ·cases hj
theorem tB {e:Ent} {h:Value} {F:List Nat} (he:entRep w S φ h e F) (hu:e.inU U) {b N' cap:Nat} (hh:Hd h b N' cap) {i off k:Nat} {cs:List C} (ht:e.takeC i off k=some cs):
 ∃ys:List Value,ys.length=k∧cs.length=k∧ar w S φ cs ys∧Cs.inU U cs∧∀j u,ys[j]?=some u→w.cell? ⟨b,i*e.k+off+j,none⟩=some u:=by
 cases e with
 |mi l=>simp[Ent.takeC] at ht
 |ms l=>simp[Ent.takeC] at ht
 |foc kk pr cs0 po=>
  simp only[Ent.takeC] at ht
  split at ht
  ·rename_i hc
   obtain⟨rfl,hle⟩:=hc
   cases ht
   obtain⟨ys,a1,a2,a3,a4,a5⟩:=p7 (U:=U) he hu hh hle
   exact⟨ys,a1,a2,a3,a4,a5⟩
  ·cases ht
 |opn kk es i0 cs0=>
  simp only[Ent.takeC] at ht
  split at ht
  ·rename_i hc
   obtain⟨rfl,hle⟩:=hc
   cases ht
   obtain⟨hi,he⟩:=he
   obtain⟨ys,a1,a2,a3,a4,a5⟩:=p7 (U:=U) he hu hh hle
   rw[List.length_take,Nat.min_eq_left (Nat.le_of_lt hi)] at a5
   exact⟨ys,a1,a2,a3,a4,a5⟩
  ·cases ht
 |arr kk es=>
  obtain⟨ty,xs,fps,h1,h2,rfl⟩:=he
  simp only[Ent.takeC] at ht
  split at ht
  ·rename_i e hi
   split at ht
   ·rename_i hle
    obtain⟨hk,ys,F',h3,h4,h5⟩:=p5 es xs fps h2 i e hi
    have hl:=aG _ _ _ h3
    obtain⟨F1,h6,_⟩:=md off _ _ _ h3
    obtain⟨F2,h7,_⟩:=mI k _ _ _ h6
    obtain⟨h8,h9⟩:=oM (φ:=φ) (U:=U) _ _ _ _ ht h7
    have hcl:=aC _ _ h8
    have hyl:((ys.drop off).take k).length=k:=by simp[List.length_take,List.length_drop,hl];omega
    refine⟨(ys.drop off).take k,hyl,by omega,h8,h9,fun j u hj=>?_⟩
    rw[List.getElem?_take] at hj
    split at hj
    ·rw[List.getElem?_drop] at hj
     refine e7 h1 hh ?_
     rw[Nat.add_assoc]
     exact h5 _ _ hj
    ·cases hj
   ·cases ht
  ·cases ht
theorem rv {agg:Bool} {cs:List C} {v:V} (h:mkV agg cs=some v) {ys:List Value} (hr:ar w S φ cs ys) (hu:Cs.inU U cs):
 (agg=true∧v=.g cs∧v.inU U∧vRep w S φ v (.agg ys.toArray))∨(agg=false∧∃y,ys=[y]∧v.inU U∧vRep w S φ v y):=by
 unfold mkV at h
 split at h
 ·rename_i ha
  cases h
  exact .inl ⟨ha,rfl,by simpa [V.inU] using hu,by simp only[vRep];exact⟨ys,rfl,hr⟩⟩
 ·rename_i ha
  refine .inr ⟨by simpa using ha,?_⟩
  split at h
  ·rename_i c
   cases h
   obtain⟨z,zs,rfl,h2,h3⟩:=hr
   simp only[ar] at h3
   subst h3
   exact⟨z,rfl,by simpa [V.inU] using hu.1,by simpa [vRep] using h2⟩
  ·cases h
theorem kU {b:Nat}:∀(k of:Nat) (cs:List R),k≤cs.length→aJ w S b of cs→
 ∃ys:List Value,ys.length=k∧ar w S φ ((cs.take k).map C.r) ys∧∀j u,ys[j]?=some u→w.cell? ⟨b,of+j,none⟩=some u
 |0,of,cs,_,_=>⟨[],rfl,by simp[ar],by simp⟩
 |k+1,of,[],hle,_=>by simp at hle
 |k+1,of,c::cs,hle,hro=>by
  simp only[aJ] at hro
  obtain⟨⟨y,hy1,hy2⟩,hro'⟩:=hro
  obtain⟨ys,e1,e2,e3⟩:=kU k (of+1) cs (by simpa using hle) hro'
  refine⟨y::ys,by simp[e1],⟨y,ys,rfl,hy2,e2⟩,fun j u hj=>?_⟩
  cases j with
  |zero=>simp at hj;subst hj;simpa using hy1
  |succ j=>rw[show of+(j+1)=of+1+j from by omega];exact e3 j u (by simpa using hj)
theorem ug {t:TypeId} {p:Operand} {op:O} {agg:Bool} {k:Nat} {v:V} (hp:aI p op=true) (h1:df P t=some agg) (h2:agg=true→szT P t=some k) (h3:agg=false→k=1)
 (h:SimX φ S fp M w0 U N st a w) (he:jP agg k (st.ev op) st=some v):∃ad y,a.eval p=.pointer (some ad)∧(Instr.loadAt t (.pointer (some ad))).run P w=.ok y w∧v.inU U∧vRep w S φ v y:=by
 obtain⟨hv,hu⟩:=h.ev hp
 have main:∀(b of:Nat) (cs:List C) (ys:List Value),a.eval p=.pointer (some ⟨b,of,none⟩)→ys.length=k→ar w S φ cs ys→Cs.inU U cs→mkV agg cs=some v→
  (∀j u,ys[j]?=some u→w.cell? ⟨b,of+j,none⟩=some u)→∃ad y,a.eval p=.pointer (some ad)∧(Instr.loadAt t (.pointer (some ad))).run P w=.ok y w∧v.inU U∧vRep w S φ v y:=by
  intro b of cs ys hpv hyl hr hcu hmk hcell
  rcases rv hmk hr hcu with⟨ha,_,hvu,hvr⟩|⟨ha,y,rfl,hvu,hvr⟩
  ·subst ha
   exact⟨_,_,hpv,nV h1 (by rw[h2 rfl,hyl]) (fun j u hj=>by rw[Addr.add_lit];exact hcell j u hj),hvu,hvr⟩
  ·subst ha
   exact⟨_,_,hpv,oL h1 (by simpa using hcell 0 y rfl),hvu,hvr⟩
 unfold jP at he
 split at he
 ·rename_i id kk i off hev
  rw[hev] at hv hu
  simp only[vRep,av] at hv
  obtain⟨b,N',cap,hh,hpv⟩:=hv
  split at he
  ·rename_i e hent
   split at he
   ·rename_i hk
    rw[Option.bind_eq_some_iff] at he
    obtain⟨cs,ht,hmk⟩:=he
    obtain⟨_,heu,her,_,_⟩:=h.ents id e hent
    obtain⟨ys,hyl,_,hr,hcu,hcell⟩:=tB (U:=U) her heu hh ht
    exact main b (i*kk+off) cs ys hpv hyl hr hcu hmk (fun j u hj=>by rw[←hk];exact hcell j u hj)
   ·cases he
  ·cases he
 ·rename_i cs hev
  rw[hev] at hv hu
  simp only[vRep] at hv
  obtain⟨b,of,hpv,hSb,hro⟩:=hv
  split at he
  ·rename_i hle
   have hys:=kU (φ:=φ) k of cs hle hro
   obtain⟨ys,hyl,hr,hcell⟩:=hys
   exact main b of _ ys hpv hyl hr (pT _) he hcell
  ·cases he
 ·cases he
theorem xH {o:Oper} {t:TypeId} {p:Operand} {op:O} {agg:Bool} {k nid:Nat} {v:V} (ho:o.op=.load t p) (hp:aI p op=true) (h1:df P t=some agg) (h2:agg=true→szT P t=some k) (h3:agg=false→k=1)
 (h:SimX φ S fp M w0 U N st a w) (he:jP agg k (st.ev op) st=some v):Out P o M w0 U N nid st v a w:=by
 obtain⟨ad,y,hpv,hr,hu,hv⟩:=ug hp h1 h2 h3 h he
 refine Out.pure h ?_ hu hv
 simp only[execOp,ho,hpv]
 rw[Sem.run_bind,hr]
 rfl
end
end Go.Vs
namespace Go.Vs
open Go.RowKit
inductive Kd where
 |i|b|s
 deriving DecidableEq
abbrev V.v (x:Value):V:=.c (.r (.v x))
abbrev V.b (x:Bool):V:=.c (.r (.v (.bool x)))
abbrev V.i (x:Int):V:=.c (.r (.v (.int .i64 x)))
def qp (op:BinOp) (k:IntKind) (a b:Int):Option Value:=
 match op with
 |.add=>some (.int k (k.wrap (a+b)))
 |.sub=>some (.int k (k.wrap (a-b)))
 |.mul=>some (.int k (k.wrap (a*b)))
 |.quo=>if b=0 then none else some (.int k (k.wrap (a.tdiv b)))
 |.rem=>if b=0 then none else some (.int k (a.tmod b))
 |.and=>some (.int k (k.wrap (BitVec.ofInt k.bits a&&& BitVec.ofInt k.bits b).toNat))
 |.or=>some (.int k (k.wrap (BitVec.ofInt k.bits a|||BitVec.ofInt k.bits b).toNat))
 |.xor=>some (.int k (k.wrap (BitVec.ofInt k.bits a^^^BitVec.ofInt k.bits b).toNat))
 |.eql=>some (.bool (a==b))
 |.neq=>some (.bool (a != b))
 |.lss=>some (.bool (decide (a<b)))
 |.leq=>some (.bool (decide (a≤b)))
 |.gtr=>some (.bool (decide (a>b)))
 |.geq=>some (.bool (decide (a≥b)))
 |_=>none
def qP (op:BinOp) (a b:ByteArray):Option Value:=
 match op with
 |.add=>if((a.size+b.size:Nat):Int)>IntKind.i64.max then none else some (.string (a++b))
 |.eql=>some (.bool (a.toList==b.toList))
 |.neq=>some (.bool !(a.toList==b.toList))
 |.lss=>some (.bool (Op.bytesLess a.toList b.toList))
 |.leq=>some (.bool (Op.bytesLess a.toList b.toList||a.toList==b.toList))
 |.gtr=>some (.bool !(Op.bytesLess a.toList b.toList||a.toList==b.toList))
 |.geq=>some (.bool !(Op.bytesLess a.toList b.toList))
 |_=>none
def ng:BinOp→Bool
 |.shl=>true
 |.shr=>true
 |_=>false
def jI (op:BinOp) (kd:Kd) (a b:V):Option V:=
 match kd,a,b with
 |.i,.c (.r (.v (.int k x))),.c (.r (.v (.int k' y)))=>
  if op=.shl then(if y<0 then none else some (.c (.r (.v (.int k (k.wrap (x*2^(min y.toNat k.bits))))))))
  else if op=.shr then(if y<0 then none else some (.c (.r (.v (.int k (x.fdiv (2^(min y.toNat k.bits))))))))
  else if k=k' then(qp op k x y).map V.v else none
 |.s,.c (.r (.v (.string x))),.c (.r (.v (.string y)))=>(qP op x y).map V.v
 |.b,.c (.r (.v (.bool x))),.c (.r (.v (.bool y)))=>if op=.eql then some (V.b (x==y)) else if op=.neq then some (V.b (!(x==y))) else none
 |_,_,_=>none
theorem bh {w:World} {S:Nat→Prop} {φ:Nat→Value} {x y:Value} (h:vRep w S φ (.c (.r (.v x))) y):y=x∧x.oneCell'=true:=by simpa [vRep,av,aY] using h
theorem dB {w:World} {S:Nat→Prop} {φ:Nat→Value} {x:Value} (h:x.oneCell'=true):vRep w S φ (V.v x) x:=by simp[vRep,av,aY,h]
theorem fS {U:Nat→Prop} {x:R}:(V.c (.r x)).inU U:=by simp[V.inU,C.inU]
section
variable {φ:Nat→Value} {S:Nat→Prop} {fp:Nat→List Nat} {M:MS} {w0:World} {U:Nat→Prop} {N:Nat} {st:St} {a:Act} {w w':World} {P:Program}
theorem sW {op:BinOp} {t:TypeId} {k:IntKind} {x y:Int} {v:Value} (hs:ng op=false) (h:qp op k x y=some v):(binOp op t (.int k x) (.int k y)).run P w=.ok v w∧v.oneCell'=true:=by
 cases op<;>simp[qp,ng] at h hs<;>first
  |(subst h;exact⟨by simp[binOp,Op.intArith,Op.intCmp,Op.intBits],rfl⟩)
  |(obtain⟨h1,rfl⟩:=h;exact⟨by simp[binOp,Op.intDiv,h1],rfl⟩)
theorem s6 {op:BinOp} {t:TypeId} {x y:ByteArray} {v:Value} (h:qP op x y=some v):(binOp op t (.string x) (.string y)).run P w=.ok v w∧v.oneCell'=true:=by
 cases op<;>simp[qP] at h<;>first
  |(subst h;exact⟨by simp[binOp,Op.stringOp],rfl⟩)
  |(obtain⟨h1,rfl⟩:=h
    refine⟨?_,rfl⟩
    simp[binOp,Op.stringOp]
    exact h1)
theorem sN {t:TypeId} {x y:Bool} (h:P.underlying t=some .bool):(binOp .eql t (.bool x) (.bool y)).run P w=.ok (.bool (x==y)) w:=by
 have e:binOp .eql t (.bool x) (.bool y)=(do pure (.bool (←Op.equalIn (9999+1) t (.bool x) (.bool y)))):=rfl
 rw[e,Sem.run_bind,run_equalIn_bool' w 9999 t x y h]
 rfl
theorem sy {t:TypeId} {x y:Bool} (h:P.underlying t=some .bool):(binOp .neq t (.bool x) (.bool y)).run P w=.ok (.bool (!(x==y))) w:=by
 have e:binOp .neq t (.bool x) (.bool y)=(do pure (.bool (!(←Op.equalIn (9999+1) t (.bool x) (.bool y))))):=rfl
 rw[e,Sem.run_bind,run_equalIn_bool' w 9999 t x y h]
 rfl
theorem nq {op:BinOp} {t:TypeId} {x y:Operand} {u v:Value} (h:∀cs,u≠.agg cs) (h2:u≠.nilIface):(eqGuard op t x y u v).run P w=.ok () w:=by
 unfold eqGuard
 cases u<;>first|exact absurd rfl (h _)|exact absurd rfl h2|(simp only[Sem.run_ite];split<;>rfl)
theorem wh {o:Oper} {op:BinOp} {kd:Kd} {t yt:TypeId} {x y:Operand} {ox oy:O} {nid:Nat} {v:V} (ho:o.op=.binOp op t x y yt) (hx:aI x ox=true) (hy:aI y oy=true)
 (hb:kd=.b→P.underlying t=some .bool) (h:SimX φ S fp M w0 U N st a w) (he:jI op kd (st.ev ox) (st.ev oy)=some v):Out P o M w0 U N nid st v a w:=by
 obtain⟨hvx,_⟩:=h.ev hx
 obtain⟨hvy,_⟩:=h.ev hy
 have fin:∀(u:Value) (z1 z2:Value),a.eval x=z1→a.eval y=z2→(∀cs,z1≠.agg cs)→z1≠.nilIface→(binOp op t z1 z2).run P w=.ok u w→u.oneCell'=true→v=V.v u→Out P o M w0 U N nid st v a w:=by
  intro u z1 z2 e1 e2 h1 h2 hr h1c hv
  subst hv
  refine Out.pure h ?_ fS (dB h1c)
  simp only[execOp,ho,e1,e2]
  rw[Sem.run_bind,Sem.run_bind,nq h1 h2]
  simp[hr]
 unfold jI at he
 split at he
 ·rename_i k xx k' yy e1 e2
  rw[e1] at hvx;rw[e2] at hvy
  have ex:=(bh hvx).1
  have ey:=(bh hvy).1
  split at he
  ·rename_i hsh
   subst hsh
   split at he
   ·cases he
   ·rename_i hlt
    cases he
    exact fin _ _ _ ex ey (by simp) (by simp) (by simp[binOp,Op.shift,hlt]) rfl rfl
  ·rename_i hn1
   split at he
   ·rename_i hsh
    subst hsh
    split at he
    ·cases he
    ·rename_i hlt
     cases he
     exact fin _ _ _ ex ey (by simp) (by simp) (by simp[binOp,Op.shift,hlt]) rfl rfl
   ·rename_i hn2
    split at he
    ·rename_i hk
     subst hk
     simp only[Option.map_eq_some_iff] at he
     obtain⟨u,hu,rfl⟩:=he
     have hs:ng op=false:=by cases op<;>simp_all [ng]
     obtain⟨hr,h1c⟩:=sW (P:=P) (w:=w) (t:=t) hs hu
     exact fin _ _ _ ex ey (by simp) (by simp) hr h1c rfl
    ·cases he
 ·rename_i xx yy e1 e2
  rw[e1] at hvx;rw[e2] at hvy
  simp only[Option.map_eq_some_iff] at he
  obtain⟨u,hu,rfl⟩:=he
  obtain⟨hr,h1c⟩:=s6 (P:=P) (w:=w) (t:=t) hu
  exact fin _ _ _ (bh hvx).1 (bh hvy).1 (by simp) (by simp) hr h1c rfl
 ·rename_i xx yy e1 e2
  rw[e1] at hvx;rw[e2] at hvy
  have hbt:=hb rfl
  split at he
  ·rename_i hop
   subst hop
   cases he
   exact fin _ _ _ (bh hvx).1 (bh hvy).1 (by simp) (by simp) (sN hbt) rfl rfl
  ·split at he
   ·rename_i hop
    subst hop
    cases he
    exact fin _ _ _ (bh hvx).1 (bh hvy).1 (by simp) (by simp) (sy hbt) rfl rfl
   ·cases he
 ·cases he
theorem sg {o:Oper} {x:Operand} {ox:O} {nid:Nat} (ho:o.op=.move x∨o.op=.assign x) (hx:aI x ox=true) (h:SimX φ S fp M w0 U N st a w):Out P o M w0 U N nid st (st.ev ox) a w:=by
 obtain⟨hv,hu⟩:=h.ev hx
 refine Out.pure h ?_ hu hv
 rcases ho with ho|ho<;>simp[execOp,ho]
def t6:V→Option V
 |.c (.r (.v (.bool b)))=>some (V.b (!b))
 |_=>none
theorem wc {o:Oper} {t:TypeId} {x:Operand} {ox:O} {nid:Nat} {v:V} (ho:o.op=.unOp .not t x) (hx:aI x ox=true) (h:SimX φ S fp M w0 U N st a w) (he:t6 (st.ev ox)=some v):Out P o M w0 U N nid st v a w:=by
 obtain⟨hv,_⟩:=h.ev hx
 unfold t6 at he
 split at he
 ·rename_i b e1
  rw[e1] at hv
  cases he
  refine Out.pure h ?_ fS (dB rfl)
  simp[execOp,ho,(bh hv).1,Op.unary]
 ·cases he
def sI:V→Option V
 |.c (.r (.v (.int k n)))=>some (.c (.r (.v (.int k (k.wrap (0-n))))))
 |_=>none
theorem u0 {o:Oper} {t:TypeId} {x:Operand} {ox:O} {nid:Nat} {v:V} (ho:o.op=.unOp .neg t x) (hx:aI x ox=true) (h:SimX φ S fp M w0 U N st a w) (he:sI (st.ev ox)=some v):Out P o M w0 U N nid st v a w:=by
 obtain⟨hv,_⟩:=h.ev hx
 unfold sI at he
 split at he
 ·rename_i k n e1
  rw[e1] at hv
  cases he
  refine Out.pure h ?_ fS (dB rfl)
  simp[execOp,ho,(bh hv).1,Op.unary,Op.intArith]
 ·cases he
def qu:V→V→V→Option V
 |.c (.r (.v (.bool b))),x,y=>some (if b then x else y)
 |_,_,_=>none
theorem tJ {o:Oper} {c x y:Operand} {oc ox oy:O} {nid:Nat} {v:V} (ho:o.op=.pick c x y) (hc:aI c oc=true) (hx:aI x ox=true) (hy:aI y oy=true) (h:SimX φ S fp M w0 U N st a w) (he:qu (st.ev oc) (st.ev ox) (st.ev oy)=some v):Out P o M w0 U N nid st v a w:=by
 obtain⟨hv,_⟩:=h.ev hc
 obtain⟨hvx,hux⟩:=h.ev hx
 obtain⟨hvy,huy⟩:=h.ev hy
 unfold qu at he
 split at he
 ·rename_i b e1
  rw[e1] at hv
  cases he
  have hcv:=(bh hv).1
  cases b
  ·exact Out.pure (y:=a.eval y) h (by simp[execOp,ho,hcv,asBool]) (by simpa using huy) (by simpa using hvy)
  ·exact Out.pure (y:=a.eval x) h (by simp[execOp,ho,hcv,asBool]) (by simpa using hux) (by simpa using hvx)
 ·cases he
def qJ:V→Option V
 |.c (.p id k i off)=>some (.c (.p id k i off))
 |.q cs=>some (.q cs)
 |_=>none
theorem tO {o:Oper} {x:Operand} {ox:O} {nid:Nat} {v:V} (ho:o.op=.nilCheck x) (hx:aI x ox=true) (h:SimX φ S fp M w0 U N st a w) (he:qJ (st.ev ox)=some v):Out P o M w0 U N nid st v a w:=by
 obtain⟨hv,hu⟩:=h.ev hx
 unfold qJ at he
 split at he
 ·rename_i id k i off e1
  cases he
  rw[e1] at hv hu
  have hv':=hv
  simp only[vRep,av] at hv'
  obtain⟨b,N',cap,_,hpv⟩:=hv'
  refine Out.pure h ?_ hu hv
  simp[execOp,ho,hpv]
 ·rename_i cs e1
  cases he
  rw[e1] at hv hu
  have hv':=hv
  simp only[vRep] at hv'
  obtain⟨b,of,hpv,_⟩:=hv'
  refine Out.pure h ?_ hu hv
  simp[execOp,ho,hpv]
 ·cases he
def uw (i:Nat):V→Option V
 |.u vs=>vs[i]?
 |_=>none
theorem p8:∀(vs:List V) (ys:List Value),aQ w S φ vs ys→∀(i:Nat) (v:V),vs[i]?=some v→∃y,ys[i]?=some y∧vRep w S φ v y
 |[],_,_,i,v,hi=>by simp at hi
 |v0::vs,ys,h,i,v,hi=>by
  simp only[aQ] at h
  obtain⟨z,zs,rfl,h2,h3⟩:=h
  cases i with
  |zero=>simp at hi;subst hi;exact⟨z,rfl,h2⟩
  |succ i=>simpa using p8 vs zs h3 i v (by simpa using hi)
theorem qg {U:Nat→Prop}:∀(vs:List V),V.insU U vs→∀(i:Nat) (v:V),vs[i]?=some v→v.inU U
 |[],_,i,v,hi=>by simp at hi
 |v0::vs,h,i,v,hi=>by
  simp only[V.insU] at h
  cases i with
  |zero=>simp at hi;subst hi;exact h.1
  |succ i=>exact qg vs h.2 i v (by simpa using hi)
theorem wl {o:Oper} {x:Operand} {ox:O} {i nid:Nat} {v:V} (ho:o.op=.extract x i) (hx:aI x ox=true) (h:SimX φ S fp M w0 U N st a w) (he:uw i (st.ev ox)=some v):Out P o M w0 U N nid st v a w:=by
 obtain⟨hv,hu⟩:=h.ev hx
 unfold uw at he
 split at he
 ·rename_i vs e1
  rw[e1] at hv hu
  simp only[vRep,V.inU] at hv hu
  obtain⟨ys,hpv,hr⟩:=hv
  obtain⟨y,hy,hvy⟩:=p8 vs ys hr i v he
  refine Out.pure h ?_ (qg vs hu i v he) hvy
  simp[execOp,ho,hpv,Instr.extract,hy]
 ·cases he
theorem kC:∀(n o b:Nat) (cs:List R),aJ w S b o cs→aJ w S b (o+n) (cs.drop n)
 |0,_,_,_,h=>by simpa using h
 |n+1,_,_,[],_=>by simp[aJ]
 |n+1,o,b,c::cs,h=>by
  simp only[aJ] at h
  have:=kC n (o+1) b cs h.2
  rwa [show o+1+n=o+(n+1) from by omega] at this
def zo (off:Nat):V→Option V
 |.c (.p id k i o)=>some (.c (.p id k i (o+off)))
 |.q cs=>some (.q (cs.drop off))
 |_=>none
def oY (P:Program) (s:TypeId) (fld:Nat):Option Nat:=
 match P.underlying s with
 |some (.struct fs)=>match fs[fld]? with
  |some f=>match szT P f.type with
   |some 0=>none
   |some _=>some f.offset
   |none=>none
  |none=>none
 |_=>none
theorem yL {o:Oper} {s:TypeId} {x:Operand} {ox:O} {fld off nid:Nat} {v:V} (ho:o.op=.fieldAddr s x fld) (hx:aI x ox=true) (hf:oY P s fld=some off) (h:SimX φ S fp M w0 U N st a w) (he:zo off (st.ev ox)=some v):Out P o M w0 U N nid st v a w:=by
 obtain⟨hv,hu⟩:=h.ev hx
 have hrun:∀b of,a.eval x=.pointer (some ⟨b,of,none⟩)→(execOp a.eval o).run P w=.ok (.value (.pointer (some ⟨b,of+off,none⟩))) w:=by
  intro b of hpv
  unfold oY at hf
  split at hf
  ·rename_i fs hus
   split at hf
   ·rename_i f hff
    split at hf
    ·cases hf
    ·rename_i n hn hsz
     cases hf
     simp[execOp,ho,hpv,Instr.fieldAt,run_underlying hus,hff,Instr.sureAddr,fieldPlace,dp hsz,Addr.add_lit]
     intro h0
     exact absurd h0 (by intro h0;subst h0;simp_all)
    ·cases hf
   ·cases hf
  ·cases hf
 unfold zo at he
 split at he
 ·rename_i id k i off' e1
  cases he
  rw[e1] at hv hu
  simp only[vRep,av,V.inU,C.inU] at hv hu
  obtain⟨b,N',cap,hh,hpv⟩:=hv
  refine Out.pure h (hrun _ _ hpv) (by simpa [V.inU,C.inU] using hu) ?_
  simp only[vRep,av]
  exact⟨b,N',cap,hh,by rw[Nat.add_assoc]⟩
 ·rename_i cs e1
  cases he
  rw[e1] at hv hu
  simp only[vRep] at hv
  obtain⟨b,of,hpv,hSb,hro⟩:=hv
  refine Out.pure h (hrun _ _ hpv) (by simp[V.inU]) ?_
  simp only[vRep]
  exact⟨b,of+off,rfl,fun hne=>hSb (fun e=>by subst e;simp at hne),kC off of b cs hro⟩
 ·cases he
def th (k:Nat):V→V→Option V
 |.c (.f id k' lo n),.c (.r (.v (.int _ j)))=>if k'=k∧0≤j∧j<n then some (.c (.p id k (lo+j.toNat) 0)) else none
 |.c (.r (.s k' es)),.c (.r (.v (.int _ j)))=>if k'=k∧0≤j then(es[j.toNat]?).map V.q else none
 |_,_=>none
def ec (P:Program) (t:TypeId):Option TypeId:=match P.underlying t with|some (.slice e)=>some e|_=>none
theorem mJ {t e:TypeId} {k:Nat} (ht:ec P t=some e) (hk:szT P e=some k) {ad:Addr} {n c:Nat} {kd:IntKind} {j:Int} (h0:0≤j) (h1:j<n):
 (Instr.indexAt t (.slice (some ad) n c) (.int kd j)).run P w=.ok (.pointer (some (ad.add (j.toNat*k)))) w:=by
 unfold ec at ht
 split at ht
 ·rename_i e' hu
  cases ht
  simp[Instr.indexAt,asIntOf,run_underlying hu,h0,h1,dp hk]
 ·cases ht
theorem xu {o:Oper} {t e:TypeId} {x i:Operand} {ox oi:O} {k nid:Nat} {v:V} (ho:o.op=.indexAddr t x i) (hx:aI x ox=true) (hi:aI i oi=true) (ht:ec P t=some e) (hk:szT P e=some k)
 (h:SimX φ S fp M w0 U N st a w) (he:th k (st.ev ox) (st.ev oi)=some v):Out P o M w0 U N nid st v a w:=by
 obtain⟨hv,hu⟩:=h.ev hx
 obtain⟨hvi,_⟩:=h.ev hi
 unfold th at he
 split at he
 ·rename_i id k' lo n kd j e1 e2
  split at he
  ·rename_i hc
   obtain⟨rfl,h0,h1⟩:=hc
   cases he
   rw[e1] at hv hu
   rw[e2] at hvi
   have hiv:=(bh hvi).1
   simp only[vRep,av] at hv
   have hn:0<n:=by omega
   have hpos:∃b N' cap c,Hd (φ id) b N' cap∧a.eval x=.slice (some ⟨b,lo*k',none⟩) n c:=by
    rcases hv with⟨_,h0n,_⟩|⟨rfl,b,N',cap,hh,hy,_⟩|⟨_,a',c,hy,_,_,hh⟩
    ·omega
    ·exact⟨b,N',cap,cap,hh,by rw[hy,Nat.zero_mul]⟩
    ·obtain⟨b,N',cap,h2,h3⟩:=hh hn
     exact⟨b,N',cap,c,h2,by rw[hy,h3]⟩
   obtain⟨b,N',cap,c,hh,hxv⟩:=hpos
   refine Out.pure h ?_ (by simpa [V.inU,C.inU] using hu) ?_ (y:=.pointer (some ⟨b,lo*k'+j.toNat*k',none⟩))
   ·simp only[execOp,ho,hxv,hiv]
    rw[Sem.run_bind,mJ ht hk h0 h1]
    simp[Addr.add_lit]
   ·simp only[vRep,av]
    exact⟨b,N',cap,hh,by rw[Nat.add_mul];rfl⟩
  ·cases he
 ·rename_i k' es kd j e1 e2
  split at he
  ·rename_i hc
   obtain⟨rfl,h0⟩:=hc
   simp only[Option.map_eq_some_iff] at he
   obtain⟨e',hes,rfl⟩:=he
   rw[e1] at hv
   rw[e2] at hvi
   have hiv:=(bh hvi).1
   simp only[vRep,av,aY] at hv
   obtain⟨a',cap,hy,_,_,hh⟩:=hv
   have hlt:j.toNat<es.length:=(List.getElem?_eq_some_iff.1 hes).1
   obtain⟨b,of,rfl,hS,hrows⟩:=hh (by intro e0;subst e0;simp at hlt)
   obtain⟨_,hcells⟩:=oX of b k' es hrows j.toNat e' hes
   refine Out.pure h ?_ (by simp[V.inU]) ?_ (y:=.pointer (some ⟨b,of+j.toNat*k',none⟩))
   ·simp only[execOp,ho,hy,hiv]
    rw[Sem.run_bind,mJ ht hk h0 (by omega)]
    simp[Addr.add_lit]
   ·simp only[vRep]
    exact⟨b,of+j.toNat*k',rfl,fun _=>hS,hcells⟩
  ·cases he
 ·cases he
end
end Go.Vs
namespace Go.Vs
open Go.RowKit
def aT (S:Nat→Prop) (fp:Nat→List Nat) (M:MS) (w0:World) (st:St) (w:World) (b:Nat):Prop:=
 (w0.heap.size≤b∨b∈M)∧b<w.heap.size∧¬S b∧∀i e,st.ent i=some e→b∉fp i
section
variable {φ:Nat→Value} {S:Nat→Prop} {fp:Nat→List Nat} {M:MS} {w0:World} {U:Nat→Prop} {N:Nat} {st:St} {a:Act} {w w':World} {P:Program}
theorem SimX.notFree_S (_h:SimX φ S fp M w0 U N st a w) {b:Nat} (_hb:b<w.heap.size) (hs:S b):¬aT S fp M w0 st w b:=fun hf=>hf.2.2.1 hs
theorem SimX.notFree_fp {i:Nat} {e:Ent} {b:Nat} (he:st.ent i=some e) (hb:b∈fp i):¬aT S fp M w0 st w b:=fun hf=>hf.2.2.2 i e he hb
theorem SimX.put_ent (h:SimX φ S fp M w0 U N st a w) {id:Nat} {e:Ent} {hd:Value} {F:List Nat} {S':Nat→Prop} (hφ:∀i,U i→Vs.upd φ id hd i=φ i) (hid:st.ent id=none)
 (ho:w'.os=w.os) (ht:w'.tape=w.tape) (hp:w'.output=w.output) (hs:w.heap.size≤w'.heap.size)
 (hk:∀b,b<w.heap.size→¬aT S fp M w0 st w b→w'.heap[b]?=w.heap[b]?) (hS1:∀b,S b→S' b) (hS2:∀b,S' b→S b∨aT S fp M w0 st w b∨(w.heap.size≤b∧b<w'.heap.size)) (heU:e.inU U)
 (hent:entRep w' S' (Vs.upd φ id hd) hd e F) (hF:F.Nodup) (hF2:∀b∈F,¬S' b∧(aT S fp M w0 st w b∨(w.heap.size≤b∧b<w'.heap.size))):
 SimX (Vs.upd φ id hd) S' (Vs.upd fp id F) M w0 (fun i=>U i∨i=id) N (st.set id e) a w':=by
 have hS:∀b,S b→w'.heap[b]?=w.heap[b]?:=fun b hb=>hk b (h.sLt b hb) (h.notFree_S (h.sLt b hb) hb)
 have hlt:∀b∈F,b<w'.heap.size:=fun b hb=>by
  rcases(hF2 b hb).2 with hf|hf
  ·exact Nat.lt_of_lt_of_le hf.2.1 hs
  ·exact hf.2
 have hfar:∀i e1,st.ent i=some e1→∀b∈F,b∉fp i:=fun i e1 h1 b hb hb2=>by
  rcases(hF2 b hb).2 with hf|hf
  ·exact hf.2.2.2 i e1 h1 hb2
  ·have:=((h.ents i e1 h1).2.2.2.2 b hb2).2.1;omega
 refine⟨h.defers,h.size,ho.trans h.os,ht.trans h.tape,hp.trans h.output,Nat.le_trans h.grow hs,fun b hb hm=>(hk b (Nat.lt_of_lt_of_le hb h.grow) (fun hf=>hf.1.elim (fun q=>absurd hb (by omega)) hm)).trans (h.old b hb hm),fun b hb hlt=>(hS2 b hb).elim (fun x=>h.sIn b x hlt) (fun x=>x.elim (fun hf=>hf.1.elim (fun q=>absurd hlt (by omega)) .inr) (fun x=>absurd hlt (by have:=h.grow;have:=x.1;omega))),fun b hb=>?_,fun i e' he=>?_,fun i e1 i' e2 h1 h2 hne b hb=>?_,fun t=>?_,fun p hp=>⟨(hφ _ (h.pin p hp).2).trans (h.pin p hp).1,.inl (h.pin p hp).2⟩⟩
 ·rcases hS2 b hb with hb|hb|hb
  ·exact Nat.lt_of_lt_of_le (h.sLt b hb) hs
  ·exact Nat.lt_of_lt_of_le hb.2.1 hs
  ·exact hb.2
 ·rw[bq] at he
  by_cases hi:i=id
  ·subst hi
   rw[if_pos rfl] at he
   cases he
   rw[cu,cu]
   refine⟨.inr rfl,fd (fun _=>.inl) e heU,hent,hF,fun b hb=>⟨?_,hlt b hb,(hF2 b hb).1⟩⟩
   rcases(hF2 b hb).2 with hf|hf
   ·exact hf.1
   ·exact .inl (Nat.le_trans h.grow hf.1)
  ·rw[if_neg hi] at he
   obtain⟨h1,h2,h3,h4,h5⟩:=h.ents i e' he
   rw[hφ i h1,bV _ _ hi]
   refine⟨.inl h1,fd (fun _=>.inl) e' h2,dq (U:=U) hS1 hS hφ e' _ h2 (fun b hb=>hk b (h5 b hb).2.1 (SimX.notFree_fp he hb)) h3,h4,fun b hb=>⟨(h5 b hb).1,Nat.lt_of_lt_of_le (h5 b hb).2.1 hs,fun hb'=>?_⟩⟩
   rcases hS2 b hb' with hb'|hb'|hb'
   ·exact(h5 b hb).2.2 hb'
   ·exact hb'.2.2.2 i e' he hb
   ·have:=(h5 b hb).2.1;omega
 ·rw[bq] at h1 h2
  by_cases hi:i=id
  ·by_cases hi':i'=id
   ·exact absurd (hi.trans hi'.symm) hne
   ·subst hi
    rw[if_neg hi'] at h2
    rw[cu] at hb
    rw[bV _ _ hi']
    exact hfar i' e2 h2 b hb
  ·rw[if_neg hi] at h1
   rw[bV _ _ hi] at hb
   by_cases hi':i'=id
   ·subst hi'
    rw[cu]
    exact fun hb2=>hfar i e1 h1 b hb2 hb
   ·rw[if_neg hi'] at h2
    rw[bV _ _ hi']
    exact h.disj i e1 i' e2 h1 h2 hne b hb
 ·obtain⟨h1,h2,h3⟩:=h.slots t
  exact⟨ej (fun _=>.inl) _ h1,h2,cE (U:=U) hS1 hS hφ _ _ h1 h3⟩
theorem SimX.world2 (h:SimX φ S fp M w0 U N st a w) {S':Nat→Prop} (ho:w'.os=w.os) (ht:w'.tape=w.tape) (hp:w'.output=w.output) (hs:w.heap.size≤w'.heap.size)
 (hk:∀b,b<w.heap.size→¬aT S fp M w0 st w b→w'.heap[b]?=w.heap[b]?) (hS1:∀b,S b→S' b) (hS2:∀b,S' b→S b∨aT S fp M w0 st w b∨(w.heap.size≤b∧b<w'.heap.size)):
 SimX φ S' fp M w0 U N st a w':=by
 have hS:∀b,S b→w'.heap[b]?=w.heap[b]?:=fun b hb=>hk b (h.sLt b hb) (h.notFree_S (h.sLt b hb) hb)
 refine⟨h.defers,h.size,ho.trans h.os,ht.trans h.tape,hp.trans h.output,Nat.le_trans h.grow hs,fun b hb hm=>(hk b (Nat.lt_of_lt_of_le hb h.grow) (fun hf=>hf.1.elim (fun q=>absurd hb (by omega)) hm)).trans (h.old b hb hm),fun b hb hlt=>(hS2 b hb).elim (fun x=>h.sIn b x hlt) (fun x=>x.elim (fun hf=>hf.1.elim (fun q=>absurd hlt (by omega)) .inr) (fun x=>absurd hlt (by have:=h.grow;have:=x.1;omega))),fun b hb=>?_,fun i e' he=>?_,h.disj,fun t=>?_,h.pin⟩
 ·rcases hS2 b hb with hb|hb|hb
  ·exact Nat.lt_of_lt_of_le (h.sLt b hb) hs
  ·exact Nat.lt_of_lt_of_le hb.2.1 hs
  ·exact hb.2
 ·obtain⟨h1,h2,h3,h4,h5⟩:=h.ents i e' he
  refine⟨h1,h2,dq (U:=U) hS1 hS (fun _ _=>rfl) e' _ h2 (fun b hb=>hk b (h5 b hb).2.1 (SimX.notFree_fp he hb)) h3,h4,fun b hb=>⟨(h5 b hb).1,Nat.lt_of_lt_of_le (h5 b hb).2.1 hs,fun hb'=>?_⟩⟩
  rcases hS2 b hb' with hb'|hb'|hb'
  ·exact(h5 b hb).2.2 hb'
  ·exact hb'.2.2.2 i e' he hb
  ·have:=(h5 b hb).2.1;omega
 ·obtain⟨h1,h2,h3⟩:=h.slots t
  exact⟨h1,h2,cE (U:=U) hS1 hS (fun _ _=>rfl) _ _ h1 h3⟩
def sA (str:Bool):V→Option V
 |.c (.r (.s _ es))=>if str then none else some (V.i es.length)
 |.c (.f _ _ _ n)=>if str then none else some (V.i n)
 |.c (.n _)=>if str then none else some (V.i 0)
 |.c (.r (.v (.string s)))=>if str then some (V.i s.size) else none
 |_=>none
def yT (P:Program) (t:TypeId):Option Bool:=match P.underlying t with
 |some .string=>some true
 |some (.slice _)=>some false
 |_=>none
theorem dJ {id k lo n:Nat} {y:Value} (h:vRep w S φ (.c (.f id k lo n)) y):∃ad c,y=.slice ad n c∧n≤c∧c≤maxLen:=by
 simp only[vRep,av] at h
 rcases h with⟨_,rfl,_,rfl⟩|⟨rfl,b,N',cap,hh,hy,h1,h2⟩|⟨_,a',c,hy,h1,h2,_⟩
 ·exact⟨none,0,rfl,Nat.le_refl _,Nat.zero_le _⟩
 ·exact⟨_,_,hy,h1,h2⟩
 ·exact⟨_,_,hy,h1,h2⟩
theorem v9 {o:Oper} {ty:TypeId} {x:Operand} {ox:O} {str:Bool} {nid:Nat} {v:V} (ho:o.op=.call {callee:=.builtin .len,args:=#[x],argTypes:=#[ty]}) (hx:aI x ox=true) (ht:yT P ty=some str)
 (h:SimX φ S fp M w0 U N st a w) (he:sA str (st.ev ox)=some v):Out P o M w0 U N nid st v a w:=by
 obtain⟨hv,_⟩:=h.ev hx
 have hsl:∀(n:Nat) (ad:Option Addr) (c:Nat),str=false→a.eval x=.slice ad n c→v=V.i n→Out P o M w0 U N nid st v a w:=by
  intro n ad c hs hev hvv
  subst hs;subst hvv
  have hu:∃e,P.underlying ty=some (.slice e):=by
   unfold yT at ht
   split at ht<;>simp_all
  obtain⟨e,hu⟩:=hu
  refine Out.pure h ?_ fS (dB rfl)
  simp[execOp,ho,resolve,invoke,builtin,hev,Builtin.len_,run_underlying hu,goInt]
 unfold sA at he
 split at he
 ·rename_i k es e1
  rw[e1] at hv
  cases str<;>simp at he
  simp only[vRep,av,aY] at hv
  obtain⟨a',cap,hy,_⟩:=hv
  exact hsl _ _ _ rfl hy he.symm
 ·rename_i id k lo n e1
  rw[e1] at hv
  cases str<;>simp at he
  obtain⟨ad,c,hy,_⟩:=dJ hv
  exact hsl _ _ _ rfl hy he.symm
 ·rename_i k e1
  rw[e1] at hv
  cases str<;>simp at he
  simp only[vRep,av] at hv
  exact hsl 0 _ _ rfl hv he.symm
 ·rename_i s e1
  rw[e1] at hv
  cases str<;>simp at he
  subst he
  have hu:P.underlying ty=some .string:=by
   unfold yT at ht
   split at ht<;>simp_all
  refine Out.pure h ?_ fS (dB rfl)
  simp[execOp,ho,resolve,invoke,builtin,(bh hv).1,Builtin.len_,run_underlying hu,goInt]
 ·cases he
def g7:V→Option Int
 |.c (.r (.v (.int _ j)))=>some j
 |_=>none
def cC (st:St) (d:Int):Option O→Option Int
 |none=>some d
 |some x=>g7 (st.ev x)
def eA:Option Operand→Option O→Bool
 |none,none=>true
 |some x,some ox=>aI x ox
 |_,_=>false
def tP (k:Nat) (l h:Option Int) (hn:Bool):V→Option V
 |.c (.f id k' l0 n)=>match l,(if hn then some (n:Int) else h) with
  |some l,some h=>if k'=k∧0≤l∧l≤h∧h≤n then some (.c (.f id k (l0+l.toNat) (h.toNat-l.toNat))) else none
  |_,_=>none
 |.c (.r (.s k' es))=>match l,(if hn then some (es.length:Int) else h) with
  |some l,some h=>if k'=k∧0≤l∧l≤h∧h≤es.length then some (.c (.r (.s k ((es.take h.toNat).drop l.toNat)))) else none
  |_,_=>none
 |_=>none
theorem gJ {v:V} {j:Int} {y:Value} (h:g7 v=some j) (hv:vRep w S φ v y):∃kd,y=.int kd j:=by
 unfold g7 at h
 split at h
 ·rename_i kd j'
  cases h
  exact⟨kd,(bh hv).1⟩
 ·cases h
theorem jN {t e:TypeId} {k:Nat} (ht:ec P t=some e) (hk:szT P e=some k) {ad:Option Addr} {n c:Nat} {lo hi:Option Value} {l h:Int}
 (hlo:(lo=none∧l=0)∨∃kd,lo=some (.int kd l)) (hhi:(hi=none∧h=n)∨∃kd,hi=some (.int kd h)) (h0:0≤l) (h1:l≤h) (h2:h≤n) (hnc:n≤c):
 (Instr.sliceAt t (.slice ad n c) lo hi none).run P w=.ok (.slice (if c=l.toNat then ad else ad.map (·.add (l.toNat*k))) (h.toNat-l.toNat) (c-l.toNat)) w:=by
 unfold ec at ht
 split at ht
 ·rename_i e' hu
  cases ht
  have hh0:0≤h:=by omega
  have hhc:h≤(c:Int):=by omega
  have hlh:l≤((h.toNat:Nat):Int):=by omega
  rcases hlo with⟨rfl,rfl⟩|⟨kl,rfl⟩<;>rcases hhi with⟨rfl,rfl⟩|⟨kh,rfl⟩<;>
   simp_all [Instr.sliceAt,Instr.slice,run_underlying hu,Instr.sliceBounds,Instr.sliceBound,asIntOf,dp hk]
 ·cases ht
theorem mB:∀(n o b k:Nat) (es:List (List R)),bv w S b k o es→bv w S b k o (es.take n)
 |0,_,_,_,_,_=>by simp[bv]
 |n+1,_,_,_,[],_=>by simp[bv]
 |n+1,o,b,k,e::es,h=>by
  simp only[bv,List.take_succ_cons] at h ⊢
  exact⟨h.1,mB n (o+k) b k es h.2⟩
theorem mF:∀(n o b k:Nat) (es:List (List R)),bv w S b k o es→bv w S b k (o+n*k) (es.drop n)
 |0,_,_,_,_,h=>by simpa using h
 |n+1,_,_,_,[],_=>by simp[bv]
 |n+1,o,b,k,e::es,h=>by
  simp only[bv,List.drop_succ_cons] at h ⊢
  have:=mF n (o+k) b k es h.2
  rwa [show o+k+n*k=o+(n+1)*k from by rw[Nat.succ_mul];omega] at this
theorem xy {o:Oper} {t e:TypeId} {x:Operand} {ox:O} {lo hi:Option Operand} {olo ohi:Option O} {k nid:Nat} {v:V} (ho:o.op=.slice t x lo hi none) (hx:aI x ox=true) (hlo:eA lo olo=true) (hhi:eA hi ohi=true)
 (ht:ec P t=some e) (hk:szT P e=some k) (h:SimX φ S fp M w0 U N st a w) (he:tP k (cC st 0 olo) (ohi.bind fun z=>g7 (st.ev z)) ohi.isNone (st.ev ox)=some v):Out P o M w0 U N nid st v a w:=by
 obtain⟨hv,hu⟩:=h.ev hx
 have hl:∀l,cC st 0 olo=some l→(lo.map a.eval=none∧l=0)∨∃kd,lo.map a.eval=some (.int kd l):=by
  intro l hb
  unfold eA at hlo
  split at hlo
  ·simp[cC] at hb;exact .inl ⟨rfl,hb.symm⟩
  ·rename_i z oz
   obtain⟨hz,_⟩:=h.ev hlo
   obtain⟨kd,hkd⟩:=gJ hb hz
   exact .inr ⟨kd,by simp[hkd]⟩
  ·cases hlo
 have hh:∀(n:Nat) (hb:Int),(if ohi.isNone then some (n:Int) else(ohi.bind fun z=>g7 (st.ev z)))=some hb→(hi.map a.eval=none∧hb=n)∨∃kd,hi.map a.eval=some (.int kd hb):=by
  intro n hb heq
  unfold eA at hhi
  split at hhi
  ·simp at heq;exact .inl ⟨rfl,heq.symm⟩
  ·rename_i z oz
   simp at heq
   obtain⟨hz,_⟩:=h.ev hhi
   obtain⟨kd,hkd⟩:=gJ heq hz
   exact .inr ⟨kd,by simp[hkd]⟩
  ·cases hhi
 unfold tP at he
 split at he
 ·rename_i id k' l0 n e1
  split at he
  ·rename_i l hb hlq hhq
   split at he
   ·rename_i hc
    obtain⟨rfl,c0,c1,c2⟩:=hc
    cases he
    rw[e1] at hv hu
    obtain⟨ad,c,hy,hnc,hcm⟩:=dJ hv
    have hr:=jN (P:=P) (w:=w) ht hk (hl l hlq) (hh n hb hhq) c0 c1 c2 hnc (ad:=ad)
    refine Out.pure h (y:=.slice (if c=l.toNat then ad else ad.map (·.add (l.toNat*k'))) (hb.toNat-l.toNat) (c-l.toNat)) ?_ (by simpa [V.inU,C.inU] using hu) ?_
    ·simp only[execOp,ho,hy]
     rw[Sem.run_bind,show(none:Option Operand).map a.eval=none from rfl,hr]
     rfl
    ·simp only[vRep,av] at hv ⊢
     by_cases hz:l0+l.toNat=0
     ·have hl0:l0=0:=by omega
      have hlz:l.toNat=0:=by omega
      subst hl0
      rw[hlz]
      rcases hv with⟨_,hn0,hφ0,hy0⟩|⟨_,b,N',cap,hd,hy1,_,_⟩|⟨hlt,_⟩
      ·rw[hy] at hy0
       cases hy0
       refine .inl ⟨rfl,by omega,hφ0,?_⟩
       have:hb.toNat=0:=by omega
       simp[this]
      ·rw[hy] at hy1
       cases hy1
       refine .inr (.inl ⟨rfl,b,N',c,hd,?_,by omega,hcm⟩)
       by_cases hc0:c=0
       ·simp[hc0]
       ·simp[hc0,Addr.add]
      ·omega
     ·refine .inr (.inr ⟨by omega,_,_,rfl,by omega,by omega,fun hpos=>?_⟩)
      have hne:¬c=l.toNat:=by omega
      rw[if_neg hne]
      rcases hv with⟨_,hn0,_⟩|⟨rfl,b,N',cap,hd,hy1,_,_⟩|⟨_,a',c',hy1,_,_,hpos'⟩
      ·omega
      ·rw[hy] at hy1
       cases hy1
       exact⟨b,N',c,hd,by simp[Addr.add_lit]⟩
      ·rw[hy] at hy1
       cases hy1
       obtain⟨b,N',cap,hd,had⟩:=hpos' (by omega)
       refine⟨b,N',cap,hd,?_⟩
       rw[had]
       simp[Addr.add_lit,Nat.add_mul]
   ·cases he
  ·cases he
 ·rename_i k' es e1
  split at he
  ·rename_i l hb hlq hhq
   split at he
   ·rename_i hc
    obtain⟨rfl,c0,c1,c2⟩:=hc
    cases he
    rw[e1] at hv
    simp only[vRep,av,aY] at hv
    obtain⟨ad,c,hy,hnc,hcm,hrep⟩:=hv
    have hr:=jN (P:=P) (w:=w) ht hk (hl l hlq) (hh es.length hb hhq) c0 c1 c2 hnc (ad:=ad)
    refine Out.pure h (y:=.slice (if c=l.toNat then ad else ad.map (·.add (l.toNat*k'))) (hb.toNat-l.toNat) (c-l.toNat)) ?_ fS ?_
    ·simp only[execOp,ho,hy]
     rw[Sem.run_bind,show(none:Option Operand).map a.eval=none from rfl,hr]
     rfl
    ·simp only[vRep,av,aY]
     have hlen:((es.take hb.toNat).drop l.toNat).length=hb.toNat-l.toNat:=by rw[List.length_drop,List.length_take];omega
     refine⟨_,_,by rw[hlen],by rw[hlen];omega,by omega,fun hne=>?_⟩
     have hpos:0<hb.toNat-l.toNat:=by
      rw[←hlen];exact List.length_pos_iff.2 hne
     have hcn:¬c=l.toNat:=by omega
     obtain⟨b,of,had,hSb,hrows⟩:=hrep (by intro e0;subst e0;simp at c2;omega)
     rw[if_neg hcn,had]
     exact⟨b,of+l.toNat*k',by simp[Addr.add_lit],hSb,mF _ _ _ _ _ (mB _ _ _ _ _ hrows)⟩
   ·cases he
  ·cases he
 ·cases he
end
end Go.Vs
