/- The law FnMoreSeen holds: whatever its arguments, the call returns true and leaves them as they were. No condition. -/
import Derived.Test.YticpmdigfdpmfaaGreatMor
import Derived.Test.YticpmdigfdpmfaaGreatDra
import Derived.Test.YticpmdigfdpmfaaGreatLac
import Derived.Test.YticpmdigfdpmfaaGreatLad
import Derived.Test.YticpmdigfdpmfaaGreatIs
import Derived.Test.YticpmdigfdpmfaaGreatOrder
import Derived.Test.YticpmdigfdpmfaaGreatRows
set_option linter.unusedVariables false
set_option linter.unusedSimpArgs false
set_option linter.unusedSectionVars false
namespace Go.Vs
open Go.IntWalk
section
variable {n:Network} {th w now:Int} {p x:ByteArray}
theorem yD {t u:Trip} (h:t.Leg=u.Leg∧t.Day=u.Day):u=t:=by
 cases t;cases u
 obtain⟨h1,h2⟩:=h
 dsimp only at h1 h2
 rw[h1,h2]
theorem zj {A:Scan} {B:Scan×Bool} {t:Trip} (h4:A.Kind≠4) (hst:stN n t.Leg t.Day≤now) (hen:now<enN n t.Leg t.Day) (hB:isB n B now→B.1.Trip=t) (hs:isB n B now∨(A.Kind=3∧A.Trip=t)):
 (∀q,mbC n (A,true) B now q=false)∧∀u,mrC n (A,true) B now u=true→u=t:=by
 by_cases hb:isB n B now
 ·have e:=hB hb
  refine⟨fun q=>?_,fun u h=>?_⟩
  ·unfold mbC
   rw[if_pos rfl,if_neg h4,if_pos hb,e]
   exact decide_eq_false fun h=>by omega
  ·unfold mrC at h
   rw[if_pos rfl,if_neg h4,if_pos hb,e] at h
   simp only[Bool.and_eq_true,decide_eq_true_eq] at h
   exact yD h.2.2
 ·rcases hs with hs|⟨k,e⟩
  ·exact absurd hs hb
  ·have ha:isA n (A,true) now:=⟨k,by rw[show((A,true):Scan×Bool).1.Trip=t from e];exact hen⟩
   refine⟨fun q=>?_,fun u h=>?_⟩
   ·unfold mbC
    rw[if_pos rfl,if_neg h4,if_neg hb,if_pos ha,show((A,true):Scan×Bool).1.Trip=t from e]
    exact decide_eq_false fun h=>by omega
   ·unfold mrC at h
    rw[if_pos rfl,if_neg h4,if_neg hb,if_pos ha,show((A,true):Scan×Bool).1.Trip=t from e] at h
    simp only[Bool.and_eq_true,decide_eq_true_eq] at h
    exact yD h.2.2
theorem zN (hn:NetOk n) (hb:netB n=true) (hc:n.Change=0) (hth:1≤th∧th≤9999) (hx:x∈plc n) (h0:0≤w) (h1:w≤100000) {l:List Trip} (hp:gn n p x w l) (hw:w≤now)
 {K1 K2:List Scan} (c:K2.Sublist K1) (d:K1.Sublist (stl n th l)) (hS1:Seen n (heS th w x::K1) th) (hS2:Seen n (heS th w x::K2) th):
 (∀q,mbB n (heS th w x::K1) th now q=true→mbB n (heS th w x::K2) th now q=true)∧∀u,mrB n (heS th w x::K1) th now u=true→mrB n (heS th w x::K2) th now u=true:=by
 obtain⟨w1,w2,e1,e2,e3⟩:=tz (n:=n) now l
 subst e1
 rw[lv] at d
 obtain⟨P1,Q1,rfl,d1,d2⟩:=List.sublist_append_iff.1 d
 obtain⟨P2,Q2,rfl,c1,c2⟩:=List.sublist_append_iff.1 c
 have wait:(∀t∈w2,now<stN n t.Leg t.Day)→_:=fun hlt=>sI hn hb hc hth hx h0 h1 (m:=[]) (by simpa using hp) hw e2 hlt c1 c2 d1 d2 hS1 hS2
 rcases e3 with e3|⟨t,w3,e3,e4⟩
 ·subst e3
  exact wait (by simp)
 ·subst e3
  by_cases hst:now<stN n t.Leg t.Day
  ·exact wait (Hn hn hp hst)
  ·have ride:=Ee hn hb hth hx h0 h1 hp e2 (by omega) e4 (c1.trans d1) (c2.trans d2) hS2
   obtain⟨y,b,a1,a2,a3,a4,a5,a6⟩:=ahead hn hb hth hx h0 h1 hp hw e2
   have pt1:=ba hn hp
   have pt3:=ba hn a1.2.2.2
   have hP1:∀s∈heS th w x::P1,s.At≤now:=fun s hs=>by
    rcases List.mem_cons.1 hs with rfl|hs
    ·exact hw
    ·obtain⟨u,hu,h⟩:=dh (d1.subset hs)
     have h2:=e2 u hu
     have h3:=(pt1 u (by simp[hu])).2.2.1
     rcases h with rfl|rfl
     ·show stN n u.Leg u.Day≤now;omega
     ·exact h2
   have hQ3:∀s∈drS n th t::stl n th w3,now<s.At:=fun s hs=>by
    rcases List.mem_cons.1 hs with rfl|hs
    ·exact e4
    ·obtain⟨u,hu,h⟩:=dh hs
     have h2:=pt3 u hu
     rcases h with rfl|rfl
     ·show now<stN n u.Leg u.Day;omega
     ·show now<enN n u.Leg u.Day;omega
   have hBt:∀{Q:List Scan},Q.Sublist (drS n th t::stl n th w3)→isB n (opS Q.head?) now→(opS Q.head?).1.Trip=t:=fun{Q} hQ h=>by
    cases Q with
    |nil=>cases h.1
    |cons B Q=>
     have hBm:B∈drS n th t::stl n th w3:=hQ.subset (List.mem_cons_self ..)
     have h2:stN n B.Trip.Leg B.Trip.Day≤now:=h.2.2
     rcases List.mem_cons.1 hBm with e|hBm
     ·show B.Trip=t
      rw[e];rfl
     ·exfalso
      obtain⟨u,hu,e⟩:=dh hBm
      have h3:=pt3 u hu
      rcases e with rfl|rfl
      ·have h2:stN n u.Leg u.Day≤now:=h2
       omega
      ·have h2:stN n u.Leg u.Day≤now:=h2
       omega
   have fin:∀{A:Scan} {B:Scan×Bool},laB n (heS th w x::(P1++Q1)) th now=(A,true)→nxB n (heS th w x::(P1++Q1)) th now=B→A.Kind≠4→(isB n B now→B.1.Trip=t)→(isB n B now∨(A.Kind=3∧A.Trip=t))→
    (∀q,mbB n (heS th w x::(P1++Q1)) th now q=true→mbB n (heS th w x::(P2++Q2)) th now q=true)∧∀u,mrB n (heS th w x::(P1++Q1)) th now u=true→mrB n (heS th w x::(P2++Q2)) th now u=true:=by
    intro A B l1 l2 h4 hB hs
    obtain⟨f1,f2⟩:=zj (n:=n) (now:=now) h4 (by omega) e4 hB hs
    refine⟨fun q h=>?_,fun u h=>?_⟩
    ·unfold mbB at h
     rw[l1,l2,f1] at h
     simp at h
    ·unfold mrB at h
     rw[l1,l2,Bool.and_eq_true] at h
     rw[f2 u h.2];exact ride
   obtain⟨A,hA,eA⟩:=pP (A:=heS th w x) (K:=P1)
   have hA4:=a4 A (by
    rcases List.mem_cons.1 hA with h|h
    ·simp[h]
    ·exact List.mem_cons_of_mem _ (d1.subset h))
   have d2':=d2
   cases d2 with
   |@cons_cons Q3 _ _ d2=>
    obtain⟨l1,l2⟩:=sE (n:=n) (th:=th) hS1.cn (P:=heS th w x::P1++[ldS n th t]) (Q:=Q3) (by simp) (fun s hs=>by
     rcases List.mem_append.1 hs with hs|hs
     ·exact hP1 s hs
     ·rw[List.mem_singleton.1 hs]
      show stN n t.Leg t.Day≤now
      omega) (fun s hs=>hQ3 s (d2.subset hs))
    rw[List.getLast?_append] at l1
    exact fin l1 l2 (by show(3:Int)≠4;omega) (hBt d2) (.inr ⟨rfl,rfl⟩)
   |cons _ d2=>
    obtain⟨l1,l2⟩:=sE (n:=n) (th:=th) hS1.cn (P:=heS th w x::P1) (Q:=Q1) (by simp) hP1 (fun s hs=>hQ3 s (d2.subset hs))
    rw[eA] at l1
    have d3:=d2
    cases d2 with
    |@cons_cons Q3 _ _ d2=>exact fin l1 l2 hA4.kind (hBt d3) (.inl ⟨rfl,rfl,by show stN n t.Leg t.Day≤now;omega⟩)
    |cons _ d2=>
     have hlt3:∀u∈w3,now<stN n u.Leg u.Day:=fun u hu=>by
      have:=pt3 u hu
      omega
     exact sI hn hb hc hth hx h0 h1 (m:=[t]) (w2:=w3) (by simpa using hp) hw e2 hlt3 c1 c2 d1 d2 hS1 hS2
end
theorem Dt:∀(b:Fin 256) (k j:Fin 8),G.real.band .i64 (G.real.shr .i64 ((b.val:Nat):Int) ((j.val:Nat):Int)) 1=1→G.real.band .i64 (G.real.shr .i64 (G.real.bor .i64 ((b.val:Nat):Int) (G.real.shl .i64 1 ((k.val:Nat):Int))) ((j.val:Nat):Int)) 1=1:=by
 decide+kernel
theorem Ao {b k:Int} (h0:0≤b) (h1:b≤255) (k0:0≤k) (k1:k<8) {v:Int} (hv:0≤v) (h:ug b v=true):ug (G.real.bor .i64 b (G.real.shl .i64 1 k)) v=true:=by
 have j0:=Int.tmod_nonneg 8 hv
 have j1:=Int.tmod_lt_of_pos v (b:=8) (by omega)
 unfold ug at h ⊢
 rw[decide_eq_true_eq] at h ⊢
 have:=Dt ⟨b.toNat,by omega⟩ ⟨k.toNat,by omega⟩ ⟨(v.tmod 8).toNat,by omega⟩
 rw[show((b.toNat:Nat):Int)=b by omega,show((k.toNat:Nat):Int)=k by omega,show(((v.tmod 8).toNat:Nat):Int)=v.tmod 8 by omega] at this
 exact this h
theorem sS {b c:Int} (h:∀v,0≤v→ug b v=true→ug c v=true):∀(l:List Scan) (v:Int),0≤v→(nH b v l).Sublist (nH c v l)
 |[],v,_=>List.Sublist.refl _
 |z::l,v,hv=>by
  have ih:=sS h l (v+1) (by omega)
  rw[nH,nH]
  by_cases hb:ug b v=true
  ·rw[if_pos hb,if_pos (h v hv hb)];exact ih.cons_cons z
  ·rw[if_neg hb]
   split
   ·exact ih.cons z
   ·exact ih
theorem tY {n:Network} {l:List Scan} {x a d:Int}:∀{ls:List Leg} {k:Int} {t:Trip},t∈rdL n l x a d ls k→mrB n l x a t=true
 |[],k,t,h=>by cases h
 |z::ls,k,t,h=>by
  rw[rdL] at h
  split at h
  ·rcases List.mem_cons.1 h with rfl|h
   ·assumption
   ·exact tY h
  ·exact tY h
theorem yX {n:Network} {l:List Scan} {x a:Int}:∀{m:Nat} {d:Int} {t:Trip},t∈rdD n l x a m d→mrB n l x a t=true
 |0,d,t,h=>by cases h
 |m+1,d,t,h=>by
  rw[rdD] at h
  rcases List.mem_append.1 h with h|h
  ·exact tY h
  ·exact yX h
theorem wd {n:Network} {l:List Scan} {x a:Int} {t:Trip} (h:t∈(beB n l x a).Rides):mrB n l x a t=true:=by
 have h:t∈(rdD n l x a 61 0).take 60:=h
 exact yX (List.mem_of_mem_take h)
theorem vE (t:Trip):∀l:List Trip,t∈l→fC G.real TE.real t l=.ret true
 |[],h=>by cases h
 |z::l,h=>by
  rw[fC,dM,dM,EJ,am]
  split
  ·rfl
  ·rename_i hne
   rcases List.mem_cons.1 h with rfl|h
   ·exact absurd ⟨rfl,rfl⟩ hne
   ·exact vE t l h
theorem sG (s:ByteArray):∀(l:List ByteArray) (v:Int),s∈l→0≤v→v+l.length≤4194304→∃k,fA G.real TE.real s l v=.ret k∧0≤k
 |[],v,h,_,_=>by cases h
 |z::l,v,h,h0,h1=>by
  simp only[List.length_cons] at h1
  rw[fA,fT,am]
  split
  ·exact⟨v,rfl,h0⟩
  ·rename_i hne
   rcases List.mem_cons.1 h with rfl|h
   ·exact absurd rfl hne
   ·rw[bx,w64 (by omega) (by omega)]
    exact sG s l (v+1) h (by omega) (by omega)
theorem zd (b:Belief) (hb:b.Places.length≤4000000):∀l:List ByteArray,(∀q∈l,q∈b.Places)→bU G.real TE.real b l=.out ()
 |[],_=>by rw[bU]
 |q::l,h=>by
  obtain⟨k,k1,k2⟩:=sG q b.Places 0 (h q (by simp)) (by omega) (by omega)
  have hk:m7 G.real TE.real b.Places q=k:=by unfold m7;rw[aU,k1];rfl
  rw[bU,aU,hk,ea,am,if_neg (by omega)]
  exact zd b hb l fun z hz=>h z (by simp[hz])
theorem yq (b:Belief):∀l:List Trip,(∀q∈l,q∈b.Rides)→bT G.real TE.real b l=.out ()
 |[],_=>by rw[bT]
 |q::l,h=>by
  have hk:nc G.real TE.real b.Rides q=true:=by unfold nc;rw[aU,vE q _ (h q (by simp))];rfl
  rw[bT,aU,hk,c7]
  exact yq b l fun z hz=>h z (by simp[hz])
theorem vF (a:List Int) (h:a.length≤9223372036854775807∧∀x∈a,0≤x∧x≤255):fU G.real TE.real a=some true:=by
 unfold fU
 rw[aU,GU,am]
 split
 ·rfl
 ·obtain⟨⟨n0,f,to,w⟩,e,hW,_⟩:=qJ a (by omega)
  have hW0:NetW n0:=hW
  have hW:NetW (Network.mk n0.Legs n0.Off 0):=⟨hW0.some_,hW0.len,hW0.legs,hW0.off⟩
  rw[e,af]
  show(cl (iq G.real TE.real (Network.mk n0.Legs n0.Off 0) f to w) _)=_
  have hch:(Network.mk n0.Legs n0.Off 0).Change=0:=rfl
  dsimp only
  generalize Network.mk n0.Legs n0.Off 0=n at hW hch ⊢
  have ht:=B7 hW
  obtain⟨r,r1,r2,r3,r4⟩:=FN ht f to w
  rw[r1,r2,af,af]
  cases hr:r.2 with
  |false=>rfl
  |true=>
   obtain⟨hb,hf,hto,hw,hp⟩:=r4 hr
   have hn:=iE ht hb
   have hlen:=eX ht
   rw[c7,c7,ea,am]
   split
   ·rfl
   ·rename_i hw0
    rw[show max w 0=w by omega] at hp
    have htr:∀t∈r.1,dR n t=true:=fun t htm=>by
     unfold dR
     rw[hb,(ba hn hp t htm).1];rfl
    obtain⟨v,v1,v2,v3⟩:=EQ a h.2 (i:=1) (by omega)
    obtain⟨u,u1,u2,u3⟩:=EQ a h.2 (i:=2) (by omega)
    obtain⟨z,z1,z2,z3⟩:=EQ a h.2 (i:=3) (by omega)
    have hl2:=ua n 3 r.1
    have j0:=Int.tmod_nonneg 8 z2
    have j1:=Int.tmod_lt_of_pos z (b:=8) (by omega)
    rw[DO ht 3 w f htr (by omega),af,v1,af,C4 _ _ _ (by omega),af,af,z1,af,vJ,ah j0,C4 _ _ _ (by omega),af,u1,af]
    simp only[lO,bx,jI,Al]
    rw[w64 (n:=5*u) (by omega) (by omega),w64 (by omega) (by omega)]
    have hnow:w≤w+5*u:=by omega
    generalize w+5*u=now at hnow ⊢
    have sub1:=nh v (stl n 3 r.1) 1
    have sub2:=nh (G.real.bor .i64 v (G.real.shl .i64 1 (z.tmod 8))) (stl n 3 r.1) 1
    have hmono:=sS (b:=v) (c:=G.real.bor .i64 v (G.real.shl .i64 1 (z.tmod 8))) (fun i hi hbit=>Ao v2 v3 j0 j1 hi hbit) (stl n 3 r.1) 1 (by omega)
    have hS1:=yx hn hb (th:=3) (by omega) hf (by omega) hw hp (by omega) sub1
    have hS2:=yx hn hb (th:=3) (by omega) hf (by omega) hw hp (by omega) sub2
    have l1:=sub1.length_le
    have l2:=sub2.length_le
    generalize nH v 1 (stl n 3 r.1)=K1 at hmono hS1 l1 ⊢
    generalize nH (G.real.bor .i64 v (G.real.shl .i64 1 (z.tmod 8))) 1 (stl n 3 r.1)=K2 at hmono hS2 sub2 l2 ⊢
    have hlF1:(heS 3 w f::K1).length≤200:=by simp only[List.length_cons];omega
    have hlF2:(heS 3 w f::K2).length≤200:=by simp only[List.length_cons];omega
    rw[Gr ht _ (by omega),Gr ht _ (by omega),af,af,am]
    split
    ·rfl
    ·rename_i h60
     have h60:(beB n (heS 3 w f::K1) 3 now).Rides.length<60:=by omega
     obtain⟨m1,m2⟩:=zN hn hb hch (th:=3) (by omega) hf (by omega) hw hp hnow hmono sub2 hS2 hS1
     have hbl:(beB n (heS 3 w f::K1) 3 now).Places.length≤4000000:=by
      have:=D0 ht (heS 3 w f::K1) 3 now
      unfold Belief.tot at this
      omega
     rw[aU,zd _ hbl _ (fun q hq=>uZ.2 (m1 q (uZ.1 hq))),aU,yq _ _ (fun q hq=>DA h60 hlen (m2 q (wd hq)))]
     rfl
end Go.Vs
namespace Go.Vs
theorem law7 (a:List Int) (h:a.length≤9223372036854775807∧∀x∈a,0≤x∧x≤255):fU G.real TE.real a=some true:=vF a h
end Go.Vs
namespace Go.Proofs.YticpmdigfdpmfaaGreat.fnMoreSeen
open Go.Vs Go.RowKit Go.WideShapes Go.ChangeShapes
set_option linter.unusedVariables false
set_option maxRecDepth 100000
theorem Hp (as0:List A) (h:uF Tryz.prog 8 Tryz.f7.params.toList as0):Go.Vs.Fn Tryz.prog 7 as0 (.c (.r (.v (.bool true)))):=by
 rw[Tryz.params7] at h
 obtain⟨x0,xs0,rfl,⟨ts0,t0,q0⟩,h⟩:=h
 rw[show mM Tryz.prog 8 22=some [.sl [.int .u8]] from by kernel_rfl] at t0
 cases t0
 rw[show zm Tryz.prog 22=false from by kernel_rfl] at q0
 obtain⟨r0,rfl,q0⟩:=q0
 obtain⟨_,_,e0,q0,e0_⟩:=yz q0
 cases e0
 obtain⟨b0,rfl,l0,q0⟩:=Gw q0
 obtain⟨a0,rfl,p0⟩:=ze GV b0 q0
 rw[List.length_map] at l0
 have h:=h
 subst h
 exact p6 rfl rfl (law7 _ ⟨l0,p0⟩)
theorem lifted (os:Os) (started:os.Started) (H:Type) (enc:TypeId×Value→H):
 ReturnsInHanded {} Tryz.checked os 7 .any (Rows.fnMoreSeenSpec.pre6 enc Tryz.prog Tryz.f7 Rows.fnMoreSeenRow.domain false) (Rows.fnMoreSeenSpec.post enc Tryz.prog Tryz.f7 false true false false):=by
 refine returnsInHanded_of_change (C:=Tryz.checked) (s:=Rows.fnMoreSeenSpec) (by kernel_rfl) started (by kernel_rfl) Tryz.func7
  (ChangeSpec.witness6 (enc:=enc) (C:=Tryz.checked) false ⟨#[],#[.slice none 0 0],[]⟩ 8 (by kernel_rfl) (by kernel_rfl) (by kernel_rfl) (by kernel_rfl)) ?_
 intro W base args ds gs before hval hW _ _
 refine ut (n:=8) (tb:=4) rfl rfl Tryz.underlying4 (by kernel_rfl) (by kernel_rfl) (fun ds hl=>?_) Hp W base args ds gs before hval hW
 rw[Tryz.params7] at hl
 match ds,hl with
 |[d0],_=>exact⟨rfl,rfl,rfl⟩
theorem Gl:joinedFacts Tryz.prog 7 Tryz.f7 Rows.fnMoreSeenSpec Rows.fnMoreSeenRow=true:=by
 unfold joinedFacts
 exact(cW (cW (cW (cW (cW (cW (cW (cW (cW (cW (cW (cW (cW (cW (cW (cW (cW (cW (cW (cW (cW (cW (cW (cW (cW (cW (cW (cW (cW (cW (cW (by kernel_rfl) Do) Ei) (by kernel_rfl)) (by kernel_rfl)) (by kernel_rfl)) (by kernel_rfl)) (by kernel_rfl)) (by kernel_rfl)) (by kernel_rfl)) (by kernel_rfl)) (by kernel_rfl)) (by kernel_rfl)) (by kernel_rfl)) (by kernel_rfl)) (by kernel_rfl)) (by kernel_rfl)) (by kernel_rfl)) (by kernel_rfl)) (by kernel_rfl)) (by kernel_rfl)) (by kernel_rfl)) (by kernel_rfl)) (by kernel_rfl)) C1) Bz) (by rw[C5];rfl)) (by rw[Dm];rfl)) (by kernel_rfl)) (by kernel_rfl)) (by kernel_rfl)) (by kernel_rfl))
theorem holds:Rows.FnMoreSeenSaid:=
 OpenClaim.holds_of_wide 7 Tryz.f7 rfl rfl rfl rfl rfl rfl rfl ⟨rfl,rfl,rfl,rfl,rfl⟩ rfl rfl rfl rfl rfl (by kernel_rfl) Tryz.func7 Gl
  (of_decide_eq_true (by kernel_rfl)) (by unfold Func.isWrapper;first|(rw[if_pos (by decide+kernel)];kernel_rfl)|(rw[if_neg (by decide+kernel)];exact⟨rfl,rfl⟩))
  (fun os started H enc _=>lifted os started H enc)
end Go.Proofs.YticpmdigfdpmfaaGreat.fnMoreSeen
