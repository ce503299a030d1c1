/- Where changes take no time, what is seen beside makes nothing more possible. -/
import Derived.Test.YticpmdigfdpmfaaGreatBel
set_option linter.unusedVariables false
set_option linter.unusedSimpArgs false
set_option linter.unusedSectionVars false
namespace Go.Vs
open Go.IntWalk
section
variable {n:Network} {th w now:Int} {p x:ByteArray}
theorem Fw (hn:NetOk n) {s:ByteArray} {a:Int} (hs:s∈plc n) (h0:0≤a) (i:Nat) (hi:0≤lab (arL n s a) i):a≤lab (arL n s a) i:=by
 have hok:FOk n (fN n):=⟨hn,(cT hn).ok⟩
 refine ux (st:=ixN (plc n) s) hok (plc n).length (dv n _ a) (fun j hj=>?_) i hi
 rw[fW (bM hs).1] at hj ⊢
 split at hj
 ·rw[if_pos ‹_›];omega
 ·omega
theorem wR (hn:NetOk n) (hb:netB n=true) {s q:ByteArray} {a:Int} (hs:s∈plc n) (hq:q∈plc n) (h0:0≤a) (h1:a≤100000):reB n ⟨s,a⟩ q=lab (arL n s a) (ixN (plc n) q):=by
 unfold reB
 dsimp only
 split
 ·rename_i e
  subst e
  have h2:=Ci hn hs h0
  have h3:=Fw hn hs h0 _ h2.1
  omega
 ·exact wT hb hs h1 hq
theorem CC (hn:NetOk n) (hc:n.Change=0) {s y:ByteArray} {a b:Int} (hy:y∈plc n) (hb0:0≤b) (h0:0≤lab (arL n s a) (ixN (plc n) y)) (h1:lab (arL n s a) (ixN (plc n) y)≤b):
 ∀(m:Nat) (i:Nat),0≤lab (itr n (fN n) (ixN (plc n) y) m (e8 n (ixN (plc n) y) b)) i→0≤lab (arL n s a) i∧lab (arL n s a) i≤lab (itr n (fN n) (ixN (plc n) y) m (e8 n (ixN (plc n) y) b)) i
 |0,i,hi=>by
  have hi2:0≤lab (e8 n (ixN (plc n) y) b) i:=hi
  show 0≤lab (arL n s a) i∧lab (arL n s a) i≤lab (e8 n (ixN (plc n) y) b) i
  rw[fW (bM hy).1] at hi2 ⊢
  split at hi2
  ·rename_i e
   rw[if_pos e,e]
   omega
  ·omega
 |m+1,i,hi=>by
  have hok:FOk n (fN n):=⟨hn,(cT hn).ok⟩
  have ih:=CC hn hc (s:=s) (a:=a) hy hb0 h0 h1 m
  rw[fX] at hi ⊢
  rcases(gb (st:=ixN (plc n) y) hok ((fq m _).trans (dv n _ b)) i).1 with e|⟨j,z,e,g1,g2,g3,g4,g5⟩
  ·rw[e] at hi ⊢
   exact ih i hi
  ·obtain⟨q1,q2,q3,d,q4,q5⟩:=gY hok g3
   have hi2:=ih _ q1
   have hzm:=List.mem_of_getElem? g1
   have hj:j<n.Legs.length:=by
    rcases Nat.lt_or_ge j n.Legs.length with hh|hh
    ·exact hh
    ·rw[List.getElem?_eq_none hh] at g1;cases g1
   have hl:=cU (n:=n) (l:=(j:Int)) (by omega) (by omega)
   rw[Int.toNat_natCast,g1] at hl
   have hz:lgOf n (j:Int)=z:=(Option.some.inj hl).symm
   have hok2:=hok.ok q4
   have hrd:∀(v:Int) (c:Bool),rdy n v c=v:=fun v c=>by unfold rdy;split<;>omega
   rw[hrd] at hok2
   have ht:=u6 hn (s:=s) (a:=a) (t:=⟨(j:Int),d⟩) hok2.1 (by show 0≤lab _ (ixN (plc n) (lgOf n (j:Int)).From);rw[hz];exact hi2.1) (by
    rw[hrd]
    show lab _ (ixN (plc n) (lgOf n (j:Int)).From)≤stN n (j:Int) d
    rw[hz]
    exact Int.le_trans hi2.2 hok2.2)
   have ht2:0≤lab (arL n s a) (ixN (plc n) (lgOf n (j:Int)).To)∧lab (arL n s a) (ixN (plc n) (lgOf n (j:Int)).To)≤enN n (j:Int) d:=ht
   rw[hz,show ixN (plc n) z.To=i from g2] at ht2
   rw[g4,q5]
   exact ht2
theorem A3 (hn:NetOk n) (hb:netB n=true) (hc:n.Change=0) {s y z:ByteArray} {a b u:Int} (hs:s∈plc n) (hy:y∈plc n) (hz:z∈plc n) (ha:0≤a) (ha1:a≤100000) (hb1:b≤100000) (h1:byB n ⟨s,a⟩ ⟨y,b⟩=true) (h2:byB n ⟨y,b⟩ ⟨z,u⟩=true):byB n ⟨s,a⟩ ⟨z,u⟩=true:=by
 unfold byB at h1 h2 ⊢
 rw[decide_eq_true_eq] at h1 h2 ⊢
 dsimp only at h1 h2 ⊢
 rw[wR hn hb hs hy ha ha1] at h1
 have hb0:0≤b:=by omega
 rw[wR hn hb hy hz hb0 hb1] at h2
 rw[wR hn hb hs hz ha ha1]
 have:=CC hn hc (s:=s) (a:=a) hy hb0 h1.1 h1.2 (plc n).length (ixN (plc n) z) h2.1
 have h3:lab (arL n s a) (ixN (plc n) z)≤lab (arL n y b) (ixN (plc n) z):=this.2
 omega
theorem Bk (hn:NetOk n) (hb:netB n=true) (hth:1≤th∧th≤9999):∀{l:List Trip} {x:ByteArray} {b:Int},gn n p x b l→(stl n th l).Pairwise fun s u=>byB n (bhB n s) (bhB n u)=true
 |[],_,_,_=>List.Pairwise.nil
 |t::l,x,b,hp=>by
  have hc:=hn.change
  have i2:=(ff hn hb hth hp).2
  obtain⟨k1,k2,k3,k4,k5,k6,k7⟩:=ba hn hp t (by simp)
  have hld:=(i2 (ldS n th t) (by simp[stl])).2.2.2
  have hdr:=(i2 (drS n th t) (by simp[stl])).2.2.2
  have hrest:∀s∈stl n th l,byB n ⟨(lgOf n t.Leg).To,enN n t.Leg t.Day⟩ (bhB n s)=true:=fun s hs=>by
   have hsc:=(i2 s (by simp[stl,hs])).2.2.2
   obtain⟨u,hu,h⟩:=dh hs
   have:=(ib hn hb k7 (by omega) (by omega) (lB (b:=enN n t.Leg t.Day) (by omega) hp.2.2.2) u hu).2 _ (Int.le_refl _)
   rcases h with rfl|rfl
   ·rw[tB hsc];exact this
   ·rw[rh hsc];exact this
  refine List.pairwise_cons.2 ⟨fun s hs=>?_,List.pairwise_cons.2 ⟨fun s hs=>?_,Bk hn hb hth hp.2.2.2⟩⟩
  ·rw[tB hld]
   rcases List.mem_cons.1 hs with rfl|hs
   ·rw[rh hdr];exact mZ (by omega) (Int.le_refl _)
   ·exact hrest s hs
  ·rw[rh hdr];exact hrest s hs
theorem Bj (hn:NetOk n) (hb:netB n=true) (hth:1≤th∧th≤9999):∀{l:List Trip} {x:ByteArray} {b:Int},gn n p x b l→(stl n th l).Pairwise fun s u=>byB n (bfB n s) (bfB n u)=true
 |[],_,_,_=>List.Pairwise.nil
 |t::l,x,b,hp=>by
  have i2:=(ff hn hb hth hp).2
  obtain⟨k1,k2,k3,k4,k5,k6,k7⟩:=ba hn hp t (by simp)
  have hld:=(i2 (ldS n th t) (by simp[stl])).2.2.2
  have hdr:=(i2 (drS n th t) (by simp[stl])).2.2.2
  have hp2:gn n p (lgOf n t.Leg).From (stN n t.Leg t.Day) (t::l):=⟨hp.1,rfl,Int.le_refl _,hp.2.2.2⟩
  have hrest:∀s∈stl n th l,byB n ⟨(lgOf n t.Leg).From,stN n t.Leg t.Day⟩ (bfB n s)=true:=fun s hs=>by
   have hsc:=(i2 s (by simp[stl,hs])).2.2.2
   obtain⟨u,hu,_,e⟩:=xz hs hsc
   rw[e]
   exact(ib hn hb k6 k4 (by omega) hp2 u (by simp[hu])).1 _ (Int.le_refl _)
  refine List.pairwise_cons.2 ⟨fun s hs=>?_,List.pairwise_cons.2 ⟨fun s hs=>?_,Bj hn hb hth hp.2.2.2⟩⟩
  ·rw[Cv hld]
   rcases List.mem_cons.1 hs with rfl|hs
   ·rw[yB hdr];exact mZ k4 (Int.le_refl _)
   ·exact hrest s hs
  ·rw[yB hdr];exact hrest s hs
theorem ye {R:Scan→Scan→Prop}:∀{l:List Scan} {a b:Scan},l.Pairwise R→a∈l→l.getLast? =some b→a=b∨R a b
 |[],_,_,_,h,_=>by cases h
 |[z],a,b,_,h,hb=>by
  simp at h hb
  subst h;exact .inl hb
 |z::y::l,a,b,hp,h,hb=>by
  obtain⟨h1,h2⟩:=List.pairwise_cons.1 hp
  rw[List.getLast?_cons_cons] at hb
  rcases List.mem_cons.1 h with rfl|h
  ·exact .inr (h1 b (List.mem_of_getLast? hb))
  ·exact ye h2 h hb
theorem vT {A:Scan} {B:Scan×Bool} {q:ByteArray} (h4:A.Kind≠4) (hB:¬isB n B now) (hA:¬isA n (A,true) now):mbC n (A,true) B now q=(byB n (bhB n A) ⟨q,now⟩&&(!B.2||byB n ⟨q,now⟩ (bfB n B.1))):=by
 unfold mbC
 rw[if_pos rfl,if_neg h4,if_neg hB,if_neg hA]
theorem vO {A:Scan} {B:Scan×Bool} {u:Trip} (h4:A.Kind≠4) (hB:¬isB n B now) (hA:¬isA n (A,true) now):mrC n (A,true) B now u=(decide (stN n u.Leg u.Day≤now)&&(decide (now<enN n u.Leg u.Day)&&(byB n (bhB n A) ⟨(lgOf n u.Leg).From,stN n u.Leg u.Day⟩&&(!B.2||byB n ⟨(lgOf n u.Leg).To,enN n u.Leg u.Day⟩ (bfB n B.1))))):=by
 unfold mrC
 rw[if_pos rfl,if_neg h4,if_neg hB,if_neg hA]
theorem yf (hn:NetOk n) (hb:netB n=true) (hth:1≤th∧th≤9999) (hx:x∈plc n) (h0:0≤w) (h1:w≤100000) {l:List Trip} (hp:gn n p x w l) {A:Scan} (hA:A∈heS th w x::stl n th l):(bhB n A).Place∈plc n∧0≤(bhB n A).At∧(bhB n A).At≤100000∧A.Kind≠4:=by
 rcases List.mem_cons.1 hA with rfl|hA
 ·rw[uO (yg hb hth hx h0 h1)]
  exact⟨hx,h0,h1,by show(1:Int)≠4;omega⟩
 ·have hsc:=((ff hn hb hth hp).2 A hA).2.2.2
  obtain⟨t,ht,h⟩:=dh hA
  obtain⟨k1,k2,k3,k4,k5,k6,k7⟩:=ba hn hp t ht
  rcases h with rfl|rfl
  ·rw[tB hsc];exact⟨k7,by show 0≤enN n t.Leg t.Day;omega,by show enN n t.Leg t.Day≤100000;omega,by show(3:Int)≠4;omega⟩
  ·rw[rh hsc];exact⟨k7,by show 0≤enN n t.Leg t.Day;omega,by show enN n t.Leg t.Day≤100000;omega,by show(2:Int)≠4;omega⟩
theorem yc (hn:NetOk n) (hb:netB n=true) (hth:1≤th∧th≤9999) {l:List Trip} (hp:gn n p x w l) {B:Scan} (hB:B∈stl n th l):(bfB n B).Place∈plc n∧0≤(bfB n B).At∧(bfB n B).At≤100000:=by
 have hsc:=((ff hn hb hth hp).2 B hB).2.2.2
 obtain⟨t,ht,_,e⟩:=xz hB hsc
 obtain⟨k1,k2,k3,k4,k5,k6,k7⟩:=ba hn hp t ht
 rw[e]
 exact⟨k6,k4,by show stN n t.Leg t.Day≤100000;omega⟩
theorem sI (hn:NetOk n) (hb:netB n=true) (hc:n.Change=0) (hth:1≤th∧th≤9999) (hx:x∈plc n) (h0:0≤w) (h1:w≤100000) {w1 m w2:List Trip} (hp:gn n p x w (w1++(m++w2))) (hw:w≤now) (hle:∀t∈w1,enN n t.Leg t.Day≤now) (hlt:∀t∈w2,now<stN n t.Leg t.Day)
 {K1 K2 Ka Kb:List Scan} (c1:Ka.Sublist K1) (c2:Kb.Sublist K2) (d1:K1.Sublist (stl n th w1)) (d2:K2.Sublist (stl n th w2)) (hS1:Seen n (heS th w x::(K1++K2)) th) (hS2:Seen n (heS th w x::(Ka++Kb)) th):
 (∀q,mbB n (heS th w x::(K1++K2)) th now q=true→mbB n (heS th w x::(Ka++Kb)) th now q=true)∧∀u,mrB n (heS th w x::(K1++K2)) th now u=true→mrB n (heS th w x::(Ka++Kb)) th now u=true:=by
 have pt:=ba hn hp
 have hP:∀s∈heS th w x::K1,s.At≤now:=fun s hs=>by
  rcases List.mem_cons.1 hs with rfl|hs
  ·exact hw
  ·obtain⟨t,ht,h⟩:=dh (d1.subset hs)
   have h2:=hle t ht
   have h3:=(pt t (by simp[ht])).2.2.1
   rcases h with rfl|rfl
   ·show stN n t.Leg t.Day≤now;omega
   ·exact h2
 have hQ:∀s∈K2,now<s.At:=fun s hs=>by
  obtain⟨t,ht,h⟩:=dh (d2.subset hs)
  have h2:=hlt t ht
  have h3:=(pt t (by simp[ht])).2.2.1
  rcases h with rfl|rfl
  ·exact h2
  ·show now<enN n t.Leg t.Day;omega
 obtain⟨l1,l2⟩:=sE (n:=n) (th:=th) hS1.cn (P:=heS th w x::K1) (Q:=K2) (by simp) hP hQ
 obtain⟨m1,m2⟩:=sE (n:=n) (th:=th) hS2.cn (P:=heS th w x::Ka) (Q:=Kb) (by simp) (fun s hs=>hP s (by
  rcases List.mem_cons.1 hs with h|h
  ·simp[h]
  ·exact List.mem_cons_of_mem _ (c1.subset h))) (fun s hs=>hQ s (c2.subset hs))
 obtain⟨A1,hA1,eA1⟩:=pP (A:=heS th w x) (K:=K1)
 obtain⟨A2,hA2,eA2⟩:=pP (A:=heS th w x) (K:=Ka)
 rw[eA1] at l1
 rw[eA2] at m1
 have way:stl n th (w1++(m++w2))=stl n th w1++(stl n th m++stl n th w2):=by rw[lv,lv]
 have hsubP:(heS th w x::K1).Sublist (heS th w x::stl n th (w1++(m++w2))):=by
  rw[way]
  exact(d1.trans (List.sublist_append_left _ _)).cons_cons _
 have hA21:A2∈heS th w x::K1:=by
  rcases List.mem_cons.1 hA2 with h|h
  ·simp[h]
  ·exact List.mem_cons_of_mem _ (c1.subset h)
 have s1:=yf hn hb hth hx h0 h1 hp (hsubP.subset hA1)
 have s2:=yf hn hb hth hx h0 h1 hp (hsubP.subset hA21)
 have hR:(heS th w x::stl n th (w1++(m++w2))).Pairwise fun s u=>byB n (bhB n s) (bhB n u)=true:=by
  refine List.pairwise_cons.2 ⟨fun s hs=>?_,Bk hn hb hth hp⟩
  rw[uO (yg hb hth hx h0 h1)]
  have hsc:=((ff hn hb hth hp).2 s hs).2.2.2
  obtain⟨u,hu,h⟩:=dh hs
  have:=(ib hn hb hx h0 h1 hp u hu).2 _ (Int.le_refl _)
  rcases h with rfl|rfl
  ·rw[tB hsc];exact this
  ·rw[rh hsc];exact this
 have hAA:byB n (bhB n A2) (bhB n A1)=true:=by
  rcases ye (hR.sublist hsubP) hA21 eA1 with e|e
  ·rw[e];exact mZ s1.2.1 (Int.le_refl _)
  ·exact e
 have noA:∀{A:Scan},A∈heS th w x::K1→¬isA n (A,true) now:=fun{A} hA h=>by
  rcases List.mem_cons.1 hA with rfl|hA
  ·have h3:(1:Int)=3:=h.1
   omega
  ·obtain⟨t,ht,e⟩:=dh (d1.subset hA)
   have h2:now<enN n A.Trip.Leg A.Trip.Day:=h.2
   have h3:=hle t ht
   rcases e with rfl|rfl
   ·have h2:now<enN n t.Leg t.Day:=h2
    omega
   ·have h2:now<enN n t.Leg t.Day:=h2
    omega
 have noB:∀{Q:List Scan},Q.Sublist K2→¬isB n (opS Q.head?) now:=fun{Q} hQ h=>by
  cases Q with
  |nil=>cases h.1
  |cons B Q=>
   obtain⟨t,ht,e⟩:=dh (d2.subset (hQ.subset (List.mem_cons_self ..)))
   have h2:stN n B.Trip.Leg B.Trip.Day≤now:=h.2.2
   have h3:=hlt t ht
   rcases e with rfl|rfl
   ·have h2:stN n t.Leg t.Day≤now:=h2
    omega
   ·have h2:stN n t.Leg t.Day≤now:=h2
    omega
 have meets:∀{q:ByteArray} {v:Int},q∈plc n→0≤v→v≤100000→(!(opS K2.head?).2||byB n ⟨q,v⟩ (bfB n (opS K2.head?).1))=true→(!(opS Kb.head?).2||byB n ⟨q,v⟩ (bfB n (opS Kb.head?).1))=true:=by
  intro q v hq v0 v1 h
  cases hKb:Kb with
  |nil=>rfl
  |cons B Q=>
   rw[hKb] at c2
   cases hK2:K2 with
   |nil=>rw[hK2] at c2;exact absurd (List.sublist_nil.1 c2) (by simp)
   |cons B1 Q1=>
    rw[hK2] at h c2 d2
    have h:byB n ⟨q,v⟩ (bfB n B1)=true:=h
    show byB n ⟨q,v⟩ (bfB n B)=true
    have hsw:(B1::Q1).Sublist (stl n th (w1++(m++w2))):=by
     rw[way]
     exact d2.trans ((List.sublist_append_right _ _).trans (List.sublist_append_right _ _))
    have hpw:=(Bj hn hb hth hp).sublist hsw
    have t1:=yc hn hb hth hp (hsw.subset (List.mem_cons_self ..))
    have hBm:B∈B1::Q1:=c2.subset (List.mem_cons_self ..)
    have t2:=yc hn hb hth hp (hsw.subset hBm)
    rcases List.mem_cons.1 hBm with e|hBm
    ·rw[e];exact h
    ·exact A3 hn hb hc hq t1.1 t2.1 v0 v1 t1.2.2 h ((List.pairwise_cons.1 hpw).1 B hBm)
 refine⟨fun q h=>?_,fun u h=>?_⟩
 ·unfold mbB at h ⊢
  rw[l1,l2,show opS (some A1)=(A1,true) from rfl,vT s1.2.2.2 (noB (List.Sublist.refl _)) (noA hA1)] at h
  rw[m1,m2,show opS (some A2)=(A2,true) from rfl,vT s2.2.2.2 (noB c2) (noA hA21)]
  simp only[Bool.and_eq_true,decide_eq_true_eq] at h ⊢
  obtain⟨hq,b1,b2⟩:=h
  refine⟨hq,A3 hn hb hc s2.1 s1.1 hq s2.2.1 s2.2.2.1 s1.2.2.1 hAA b1,?_⟩
  by_cases hn1:now≤100000
  ·exact meets hq (Ew b1) hn1 b2
  ·cases hKb:Kb with
   |nil=>rfl
   |cons B Q=>
    exfalso
    have hBm:B∈K2:=c2.subset (by rw[hKb];simp)
    obtain⟨t,ht,_⟩:=dh (d2.subset hBm)
    have:=hlt t ht
    have:=pt t (by simp[ht])
    omega
 ·unfold mrB at h ⊢
  rw[l1,l2,show opS (some A1)=(A1,true) from rfl,vO s1.2.2.2 (noB (List.Sublist.refl _)) (noA hA1)] at h
  rw[m1,m2,show opS (some A2)=(A2,true) from rfl,vO s2.2.2.2 (noB c2) (noA hA21)]
  simp only[Bool.and_eq_true] at h ⊢
  obtain⟨ht,b0,b3,b1,b2⟩:=h
  have hr:runsB n u.Leg u.Day=true:=by unfold dR at ht;simp only[Bool.and_eq_true] at ht;exact ht.2
  obtain⟨r1,r2,r3,r4⟩:=cY (n:=n) (by have:=hn.len;omega) hr
  obtain⟨q1,q2,q3,q4⟩:=jg hn r1 r2 r3 r4
  have hfm:(lgOf n u.Leg).From∈plc n:=(cw n _).2 ⟨_,jT r1 r2,.inl rfl⟩
  have hto:(lgOf n u.Leg).To∈plc n:=(cw n _).2 ⟨_,jT r1 r2,.inr rfl⟩
  exact⟨ht,b0,b3,A3 hn hb hc s2.1 s1.1 hfm s2.2.1 s2.2.2.1 s1.2.2.1 hAA b1,meets hto (by omega) (by omega) b2⟩
end
end Go.Vs
