/- Part of the proofs of this seat's laws: Vh. No condition. -/
import Init
import Derived.Shelf.GgSortMore.Stable
import Derived.Shelf.GgSortFunc.SmallK
import Derived.Test.YtolplompnmammaaGreatDoorVd
set_option linter.unusedVariables false
set_option linter.unusedSimpArgs false
set_option linter.unusedSectionVars false
namespace Go.Vs
section
variable {α:Type}
def fsw (d:Nat→α) (i j:Nat):Nat→α:=fun k=>if k=i then d j else if k=j then d i else d k
inductive Sw (a b:Nat) (d:Nat→α):(Nat→α)→Prop
 |refl:Sw a b d d
 |snoc {d':Nat→α} {i j:Nat}:Sw a b d d'→a≤i→i<b→a≤j→j<b→Sw a b d (fsw d' i j)
theorem Sw.trans {a b:Nat} {d d1 d2:Nat→α} (h:Sw a b d d1) (h2:Sw a b d1 d2):Sw a b d d2:=by
 induction h2 with
 |refl=>exact h
 |snoc _ h1 h2 h3 h4 ih=>exact ih.snoc h1 h2 h3 h4
theorem Sw.mono {a b a' b':Nat} {d d1:Nat→α} (h:Sw a b d d1) (ha:a'≤a) (hb:b≤b'):Sw a' b' d d1:=by
 induction h with
 |refl=>exact .refl
 |snoc _ h1 h2 h3 h4 ih=>exact ih.snoc (by omega) (by omega) (by omega) (by omega)
theorem Sw.out {a b:Nat} {d d1:Nat→α} (h:Sw a b d d1):∀k,k<a∨b≤k→d1 k=d k:=by
 induction h with
 |refl=>exact fun k _=>rfl
 |snoc _ h1 h2 h3 h4 ih=>
  intro k hk
  unfold fsw
  rw[if_neg (by omega),if_neg (by omega),ih k hk]
theorem Sw.mem {a b:Nat} {d d1:Nat→α} (h:Sw a b d d1):∀k,a≤k→k<b→∃k',a≤k'∧k'<b∧d1 k=d k':=by
 induction h with
 |refl=>exact fun k h1 h2=>⟨k,h1,h2,rfl⟩
 |snoc _ h1 h2 h3 h4 ih=>
  intro k k1 k2
  unfold fsw
  split
  ·exact ih _ h3 h4
  ·split
   ·exact ih _ h1 h2
   ·exact ih k k1 k2
theorem AJ (d:Nat→α) {n i j:Nat} (hi:i<n) (hj:j<n):((List.range n).map (fsw d i j)).Perm ((List.range n).map d):=by
 have e:fsw d i j=d∘(fun k=>if k=i then j else if k=j then i else k):=by
  funext k
  unfold fsw
  simp only[Function.comp]
  split
  ·rfl
  ·split<;>rfl
 rw[e,←List.map_map]
 refine List.Perm.map d ?_
 have inj:∀x y:Nat,(if x=i then j else if x=j then i else x)=(if y=i then j else if y=j then i else y)→x=y:=by
  intro x y h
  split at h<;>split at h<;>(try split at h)<;>(try split at h)<;>omega
 have nd:((List.range n).map fun k=>if k=i then j else if k=j then i else k).Nodup:=by
  unfold List.Nodup
  rw[List.pairwise_map]
  exact List.Pairwise.imp (fun{x y} hxy h=>hxy (inj x y h)) (List.nodup_range (n:=n))
 rw[List.perm_iff_count]
 intro x
 rw[nd.count,(List.nodup_range (n:=n)).count]
 congr 1
 simp only[List.mem_map,List.mem_range,eq_iff_iff]
 constructor
 ·rintro⟨y,hy,rfl⟩
  split
  ·exact hj
  ·split<;>omega
 ·intro hx
  by_cases h1:x=i
  ·exact⟨j,hj,by split<;>(try split)<;>omega⟩
  ·by_cases h2:x=j
   ·exact⟨i,hi,by rw[if_pos rfl,h2]⟩
   ·exact⟨x,hx,by rw[if_neg h1,if_neg h2]⟩
theorem Sw.perm {a b n:Nat} {d d1:Nat→α} (h:Sw a b d d1) (hb:b≤n):((List.range n).map d1).Perm ((List.range n).map d):=by
 induction h with
 |refl=>exact List.Perm.refl _
 |snoc _ h1 h2 h3 h4 ih=>exact(AJ _ (by omega) (by omega)).trans ih
def exF (d:Nat→α) (a b n:Nat):Nat→α:=fun k=>if a≤k∧k<a+n then d (k+(b-a)) else if b≤k∧k<b+n then d (k-(b-a)) else d k
theorem uT (d:Nat→α) (a b:Nat):exF d a b 0=d:=by
 funext k;unfold exF;rw[if_neg (by omega),if_neg (by omega)]
theorem vF (d:Nat→α) {a b n:Nat} (h:a+(n+1)≤b):exF d a b (n+1)=fsw (exF d a b n) (a+n) (b+n):=by
 funext k
 unfold fsw exF
 by_cases h1:k=a+n
 ·subst h1
  rw[if_pos (by omega),if_pos rfl,if_neg (by omega),if_neg (by omega)]
  congr 1;omega
 ·rw[if_neg h1]
  by_cases h2:k=b+n
  ·subst h2
   rw[if_neg (by omega),if_pos (by omega),if_pos rfl,if_neg (by omega),if_neg (by omega)]
   congr 1;omega
  ·rw[if_neg h2]
   by_cases h3:a≤k∧k<a+n
   ·rw[if_pos (by omega),if_pos h3]
   ·rw[if_neg (by omega),if_neg h3]
    by_cases h4:b≤k∧k<b+n
    ·rw[if_pos (by omega),if_pos h4]
    ·rw[if_neg (by omega),if_neg h4]
theorem tH (d:Nat→α) {a b:Nat}:∀{n:Nat},a+n≤b→Sw a (b+n) d (exF d a b n)
 |0,_=>by rw[uT];exact .refl
 |n+1,h=>by
  rw[vF d h]
  exact((tH d (n:=n) (by omega)).mono (Nat.le_refl _) (by omega)).snoc (by omega) (by omega) (by omega) (by omega)
def az (d:Nat→α) (a m b:Nat):Nat→α:=fun k=>if a≤k∧k<b then(if k<a+(b-m) then d (k+(m-a)) else d (k-(b-m))) else d k
theorem bv (d:Nat→α) {m b:Nat}:az d m m b=d:=by
 funext k;unfold az;split
 ·split
  ·congr 1;omega
  ·omega
 ·rfl
theorem bg (d:Nat→α) {a m:Nat}:az d a m m=d:=by
 funext k;unfold az;split
 ·split
  ·omega
  ·congr 1;omega
 ·rfl
theorem Eh (d:Nat→α) {m i j:Nat} (hi:i≤m) (h:j<i):az (exF d (m-i) m j) (m-(i-j)) m (m+j)=az d (m-i) m (m+j):=by
 funext k
 unfold az exF
 repeat' split
 all_goals first|rfl|(exfalso;omega)|(congr 1;omega)
theorem Ez (d:Nat→α) {m i j:Nat} (hi:i≤m) (h:i<j):az (exF d (m-i) (m+j-i) i) (m-i) m (m+(j-i))=az d (m-i) m (m+j):=by
 funext k
 unfold az exF
 repeat' split
 all_goals first|rfl|(exfalso;omega)|(congr 1;omega)
theorem Bs (d:Nat→α) {m i:Nat} (hi:i≤m):exF d (m-i) m i=az d (m-i) m (m+i):=by
 funext k
 unfold az exF
 repeat' split
 all_goals first|rfl|(exfalso;omega)|(congr 1;omega)
theorem AB (d:Nat→α) {a e:Nat} (h:a+1≤e) (x:Nat):az d a (a+1) e x=if a≤x∧x+1<e then d (x+1) else if x+1=e then d a else d x:=by
 unfold az
 by_cases h1:a≤x∧x+1<e
 ·rw[if_pos (by omega),if_pos (by omega),if_pos h1];congr 1;omega
 ·rw[if_neg h1]
  by_cases h2:x+1=e
  ·rw[if_pos (by omega),if_neg (by omega),if_pos h2];congr 1;omega
  ·rw[if_neg (by omega),if_neg h2]
theorem wV (d:Nat→α) {k m:Nat} (h:k≤m) (x:Nat):az d k m (m+1) x=if x=k then d m else if k<x∧x≤m then d (x-1) else d x:=by
 unfold az
 by_cases h1:x=k
 ·rw[if_pos (by omega),if_pos (by omega),if_pos h1];congr 1;omega
 ·rw[if_neg h1]
  by_cases h2:k<x∧x≤m
  ·rw[if_pos (by omega),if_neg (by omega),if_pos h2];congr 1;omega
  ·rw[if_neg (by omega),if_neg h2]
theorem Bz (d:Nat→α) {a k:Nat} (h:a≤k):fsw (az d a (a+1) (k+1)) k (k+1)=az d a (a+1) (k+2):=by
 funext x
 unfold fsw
 rw[AB d (by omega),AB d (by omega),AB d (by omega),AB d (by omega)]
 by_cases h1:x=k
 ·subst h1
  rw[if_pos rfl,if_neg (by omega),if_neg (by omega),if_pos (by omega)]
 ·rw[if_neg h1]
  by_cases h2:x=k+1
  ·subst h2
   rw[if_pos rfl,if_neg (by omega),if_pos rfl,if_neg (by omega),if_pos rfl]
  ·rw[if_neg h2]
   by_cases h3:a≤x∧x+1<k+1
   ·rw[if_pos h3,if_pos (by omega)]
   ·rw[if_neg h3,if_neg (by omega),if_neg (by omega),if_neg (by omega)]
theorem rc (d:Nat→α) {k m:Nat} (h:0<k) (h2:k≤m):fsw (az d k m (m+1)) k (k-1)=az d (k-1) m (m+1):=by
 funext x
 unfold fsw
 rw[wV d h2,wV d h2,wV d h2,wV d (show k-1≤m by omega)]
 by_cases h1:x=k
 ·subst h1
  rw[if_pos rfl,if_neg (by omega),if_neg (by omega),if_neg (by omega),if_pos (by omega)]
 ·rw[if_neg h1]
  by_cases h3:x=k-1
  ·subst h3
   rw[if_pos rfl,if_pos rfl,if_pos rfl]
  ·rw[if_neg h3,if_neg h1,if_neg h3]
   by_cases h4:k<x∧x≤m
   ·rw[if_pos h4,if_pos (by omega)]
   ·rw[if_neg h4,if_neg (by omega)]
theorem wo (d:Nat→α) {a:Nat}:∀{n:Nat},Sw a (a+n+1) d (az d a (a+1) (a+n+1))
 |0=>by rw[show a+0+1=a+1 from rfl,bg];exact .refl
 |n+1=>by
  have:=Bz d (a:=a) (k:=a+n) (by omega)
  rw[show a+(n+1)+1=a+n+2 by omega,←this]
  exact((wo d (a:=a) (n:=n)).mono (Nat.le_refl _) (by omega)).snoc (by omega) (by omega) (by omega) (by omega)
theorem mz (d:Nat→α) {m:Nat}:∀{n:Nat},n≤m→Sw (m-n) (m+1) d (az d (m-n) m (m+1))
 |0,_=>by rw[Nat.sub_zero,bv];exact .refl
 |n+1,h=>by
  have:=rc d (k:=m-n) (m:=m) (by omega) (by omega)
  rw[show m-(n+1)=m-n-1 by omega,←this]
  exact((mz d (m:=m) (n:=n) (by omega)).mono (by omega) (Nat.le_refl _)).snoc (by omega) (by omega) (by omega) (by omega)
structure Swo (lt:α→α→Bool):Prop where
 asym:∀x y,lt x y=true→lt y x=false
 trans:∀x y z,lt y x=false→lt z y=false→lt z x=false
def SOn (lt:α→α→Bool) (d:Nat→α) (a b:Nat):Prop:=∀i j,a≤i→i<j→j<b→lt (d j) (d i)=false
theorem SOn.join {lt:α→α→Bool} {d:Nat→α} {a m b:Nat} (h1:SOn lt d a m) (h2:SOn lt d m b) (h:∀i j,a≤i→i<m→m≤j→j<b→lt (d j) (d i)=false):SOn lt d a b:=by
 intro i j g1 g2 g3
 rcases Nat.lt_or_ge j m with hj|hj
 ·exact h1 i j g1 g2 hj
 ·rcases Nat.lt_or_ge i m with hi|hi
  ·exact h i j g1 hi hj g3
  ·exact h2 i j hi g2 g3
theorem SOn.refl {lt:α→α→Bool} (h:Swo lt) (x:α):lt x x=false:=by
 cases hx:lt x x with
 |false=>rfl
 |true=>rw[h.asym x x hx] at hx;cases hx
theorem SOn.le {lt:α→α→Bool} (h:Swo lt) {d:Nat→α} {a b:Nat} (hs:SOn lt d a b) {i j:Nat} (h1:a≤i) (h2:i≤j) (h3:j<b):lt (d j) (d i)=false:=by
 rcases Nat.lt_or_eq_of_le h2 with h4|h4
 ·exact hs i j h1 h4 h3
 ·subst h4;exact SOn.refl h _
theorem SOn.congr {lt:α→α→Bool} {d d':Nat→α} {a b:Nat} (hs:SOn lt d a b) (h:∀k,a≤k→k<b→d' k=d k):SOn lt d' a b:=fun i j h1 h2 h3=>by
 rw[h i h1 (by omega),h j (by omega) h3];exact hs i j h1 h2 h3
end
end Go.Vs
namespace Go.Vs
section
variable {α:Type} {lt:α→α→Bool}
theorem gT {d:Nat→α} {a m b k:Nat} (h:k<a∨b≤k):az d a m b k=d k:=by unfold az;rw[if_neg (by omega)]
theorem tv {d:Nat→α} {a m b k:Nat} (h1:a≤k) (h2:k<a+(b-m)) (h3:a≤m):az d a m b k=d (k+(m-a)):=by
 unfold az;rw[if_pos (by omega),if_pos h2]
theorem pG {d:Nat→α} {a m b k:Nat} (h1:a+(b-m)≤k) (h2:k<b):az d a m b k=d (k-(b-m)):=by
 unfold az;rw[if_pos (by omega),if_neg (by omega)]
theorem Swo.le_lt (h:Swo lt) {x y z:α} (h1:lt y x=false) (h2:lt y z=true):lt x z=true:=by
 cases h3:lt x z with
 |true=>rfl
 |false=>
  have:=h.trans z x y h3 h1
  rw[h2] at this;cases this
theorem Swo.lt_le (h:Swo lt) {x y z:α} (h1:lt x y=true) (h2:lt z y=false):lt x z=true:=by
 cases h3:lt x z with
 |true=>rfl
 |false=>
  have:=h.trans y z x h2 h3
  rw[h1] at this;cases this
theorem BA (h:Swo lt) {d:Nat→α} {a i b:Nat} (h1:a+1≤i) (h2:i≤b) (lo:∀k,a+1≤k→k<i→lt (d k) (d a)=true) (hi:∀k,i≤k→k<b→lt (d k) (d a)=false) (hs:SOn lt d (a+1) b):SOn lt (az d a (a+1) i) a b:=by
 intro x y g1 g2 g3
 rw[AB d h1,AB d h1]
 by_cases x1:a≤x∧x+1<i
 ·rw[if_pos x1]
  by_cases y1:a≤y∧y+1<i
  ·rw[if_pos y1];exact hs _ _ (by omega) (by omega) (by omega)
  ·rw[if_neg y1]
   by_cases y2:y+1=i
   ·rw[if_pos y2];exact h.asym _ _ (lo _ (by omega) (by omega))
   ·rw[if_neg y2];exact hs _ _ (by omega) (by omega) (by omega)
 ·rw[if_neg x1]
  by_cases x2:x+1=i
  ·rw[if_pos x2,if_neg (by omega),if_neg (by omega)];exact hi _ (by omega) g3
  ·rw[if_neg x2,if_neg (by omega),if_neg (by omega)];exact hs _ _ (by omega) g2 g3
theorem tm (h:Swo lt) {d:Nat→α} {a i m:Nat} (h1:a≤i) (h2:i≤m) (lo:∀k,a≤k→k<i→lt (d m) (d k)=false) (hi:∀k,i≤k→k<m→lt (d m) (d k)=true) (hs:SOn lt d a m):SOn lt (az d i m (m+1)) a (m+1):=by
 intro x y g1 g2 g3
 rw[wV d h2,wV d h2]
 by_cases x1:x=i
 ·rw[if_pos x1,if_neg (by omega),if_pos (by omega)];exact h.asym _ _ (hi _ (by omega) (by omega))
 ·rw[if_neg x1]
  by_cases x2:i<x∧x≤m
  ·rw[if_pos x2,if_neg (by omega),if_pos (by omega)];exact hs _ _ (by omega) (by omega) (by omega)
  ·rw[if_neg x2]
   by_cases y1:y=i
   ·rw[if_pos y1];exact lo _ g1 (by omega)
   ·rw[if_neg y1]
    by_cases y2:i<y∧y≤m
    ·rw[if_pos y2];exact SOn.le h hs g1 (by omega) (by omega)
    ·rw[if_neg y2];exact hs _ _ g1 g2 (by omega)
structure Cut (lt:α→α→Bool) (d:Nat→α) (a s m e b:Nat):Prop where
 aS:a≤s
 sm:s≤m
 me:m≤e
 eb:e≤b
 x:∀i j,a≤i→i<s→e≤j→j<b→lt (d j) (d i)=false
 y:∀i j,m≤i→i<e→s≤j→j<m→lt (d j) (d i)=false
theorem Cut.parts {d:Nat→α} {a s m e b:Nat} (c:Cut lt d a s m e b) (h1:SOn lt d a m) (h2:SOn lt d m b):
 SOn lt (az d s m e) a s∧SOn lt (az d s m e) s (s+(e-m))∧SOn lt (az d s m e) (s+(e-m)) e∧SOn lt (az d s m e) e b∧
 ∀i j,a≤i→i<s+(e-m)→s+(e-m)≤j→j<b→lt (az d s m e j) (az d s m e i)=false:=by
 obtain⟨c1,c2,c3,c4,cx,cy⟩:=c
 refine⟨fun i j g1 g2 g3=>?_,fun i j g1 g2 g3=>?_,fun i j g1 g2 g3=>?_,fun i j g1 g2 g3=>?_,fun i j g1 g2 g3 g4=>?_⟩
 ·rw[gT (by omega),gT (by omega)];exact h1 _ _ g1 g2 (by omega)
 ·rw[tv (by omega) (by omega) c2,tv g1 (by omega) c2];exact h2 _ _ (by omega) (by omega) (by omega)
 ·rw[pG (by omega) g3,pG g1 (by omega)];exact h1 _ _ (by omega) (by omega) (by omega)
 ·rw[gT (by omega),gT (by omega)];exact h2 _ _ (by omega) g2 g3
 ·rcases Nat.lt_or_ge i s with hi|hi
  ·rw[gT (k:=i) (by omega)]
   rcases Nat.lt_or_ge j e with hj|hj
   ·rw[pG g3 hj];exact h1 _ _ g1 (by omega) (by omega)
   ·rw[gT (by omega)];exact cx _ _ g1 hi hj g4
  ·rw[tv (k:=i) hi g2 c2]
   rcases Nat.lt_or_ge j e with hj|hj
   ·rw[pG g3 hj];exact cy _ _ (by omega) (by omega) (by omega) (by omega)
   ·rw[gT (by omega)];exact h2 _ _ (by omega) (by omega) g4
theorem sG (h:Swo lt) {d:Nat→α} {a m b s s0 r0:Nat} (ha:a<m) (hb:m<b) (h1:SOn lt d a m) (h2:SOn lt d m b)
 (hr:(m>(a+b)/2∧s0=(a+b)/2+m-b∧r0=(a+b)/2)∨(m≤(a+b)/2∧s0=a∧r0=m)) (g1:s0≤s) (g2:s≤r0)
 (lo:s0<s→lt (d ((a+b)/2+m-1-(s-1))) (d (s-1))=false) (hi:s<r0→lt (d ((a+b)/2+m-1-s)) (d s)=true):
 Cut lt d a s m ((a+b)/2+m-s) b:=by
 refine⟨by omega,by omega,by omega,by omega,fun i j i1 i2 j1 j2=>?_,fun i j i1 i2 j1 j2=>?_⟩
 ·have hs:s0<s:=by omega
  have h3:=lo hs
  have e1:(a+b)/2+m-1-(s-1)=(a+b)/2+m-s:=by omega
  rw[e1] at h3
  have q1:=SOn.le h h1 (i:=i) (j:=s-1) i1 (by omega) (by omega)
  have q2:=SOn.le h h2 (i:=(a+b)/2+m-s) (j:=j) (by omega) j1 j2
  exact h.trans _ _ _ (h.trans _ _ _ q1 h3) q2
 ·have hs:s<r0:=by omega
  have h3:=hi hs
  have q1:=SOn.le h h2 (i:=i) (j:=(a+b)/2+m-1-s) i1 (by omega) (by omega)
  have q2:=SOn.le h h1 (i:=s) (j:=j) (by omega) j1 (by omega)
  exact h.trans _ _ _ (h.trans _ _ _ q1 (h.asym _ _ h3)) q2
theorem cN {d1 d2 d3:Nat→α} {a mid b:Nat} (hab:∀i j,a≤i→i<mid→mid≤j→j<b→lt (d1 j) (d1 i)=false)
 (w1:Sw a mid d1 d2) (s1:SOn lt d2 a mid) (w2:Sw mid b d2 d3) (s2:SOn lt d3 mid b):SOn lt d3 a b:=by
 refine SOn.join (m:=mid) (s1.congr fun k _ h2=>w2.out k (.inl h2)) s2 fun i j g1 g2 g3 g4=>?_
 rw[w2.out i (.inl g2)]
 obtain⟨j',j1,j2,e1⟩:=w2.mem j g3 g4
 obtain⟨i',i1,i2,e2⟩:=w1.mem i g1 g2
 rw[e1,e2,w1.out j' (.inr j1)]
 exact hab i' j' i1 i2 j1 j2
end
end Go.Vs
namespace Go.Vs
open Go Go.Proofs Go.Shelf Go.RowKit Go.Lib Go.Sort
variable {P:Program} {ρ:Ren} {α:Type}
def Kp (blk:Nat) (w w':World):Prop:=w.heap.size≤w'.heap.size∧∀b k v,b≠blk→b<w.heap.size→w.cell? ⟨b,k,none⟩=some v→w'.cell? ⟨b,k,none⟩=some v
theorem Kp.refl (blk:Nat) (w:World):Kp blk w w:=⟨Nat.le_refl _,fun _ _ _ _ _ h=>h⟩
theorem Kp.trans {blk:Nat} {w w1 w2:World} (h:Kp blk w w1) (h2:Kp blk w1 w2):Kp blk w w2:=
 ⟨Nat.le_trans h.1 h2.1,fun b k v h3 h4 h5=>h2.2 b k v h3 (Nat.lt_of_lt_of_le h4 h.1) (h.2 b k v h3 h4 h5)⟩
theorem Kp.drew (blk:Nat) (w:World) (q:Nat):Kp blk w (w.drewN q):=⟨Nat.le_refl _,fun _ _ _ _ _ h=>h⟩
theorem Kp.alloc (blk:Nat) (w:World) (o:Obj):Kp blk w (w.alloc o):=by
 rw[alloc_eq_grow]
 refine⟨by simp[grow],fun b k v _ h2 h3=>?_⟩
 rw[cell?_grow _ _ _ h2];exact h3
structure Sv (P:Program) (lt:α→α→Bool) (g:Nat) (lb:Array Value) (sf:Nat) (sb:Array Value) (blk n:Nat) (Q:(Nat→α)→World→Prop):Prop where
 eg:∀args w,(callFunc g args).run P w=.ok (.enter g args) w
 less:∀d w (i j:Nat),Q d w→i<n→j<n→Calls P g (#[.int .i64 i,.int .i64 j]++lb) w fun e w'=>e=.returned (.bool (lt (d i) (d j)))∧Q d w'∧Kp blk w w'
 swap:∀d w (i j:Nat),Q d w→i<n→j<n→∃w',(callFunc sf (#[.int .i64 i,.int .i64 j]++sb)).run P w=.ok (.value (.tuple #[])) w'∧Q (fsw d i j) w'∧Kp blk w w'
 drew:∀d w q,Q d w→Q d (w.drewN q)
 alloc:∀d w o,Q d w→Q d (w.alloc o)
 lt:∀d w,Q d w→blk<w.heap.size
set_option maxHeartbeats 2000000 in
set_option maxRecDepth 100000 in
theorem Dp {lt:α→α→Bool} {g:Nat} {lb:Array Value} {sf:Nat} {sb:Array Value} {blk N:Nat} {Q:(Nat→α)→World→Prop} (L:LaysGt.n49 P ρ) (S:Sv P lt g lb sf sb blk N Q)
 (a b n:Nat) (d:Nat→α) (w:World) (hQ:Q d w) (hab:a+n≤b) (hb:b+n≤N) (hN:N<4611686018427387904):
 Calls P (ρ.f 49) #[.agg #[.func (.func g) #[] lb,.func (.func sf) #[] sb],.int .i64 a,.int .i64 b,.int .i64 n] w fun e w'=>e=.returned (.tuple #[])∧Q (exF d a b n) w'∧Kp blk w w':=by
 have mixed:=L.mixed;have t0:=L.t0;have a0:=L.a0;have z0:=L.z0;have v0:=L.v0;have t3:=L.t3;have a3:=L.a3;have z3:=L.z3;have v3:=L.v3;have t4:=L.t4;have a4:=L.a4;have z4:=L.z4;have v4:=L.v4;have t26:=L.t26;have a26:=L.a26;have z26:=L.z26;have v26:=L.v26;have t38:=L.t38;have a38:=L.a38;have z38:=L.z38;have v38:=L.v38;have t42:=L.t42;have a42:=L.a42;have z42:=L.z42;have v42:=L.v42
 have u42:=run_underlying L.t42
 have hlt:=S.lt d w hQ
 go_enter L.f49,BodyGt.n49_ntmps ρ
 go_wp2
 go_loopw [8] (fun vi wr=>∃(i:Nat),vi=.int .i64 i∧i≤n∧Q (exF d a b i) wr∧Kp blk (w.alloc (.cells #[.func (.func g) #[] lb,.func (.func sf) #[] sb] (ρ.t 42))) wr) (fun vi _=>n-(Proofs.intOf vi).toNat)
 case atStart=>exact⟨0,by go_num,by omega,by rw[uT];exact S.alloc _ _ _ hQ,Kp.refl _ _⟩
 case round=>
  obtain⟨i,rfl,hi,hq,hk⟩:=hrel
  have c1:wr.cell? ⟨w.heap.size,1,none⟩=some (.func (.func sf) #[] sb):=hk.2 _ _ _ (by omega) (by simp) (by simp)
  go_wp2
  ·have hin:i<n:=by assumption
   obtain⟨w',e1,q1,k1⟩:=S.swap (exF d a b i) wr (a+i) (b+i) hq (by omega) (by omega)
   rw[show(((a+i:Nat)):Int)=(a:Int)+i by omega,show(((b+i:Nat)):Int)=(b:Int)+i by omega] at e1
   rw[e1,Oper.upon_value]
   go_wp2
   go_roundw
   case rel=>
    exact⟨i+1,by congr 1,by omega,by rw[vF d (by omega)];exact q1,hk.trans k1⟩
   case measure=>simp[Proofs.intOf];omega
  ·have hin:¬i<n:=by assumption
   go_end0
   obtain rfl:i=n:=by omega
   exact⟨rfl,hq,(Kp.alloc _ _ _).trans hk⟩
end Go.Vs
namespace Go.Vs
open Go Go.Proofs Go.Shelf Go.RowKit Go.Lib Go.Sort
variable {P:Program} {ρ:Ren} {α:Type}
set_option maxHeartbeats 2000000 in
set_option maxRecDepth 100000 in
theorem wt {lt:α→α→Bool} {g:Nat} {lb:Array Value} {sf:Nat} {sb:Array Value} {blk N:Nat} {Q:(Nat→α)→World→Prop} (L:LaysGt.n42 P ρ) (S:Sv P lt g lb sf sb blk N Q)
 (a m b:Nat) (d:Nat→α) (w:World) (hQ:Q d w) (ham:a<m) (hmb:m<b) (hb:b≤N) (hN:N<4611686018427387904):
 Calls P (ρ.f 42) #[.agg #[.func (.func g) #[] lb,.func (.func sf) #[] sb],.int .i64 a,.int .i64 m,.int .i64 b] w fun e w'=>e=.returned (.tuple #[])∧Q (az d a m b) w'∧Sw a b d (az d a m b)∧Kp blk w w':=by
 have mixed:=L.mixed;have t0:=L.t0;have a0:=L.a0;have z0:=L.z0;have v0:=L.v0;have t3:=L.t3;have a3:=L.a3;have z3:=L.z3;have v3:=L.v3;have t4:=L.t4;have a4:=L.a4;have z4:=L.z4;have v4:=L.v4;have t26:=L.t26;have a26:=L.a26;have z26:=L.z26;have v26:=L.v26;have t38:=L.t38;have a38:=L.a38;have z38:=L.z38;have v38:=L.v38;have t42:=L.t42;have a42:=L.a42;have z42:=L.z42;have v42:=L.v42
 have u42:=run_underlying L.t42
 have hlt:=S.lt d w hQ
 have L49:LaysGt.n49 P ρ:={L with}
 have e49:∀args w,(callFunc (ρ.f 49) args).run P w=.ok (.enter (ρ.f 49) args) w:=enters_of L.f49 (by kernel_rfl) rfl
 have hSR:∀(a b n:Nat) (d:Nat→α) (w:World),Q d w→a+n≤b→b+n≤N→Calls P (ρ.f 49) #[.agg #[.func (.func g) #[] lb,.func (.func sf) #[] sb],.int .i64 a,.int .i64 b,.int .i64 n] w fun e w'=>e=.returned (.tuple #[])∧Q (exF d a b n) w'∧Kp blk w w':=
  fun a b n d w h1 h2 h3=>Dp L49 S a b n d w h1 h2 h3 hN
 clear L49
 go_enter L.f42,BodyGt.n42_ntmps ρ
 go_wp2
 go_loopw [8,9] (fun vi vj wr=>∃(i j:Nat) (d1:Nat→α),vi=.int .i64 i∧vj=.int .i64 j∧0<i∧0<j∧i≤m-a∧j≤b-m∧Q d1 wr∧Kp blk (w.alloc (.cells #[.func (.func g) #[] lb,.func (.func sf) #[] sb] (ρ.t 42))) wr∧
  az d1 (m-i) m (m+j)=az d a m b∧Sw a b d d1) (fun vi vj _=>(Proofs.intOf vi).toNat+(Proofs.intOf vj).toNat)
 case atStart=>exact⟨m-a,b-m,d,by congr 1;omega,by congr 1;omega,by omega,by omega,by omega,by omega,S.alloc _ _ _ hQ,Kp.refl _ _,by rw[show m-(m-a)=a by omega,show m+(b-m)=b by omega],.refl⟩
 case round=>
  obtain⟨i,j,d1,rfl,rfl,i0,j0,i1,j1,hq,hk,hr,hs⟩:=hrel
  have c0:wr.cell? ⟨w.heap.size,0,none⟩=some (.func (.func g) #[] lb):=hk.2 _ _ _ (by omega) (by simp) (by simp)
  have c1:wr.cell? ⟨w.heap.size,1,none⟩=some (.func (.func sf) #[] sb):=hk.2 _ _ _ (by omega) (by simp) (by simp)
  rcases Nat.lt_trichotomy i j with hij|hij|hij
  ·have hc:=hSR (m-i) (m+j-i) i d1 wr hq (by omega) (by omega)
   rw[show(((m-i:Nat)):Int)=(m:Int)-i by omega,show(((m+j-i:Nat)):Int)=(m:Int)+j-i by omega] at hc
   go_wp2_with (go_at_fn (ρ.f 49);refine hc.mono ?_;rintro e w' ⟨rfl,q1,k1⟩)
   refine⟨⟨i,j-i,_,rfl,by congr 1;omega,i0,by omega,i1,by omega,q1,hk.trans k1,(Ez d1 (by omega) hij).trans hr,hs.trans ((tH d1 (by omega)).mono (by omega) (by omega))⟩,?_⟩
   simp[Proofs.intOf];omega
  ·subst hij
   have hc:=hSR (m-i) m i d1 wr hq (by omega) (by omega)
   rw[show(((m-i:Nat)):Int)=(m:Int)-i by omega] at hc
   go_wp2_with (go_at_fn (ρ.f 49);refine hc.mono ?_;rintro e w' ⟨rfl,q1,k1⟩)
   go_end0
   rw[Bs d1 (by omega),hr] at q1
   have hs2:=hs.trans ((tH d1 (a:=m-i) (b:=m) (n:=i) (by omega)).mono (a':=a) (b':=b) (by omega) (by omega))
   rw[Bs d1 (by omega),hr] at hs2
   exact⟨rfl,q1,hs2,((Kp.alloc _ _ _).trans hk).trans k1⟩
  ·have hc:=hSR (m-i) m j d1 wr hq (by omega) (by omega)
   rw[show(((m-i:Nat)):Int)=(m:Int)-i by omega] at hc
   go_wp2_with (go_at_fn (ρ.f 49);refine hc.mono ?_;rintro e w' ⟨rfl,q1,k1⟩)
   refine⟨⟨i-j,j,_,by congr 1;omega,rfl,by omega,j0,by omega,j1,q1,hk.trans k1,(Eh d1 (by omega) hij).trans hr,hs.trans ((tH d1 (by omega)).mono (by omega) (by omega))⟩,?_⟩
   simp[Proofs.intOf];omega
end Go.Vs
namespace Go.Vs
open Go Go.Proofs Go.Shelf Go.RowKit Go.Lib Go.Sort
variable {P:Program} {ρ:Ren} {α:Type}
set_option maxHeartbeats 4000000 in
set_option maxRecDepth 100000 in
theorem Bh {lt:α→α→Bool} {g:Nat} {lb:Array Value} {sf:Nat} {sb:Array Value} {blk N:Nat} {Q:(Nat→α)→World→Prop} (L:LaysGt.n30 P ρ) (S:Sv P lt g lb sf sb blk N Q) (O:Swo lt)
 (a m b:Nat) (d:Nat→α) (w:World) (hQ:Q d w) (hm:m≤a+1) (hm2:a<m) (hmb:m<b) (hb:b≤N) (hN:N<4611686018427387904) (hs:SOn lt d m b):
 Calls P (ρ.f 30) #[.agg #[.func (.func g) #[] lb,.func (.func sf) #[] sb],.int .i64 a,.int .i64 m,.int .i64 b] w fun e w'=>e=.returned (.tuple #[])∧(∃d',Q d' w'∧Sw a b d d'∧SOn lt d' a b)∧Kp blk w w':=by
 have mixed:=L.mixed;have t0:=L.t0;have a0:=L.a0;have z0:=L.z0;have v0:=L.v0;have t3:=L.t3;have a3:=L.a3;have z3:=L.z3;have v3:=L.v3;have t4:=L.t4;have a4:=L.a4;have z4:=L.z4;have v4:=L.v4;have t26:=L.t26;have a26:=L.a26;have z26:=L.z26;have v26:=L.v26;have t38:=L.t38;have a38:=L.a38;have z38:=L.z38;have v38:=L.v38;have t42:=L.t42;have a42:=L.a42;have z42:=L.z42;have v42:=L.v42;have t47:=L.t47;have a47:=L.a47;have z47:=L.z47;have v47:=L.v47
 have u42:=run_underlying L.t42
 have hlt:=S.lt d w hQ
 have eg:=S.eg
 go_enter L.f30,BodyGt.n30_ntmps ρ
 have em:(((m:Int)-(a:Int))==1)=true:=by rw[beq_iff_eq];omega
 go_wp2
 go_loopw [8,9] (fun vi vj wr=>∃(i j:Nat),vi=.int .i64 i∧vj=.int .i64 j∧m≤i∧i≤j∧j≤b∧Q d wr∧Kp blk (w.alloc (.cells #[.func (.func g) #[] lb,.func (.func sf) #[] sb] (ρ.t 42))) wr∧
  (∀k,m≤k→k<i→lt (d k) (d a)=true)∧(∀k,j≤k→k<b→lt (d k) (d a)=false)) (fun vi vj _=>(Proofs.intOf vj).toNat-(Proofs.intOf vi).toNat)
 case atStart=>exact⟨m,b,rfl,rfl,by omega,by omega,by omega,S.alloc _ _ _ hQ,Kp.refl _ _,fun k h1 h2=>absurd h1 (by omega),fun k h1 h2=>absurd h1 (by omega)⟩
 case round=>
  obtain⟨i,j,rfl,rfl,i1,ij,j1,hq,hk,lo,hi⟩:=hrel
  have c0:wr.cell? ⟨w.heap.size,0,none⟩=some (.func (.func g) #[] lb):=hk.2 _ _ _ (by omega) (by simp) (by simp)
  have c1:wr.cell? ⟨w.heap.size,1,none⟩=some (.func (.func sf) #[] sb):=hk.2 _ _ _ (by omega) (by simp) (by simp)
  by_cases hij:i<j
  ·have hl:=S.less d wr ((i+j)/2) a hq (by omega) (by omega)
   rw[show((((i+j)/2:Nat)):Int)=((i:Int)+j)/2 by omega] at hl
   cases hv:lt (d ((i+j)/2)) (d a) with
   |true=>
    rw[hv] at hl
    go_wp2_with (go_at_fn g;refine hl.mono ?_;rintro e w' ⟨rfl,q1,k1⟩)
    go_roundw
    case rel=>
     exact⟨(i+j)/2+1,j,by congr 1,rfl,by omega,by omega,j1,q1,hk.trans k1,fun k h1 h2=>O.le_lt (SOn.le O hs h1 (by omega) (by omega)) hv,hi⟩
    case measure=>simp[Proofs.intOf];omega
   |false=>
    rw[hv] at hl
    go_wp2_with (go_at_fn g;refine hl.mono ?_;rintro e w' ⟨rfl,q1,k1⟩)
    go_roundw
    case rel=>
     exact⟨i,(i+j)/2,rfl,by congr 1,i1,by omega,by omega,q1,hk.trans k1,lo,fun k h1 h2=>O.trans _ _ _ hv (SOn.le O hs (by omega) h1 h2)⟩
    case measure=>simp[Proofs.intOf];omega
  ·obtain rfl:i=j:=by omega
   go_wp2
   go_loopw [11] (fun vk wr2=>∃(k:Nat),vk=.int .i64 k∧a≤k∧k≤i-1∧Q (az d a (a+1) (k+1)) wr2∧Kp blk (w.alloc (.cells #[.func (.func g) #[] lb,.func (.func sf) #[] sb] (ρ.t 42))) wr2) (fun vk _=>i-1-(Proofs.intOf vk).toNat)
   case atStart=>exact⟨a,rfl,by omega,by omega,by rw[bg];exact hq,hk⟩
   case round=>
    obtain⟨k,rfl,k1,k2,hq2,hk2⟩:=hrel
    have c1':wr.cell? ⟨w.heap.size,1,none⟩=some (.func (.func sf) #[] sb):=hk2.2 _ _ _ (by omega) (by simp) (by simp)
    by_cases hki:k<i-1
    ·obtain⟨w',e1,q1,kk1⟩:=S.swap (az d a (a+1) (k+1)) wr k (k+1) hq2 (by omega) (by omega)
     rw[show(((k+1:Nat)):Int)=(k:Int)+1 by omega] at e1
     go_wp2
     refine⟨⟨k+1,by congr 1,by omega,by omega,by rw[show k+1+1=k+2 from rfl,←Bz d k1];exact q1,hk2.trans kk1⟩,?_⟩
     simp[Proofs.intOf];omega
    ·go_wp2
     refine bodyPost_ret (results_none rfl _ _ _) rfl ?_
     obtain rfl:i=k+1:=by omega
     obtain rfl:m=a+1:=by omega
     refine⟨rfl,⟨_,hq2,?_,BA O (by omega) (by omega) lo hi hs⟩,(Kp.alloc _ _ _).trans hk2⟩
     have hh:=wo d (a:=a) (n:=k-a)
     rw[show a+(k-a)+1=k+1 by omega] at hh
     exact hh.mono (Nat.le_refl _) (by omega)
set_option maxHeartbeats 4000000 in
set_option maxRecDepth 100000 in
theorem ze {lt:α→α→Bool} {g:Nat} {lb:Array Value} {sf:Nat} {sb:Array Value} {blk N:Nat} {Q:(Nat→α)→World→Prop} (L:LaysGt.n30 P ρ) (S:Sv P lt g lb sf sb blk N Q) (O:Swo lt)
 (a m b:Nat) (d:Nat→α) (w:World) (hQ:Q d w) (hm:a+1<m) (hmb:m<b) (hb2:b≤m+1) (hb:b≤N) (hN:N<4611686018427387904) (hs:SOn lt d a m):
 Calls P (ρ.f 30) #[.agg #[.func (.func g) #[] lb,.func (.func sf) #[] sb],.int .i64 a,.int .i64 m,.int .i64 b] w fun e w'=>e=.returned (.tuple #[])∧(∃d',Q d' w'∧Sw a b d d'∧SOn lt d' a b)∧Kp blk w w':=by
 have mixed:=L.mixed;have t0:=L.t0;have a0:=L.a0;have z0:=L.z0;have v0:=L.v0;have t3:=L.t3;have a3:=L.a3;have z3:=L.z3;have v3:=L.v3;have t4:=L.t4;have a4:=L.a4;have z4:=L.z4;have v4:=L.v4;have t26:=L.t26;have a26:=L.a26;have z26:=L.z26;have v26:=L.v26;have t38:=L.t38;have a38:=L.a38;have z38:=L.z38;have v38:=L.v38;have t42:=L.t42;have a42:=L.a42;have z42:=L.z42;have v42:=L.v42;have t47:=L.t47;have a47:=L.a47;have z47:=L.z47;have v47:=L.v47
 have u42:=run_underlying L.t42
 have hlt:=S.lt d w hQ
 have eg:=S.eg
 have em:(((m:Int)-(a:Int))==1)=false:=by rw[beq_eq_false_iff_ne];omega
 have em2:(((b:Int)-(m:Int))==1)=true:=by rw[beq_iff_eq];omega
 go_enter L.f30,BodyGt.n30_ntmps ρ
 go_wp2
 go_loopw [12,13] (fun vi vj wr=>∃(i j:Nat),vi=.int .i64 i∧vj=.int .i64 j∧a≤i∧i≤j∧j≤m∧Q d wr∧Kp blk (w.alloc (.cells #[.func (.func g) #[] lb,.func (.func sf) #[] sb] (ρ.t 42))) wr∧
  (∀k,a≤k→k<i→lt (d m) (d k)=false)∧(∀k,j≤k→k<m→lt (d m) (d k)=true)) (fun vi vj _=>(Proofs.intOf vj).toNat-(Proofs.intOf vi).toNat)
 case atStart=>exact⟨a,m,rfl,rfl,by omega,by omega,by omega,S.alloc _ _ _ hQ,Kp.refl _ _,fun k h1 h2=>absurd h1 (by omega),fun k h1 h2=>absurd h1 (by omega)⟩
 case round=>
  obtain⟨i,j,rfl,rfl,i1,ij,j1,hq,hk,lo,hi⟩:=hrel
  have c0:wr.cell? ⟨w.heap.size,0,none⟩=some (.func (.func g) #[] lb):=hk.2 _ _ _ (by omega) (by simp) (by simp)
  have c1:wr.cell? ⟨w.heap.size,1,none⟩=some (.func (.func sf) #[] sb):=hk.2 _ _ _ (by omega) (by simp) (by simp)
  by_cases hij:i<j
  ·have hl:=S.less d wr m ((i+j)/2) hq (by omega) (by omega)
   rw[show((((i+j)/2:Nat)):Int)=((i:Int)+j)/2 by omega] at hl
   cases hv:lt (d m) (d ((i+j)/2)) with
   |true=>
    rw[hv] at hl
    go_wp2_with (go_at_fn g;refine hl.mono ?_;rintro e w' ⟨rfl,q1,k1⟩)
    go_roundw
    case rel=>
     exact⟨i,(i+j)/2,rfl,by congr 1,i1,by omega,by omega,q1,hk.trans k1,lo,fun k h1 h2=>O.lt_le hv (SOn.le O hs (by omega) h1 h2)⟩
    case measure=>simp[Proofs.intOf];omega
   |false=>
    rw[hv] at hl
    go_wp2_with (go_at_fn g;refine hl.mono ?_;rintro e w' ⟨rfl,q1,k1⟩)
    go_roundw
    case rel=>
     exact⟨(i+j)/2+1,j,by congr 1,rfl,by omega,by omega,j1,q1,hk.trans k1,fun k h1 h2=>O.trans _ _ _ (SOn.le O hs h1 (by omega) (by omega)) hv,hi⟩
    case measure=>simp[Proofs.intOf];omega
  ·obtain rfl:i=j:=by omega
   go_wp2
   go_loopw [15] (fun vk wr2=>∃(k:Nat),vk=.int .i64 k∧i≤k∧k≤m∧Q (az d k m (m+1)) wr2∧Kp blk (w.alloc (.cells #[.func (.func g) #[] lb,.func (.func sf) #[] sb] (ρ.t 42))) wr2) (fun vk _=>(Proofs.intOf vk).toNat)
   case atStart=>exact⟨m,rfl,by omega,by omega,by rw[bv];exact hq,hk⟩
   case round=>
    obtain⟨k,rfl,k1,k2,hq2,hk2⟩:=hrel
    have c1':wr.cell? ⟨w.heap.size,1,none⟩=some (.func (.func sf) #[] sb):=hk2.2 _ _ _ (by omega) (by simp) (by simp)
    by_cases hki:i<k
    ·obtain⟨w',e1,q1,kk1⟩:=S.swap (az d k m (m+1)) wr k (k-1) hq2 (by omega) (by omega)
     rw[show(((k-1:Nat)):Int)=(k:Int)-1 by omega] at e1
     go_wp2
     refine⟨⟨k-1,by congr 1;omega,by omega,by omega,by rw[←rc d (by omega) k2];exact q1,hk2.trans kk1⟩,?_⟩
     simp[Proofs.intOf];omega
    ·go_wp2
     refine bodyPost_ret (results_none rfl _ _ _) rfl ?_
     obtain rfl:i=k:=by omega
     obtain rfl:b=m+1:=by omega
     refine⟨rfl,⟨_,hq2,?_,tm O i1 (by omega) lo hi hs⟩,(Kp.alloc _ _ _).trans hk2⟩
     have hh:=mz d (m:=m) (n:=m-i) (by omega)
     rw[show m-(m-i)=i by omega] at hh
     exact hh.mono i1 (Nat.le_refl _)
end Go.Vs
namespace Go.Vs
open Go Go.Proofs Go.Shelf Go.RowKit Go.Lib Go.Sort
variable {P:Program} {ρ:Ren} {α:Type}
set_option maxHeartbeats 8000000 in
set_option maxRecDepth 100000 in
theorem D8 {lt:α→α→Bool} {g:Nat} {lb:Array Value} {sf:Nat} {sb:Array Value} {blk N:Nat} {Q:(Nat→α)→World→Prop} (L:LaysGt.n30 P ρ) (S:Sv P lt g lb sf sb blk N Q) (O:Swo lt)
 (a m b:Nat) (d:Nat→α) (w:World) (hQ:Q d w) (ham:a+1<m) (hmb:m+1<b) (hb:b≤N) (hN:N<4611686018427387904) (hs1:SOn lt d a m) (hs2:SOn lt d m b) (hmm:(a+b)/2<m)
 (IH:∀(a' m' b':Nat) (d:Nat→α) (w:World),b'-a'<b-a→b'≤N→Q d w→a'<m'→m'<b'→SOn lt d a' m'→SOn lt d m' b'→Calls P (ρ.f 30) #[.agg #[.func (.func g) #[] lb,.func (.func sf) #[] sb],.int .i64 a',.int .i64 m',.int .i64 b'] w fun e w'=>e=.returned (.tuple #[])∧(∃d',Q d' w'∧Sw a' b' d d'∧SOn lt d' a' b')∧Kp blk w w'):
 Calls P (ρ.f 30) #[.agg #[.func (.func g) #[] lb,.func (.func sf) #[] sb],.int .i64 a,.int .i64 m,.int .i64 b] w fun e w'=>e=.returned (.tuple #[])∧(∃d',Q d' w'∧Sw a b d d'∧SOn lt d' a b)∧Kp blk w w':=by
 have mixed:=L.mixed;have t0:=L.t0;have a0:=L.a0;have z0:=L.z0;have v0:=L.v0;have t3:=L.t3;have a3:=L.a3;have z3:=L.z3;have v3:=L.v3;have t4:=L.t4;have a4:=L.a4;have z4:=L.z4;have v4:=L.v4;have t26:=L.t26;have a26:=L.a26;have z26:=L.z26;have v26:=L.v26;have t38:=L.t38;have a38:=L.a38;have z38:=L.z38;have v38:=L.v38;have t42:=L.t42;have a42:=L.a42;have z42:=L.z42;have v42:=L.v42;have t47:=L.t47;have a47:=L.a47;have z47:=L.z47;have v47:=L.v47
 have u42:=run_underlying L.t42
 have hlt:=S.lt d w hQ
 have eg:=S.eg
 have L42:LaysGt.n42 P ρ:={L with}
 have e42:∀args w,(callFunc (ρ.f 42) args).run P w=.ok (.enter (ρ.f 42) args) w:=enters_of L.f42 (by kernel_rfl) rfl
 have e30:∀args w,(callFunc (ρ.f 30) args).run P w=.ok (.enter (ρ.f 30) args) w:=enters_of L.f30 (by kernel_rfl) rfl
 have hRT:∀(a m b:Nat) (d:Nat→α) (w:World),Q d w→a<m→m<b→b≤N→Calls P (ρ.f 42) #[.agg #[.func (.func g) #[] lb,.func (.func sf) #[] sb],.int .i64 a,.int .i64 m,.int .i64 b] w fun e w'=>e=.returned (.tuple #[])∧Q (az d a m b) w'∧Sw a b d (az d a m b)∧Kp blk w w':=
  fun a m b d w h1 h2 h3 h4=>wt L42 S a m b d w h1 h2 h3 h4 hN
 clear L42
 have em:(((m:Int)-(a:Int))==1)=false:=by rw[beq_eq_false_iff_ne];omega
 have em2:(((b:Int)-(m:Int))==1)=false:=by rw[beq_eq_false_iff_ne];omega
 have hmi:((a:Int)+(b:Int))/2<(m:Int):=by omega
 go_enter L.f30,BodyGt.n30_ntmps ρ
 go_wp2
 go_loopw [18,19] (fun vi vj wr=>∃(i j:Nat),vi=.int .i64 i∧vj=.int .i64 j∧(a+b)/2+m-b≤i∧i≤j∧j≤(a+b)/2∧Q d wr∧Kp blk (w.alloc (.cells #[.func (.func g) #[] lb,.func (.func sf) #[] sb] (ρ.t 42))) wr∧
  ((a+b)/2+m-b<i→lt (d ((a+b)/2+m-1-(i-1))) (d (i-1))=false)∧(j<(a+b)/2→lt (d ((a+b)/2+m-1-j)) (d j)=true)) (fun vi vj _=>(Proofs.intOf vj).toNat-(Proofs.intOf vi).toNat)
 case atStart=>exact⟨(a+b)/2+m-b,(a+b)/2,by first|rfl|(congr 1;omega),by first|rfl|(congr 1;omega),by omega,by omega,by omega,S.alloc _ _ _ hQ,Kp.refl _ _,fun h=>absurd h (by omega),fun h=>absurd h (by omega)⟩
 case round=>
  obtain⟨i,j,rfl,rfl,i1,ij,j1,hq,hk,lo,hi⟩:=hrel
  have c0:wr.cell? ⟨w.heap.size,0,none⟩=some (.func (.func g) #[] lb):=hk.2 _ _ _ (by omega) (by simp) (by simp)
  have c1:wr.cell? ⟨w.heap.size,1,none⟩=some (.func (.func sf) #[] sb):=hk.2 _ _ _ (by omega) (by simp) (by simp)
  by_cases hij:i<j
  ·have hl:=S.less d wr ((a+b)/2+m-1-(i+j)/2) ((i+j)/2) hq (by omega) (by omega)
   cases hv:lt (d ((a+b)/2+m-1-(i+j)/2)) (d ((i+j)/2)) with
   |true=>
    rw[hv,show((((a+b)/2+m-1-(i+j)/2:Nat)):Int)=((a:Int)+b)/2+m-1-((i:Int)+j)/2 by omega,show((((i+j)/2:Nat)):Int)=((i:Int)+j)/2 by omega] at hl
    go_wp2_with (go_at_fn g;refine hl.mono ?_;rintro e w' ⟨rfl,q1,k1⟩)
    go_roundw
    case rel=>
     exact⟨i,(i+j)/2,rfl,by congr 1,i1,by omega,by omega,q1,hk.trans k1,lo,fun _=>hv⟩
    case measure=>simp[Proofs.intOf];omega
   |false=>
    rw[hv,show((((a+b)/2+m-1-(i+j)/2:Nat)):Int)=((a:Int)+b)/2+m-1-((i:Int)+j)/2 by omega,show((((i+j)/2:Nat)):Int)=((i:Int)+j)/2 by omega] at hl
    go_wp2_with (go_at_fn g;refine hl.mono ?_;rintro e w' ⟨rfl,q1,k1⟩)
    go_roundw
    case rel=>
     exact⟨(i+j)/2+1,j,by congr 1,rfl,by omega,by omega,j1,q1,hk.trans k1,fun _=>hv,hi⟩
    case measure=>simp[Proofs.intOf];omega
  ·obtain rfl:i=j:=by omega
   have C:=sG O (s:=i) (by omega) (by omega) hs1 hs2 (.inl ⟨hmm,rfl,rfl⟩) i1 j1 lo hi
   obtain⟨p1,p2,p3,p4,p5⟩:=C.parts hs1 hs2
   have hme:=C.me
   have heb:=C.eb
   have hsm:=C.sm
   have has:=C.aS
   have emid:i+((a+b)/2+m-i-m)=(a+b)/2:=by omega
   rw[emid] at p2 p3 p5
   have ce:(((a+b)/2+m-i:Nat):Int)=((a:Int)+b)/2+m-i:=by omega
   have cm:(((a+b)/2:Nat):Int)=((a:Int)+b)/2:=by omega
   by_cases h1:i<m∧m<(a+b)/2+m-i
   ·skip
    by_cases h2:a<i∧i<(a+b)/2
    ·skip
     by_cases h3:(a+b)/2<(a+b)/2+m-i∧(a+b)/2+m-i<b
     ·skip
      first
      |(exfalso;omega)
      |(have hc:=hRT i m ((a+b)/2+m-i) d wr hq h1.1 h1.2 (by omega)
        rw[ce] at hc
        go_wp2_with (go_at_fn (ρ.f 42);refine hc.mono ?_;rintro e w1 ⟨rfl,q1,sw1,k1⟩;have cc0:=(hk.trans k1).2 w.heap.size 0 (.func (.func g) #[] lb) (by omega) (by simp) (by simp);have cc1:=(hk.trans k1).2 w.heap.size 1 (.func (.func sf) #[] sb) (by omega) (by simp) (by simp))
        have kk1:=(hk.trans k1)
        have hc:=IH a i ((a+b)/2) _ w1 (by omega) (by omega) q1 h2.1 h2.2 p1 p2
        rw[cm] at hc
        go_wp2_with (go_at_fn (ρ.f 30);refine hc.mono ?_;rintro e w2 ⟨rfl,⟨d2,q2,sw2,s2⟩,k2⟩;have cc0:=(kk1.trans k2).2 w.heap.size 0 (.func (.func g) #[] lb) (by omega) (by simp) (by simp);have cc1:=(kk1.trans k2).2 w.heap.size 1 (.func (.func sf) #[] sb) (by omega) (by simp) (by simp))
        have kk2:=kk1.trans k2
        have p3b:SOn lt d2 ((a+b)/2) ((a+b)/2+m-i):=p3.congr fun k h _=>sw2.out k (.inr h)
        have p4b:SOn lt d2 ((a+b)/2+m-i) b:=p4.congr fun k h _=>sw2.out k (.inr (by omega))
        have hc:=IH ((a+b)/2) ((a+b)/2+m-i) b _ w2 (by omega) (by omega) q2 h3.1 h3.2 p3b p4b
        rw[cm,ce] at hc
        go_wp2_with (go_at_fn (ρ.f 30);refine hc.mono ?_;rintro e w3 ⟨rfl,⟨d3,q3,sw3,s3⟩,k3⟩)
        have kk3:=kk2.trans k3
        go_end0
        exact⟨rfl,⟨_,q3,((sw1.mono (by omega) (by omega)).trans (sw2.mono (Nat.le_refl _) (by omega))).trans (sw3.mono (by omega) (Nat.le_refl _)),cN p5 sw2 s2 sw3 s3⟩,(Kp.alloc _ _ _).trans kk3⟩)
     ·skip
      first
      |(exfalso;omega)
      |(have hc:=hRT i m ((a+b)/2+m-i) d wr hq h1.1 h1.2 (by omega)
        rw[ce] at hc
        go_wp2_with (go_at_fn (ρ.f 42);refine hc.mono ?_;rintro e w1 ⟨rfl,q1,sw1,k1⟩;have cc0:=(hk.trans k1).2 w.heap.size 0 (.func (.func g) #[] lb) (by omega) (by simp) (by simp);have cc1:=(hk.trans k1).2 w.heap.size 1 (.func (.func sf) #[] sb) (by omega) (by simp) (by simp))
        have kk1:=(hk.trans k1)
        have hc:=IH a i ((a+b)/2) _ w1 (by omega) (by omega) q1 h2.1 h2.2 p1 p2
        rw[cm] at hc
        go_wp2_with (go_at_fn (ρ.f 30);refine hc.mono ?_;rintro e w2 ⟨rfl,⟨d2,q2,sw2,s2⟩,k2⟩;have cc0:=(kk1.trans k2).2 w.heap.size 0 (.func (.func g) #[] lb) (by omega) (by simp) (by simp);have cc1:=(kk1.trans k2).2 w.heap.size 1 (.func (.func sf) #[] sb) (by omega) (by simp) (by simp))
        have kk2:=kk1.trans k2
        have p3b:SOn lt d2 ((a+b)/2) ((a+b)/2+m-i):=p3.congr fun k h _=>sw2.out k (.inr h)
        have p4b:SOn lt d2 ((a+b)/2+m-i) b:=p4.congr fun k h _=>sw2.out k (.inr (by omega))
        have q3:=q2
        have sw3:Sw ((a+b)/2) b d2 d2:=.refl
        have s3:SOn lt d2 ((a+b)/2) b:=by
         rcases Nat.lt_or_eq_of_le heb with g|g
         ·exact fun x y g1 g2 g3=>p4b x y (by omega) g2 g3
         ·exact fun x y g1 g2 g3=>p3b x y g1 g2 (by omega)
        have kk3:=kk2
        go_wp2
        go_end0
        exact⟨rfl,⟨_,q3,((sw1.mono (by omega) (by omega)).trans (sw2.mono (Nat.le_refl _) (by omega))).trans (sw3.mono (by omega) (Nat.le_refl _)),cN p5 sw2 s2 sw3 s3⟩,(Kp.alloc _ _ _).trans kk3⟩)
    ·skip
     by_cases h3:(a+b)/2<(a+b)/2+m-i∧(a+b)/2+m-i<b
     ·skip
      first
      |(exfalso;omega)
      |(have hc:=hRT i m ((a+b)/2+m-i) d wr hq h1.1 h1.2 (by omega)
        rw[ce] at hc
        go_wp2_with (go_at_fn (ρ.f 42);refine hc.mono ?_;rintro e w1 ⟨rfl,q1,sw1,k1⟩;have cc0:=(hk.trans k1).2 w.heap.size 0 (.func (.func g) #[] lb) (by omega) (by simp) (by simp);have cc1:=(hk.trans k1).2 w.heap.size 1 (.func (.func sf) #[] sb) (by omega) (by simp) (by simp))
        have kk1:=(hk.trans k1)
        have q2:=q1
        have sw2:Sw a ((a+b)/2) (az d i m ((a+b)/2+m-i)) (az d i m ((a+b)/2+m-i)):=.refl
        have s2:SOn lt (az d i m ((a+b)/2+m-i)) a ((a+b)/2):=by
         rcases Nat.lt_or_eq_of_le has with g|g
         ·exact fun x y g1 g2 g3=>p1 x y g1 g2 (by omega)
         ·exact fun x y g1 g2 g3=>p2 x y (by omega) g2 g3
        have kk2:=kk1
        have p3b:SOn lt (az d i m ((a+b)/2+m-i)) ((a+b)/2) ((a+b)/2+m-i):=p3.congr fun k h _=>sw2.out k (.inr h)
        have p4b:SOn lt (az d i m ((a+b)/2+m-i)) ((a+b)/2+m-i) b:=p4.congr fun k h _=>sw2.out k (.inr (by omega))
        have hc:=IH ((a+b)/2) ((a+b)/2+m-i) b _ w1 (by omega) (by omega) q2 h3.1 h3.2 p3b p4b
        rw[cm,ce] at hc
        go_wp2_with (go_at_fn (ρ.f 30);refine hc.mono ?_;rintro e w3 ⟨rfl,⟨d3,q3,sw3,s3⟩,k3⟩)
        have kk3:=kk2.trans k3
        go_end0
        exact⟨rfl,⟨_,q3,((sw1.mono (by omega) (by omega)).trans (sw2.mono (Nat.le_refl _) (by omega))).trans (sw3.mono (by omega) (Nat.le_refl _)),cN p5 sw2 s2 sw3 s3⟩,(Kp.alloc _ _ _).trans kk3⟩)
     ·skip
      first
      |(exfalso;omega)
      |(have hc:=hRT i m ((a+b)/2+m-i) d wr hq h1.1 h1.2 (by omega)
        rw[ce] at hc
        go_wp2_with (go_at_fn (ρ.f 42);refine hc.mono ?_;rintro e w1 ⟨rfl,q1,sw1,k1⟩;have cc0:=(hk.trans k1).2 w.heap.size 0 (.func (.func g) #[] lb) (by omega) (by simp) (by simp);have cc1:=(hk.trans k1).2 w.heap.size 1 (.func (.func sf) #[] sb) (by omega) (by simp) (by simp))
        have kk1:=(hk.trans k1)
        have q2:=q1
        have sw2:Sw a ((a+b)/2) (az d i m ((a+b)/2+m-i)) (az d i m ((a+b)/2+m-i)):=.refl
        have s2:SOn lt (az d i m ((a+b)/2+m-i)) a ((a+b)/2):=by
         rcases Nat.lt_or_eq_of_le has with g|g
         ·exact fun x y g1 g2 g3=>p1 x y g1 g2 (by omega)
         ·exact fun x y g1 g2 g3=>p2 x y (by omega) g2 g3
        have kk2:=kk1
        have p3b:SOn lt (az d i m ((a+b)/2+m-i)) ((a+b)/2) ((a+b)/2+m-i):=p3.congr fun k h _=>sw2.out k (.inr h)
        have p4b:SOn lt (az d i m ((a+b)/2+m-i)) ((a+b)/2+m-i) b:=p4.congr fun k h _=>sw2.out k (.inr (by omega))
        have q3:=q2
        have sw3:Sw ((a+b)/2) b (az d i m ((a+b)/2+m-i)) (az d i m ((a+b)/2+m-i)):=.refl
        have s3:SOn lt (az d i m ((a+b)/2+m-i)) ((a+b)/2) b:=by
         rcases Nat.lt_or_eq_of_le heb with g|g
         ·exact fun x y g1 g2 g3=>p4b x y (by omega) g2 g3
         ·exact fun x y g1 g2 g3=>p3b x y g1 g2 (by omega)
        have kk3:=kk2
        go_wp2
        go_end0
        exact⟨rfl,⟨_,q3,((sw1.mono (by omega) (by omega)).trans (sw2.mono (Nat.le_refl _) (by omega))).trans (sw3.mono (by omega) (Nat.le_refl _)),cN p5 sw2 s2 sw3 s3⟩,(Kp.alloc _ _ _).trans kk3⟩)
   ·skip
    by_cases h2:a<i∧i<(a+b)/2
    ·skip
     by_cases h3:(a+b)/2<(a+b)/2+m-i∧(a+b)/2+m-i<b
     ·skip
      first
      |(exfalso;omega)
      |(have q1:Q (az d i m ((a+b)/2+m-i)) wr:=by
         rcases Nat.lt_or_eq_of_le hsm with g|g
         ·rw[show(a+b)/2+m-i=m by omega,bg];exact hq
         ·subst g;rw[bv];exact hq
        have sw1:Sw i ((a+b)/2+m-i) d (az d i m ((a+b)/2+m-i)):=by
         rcases Nat.lt_or_eq_of_le hsm with g|g
         ·rw[show(a+b)/2+m-i=m by omega,bg];exact .refl
         ·subst g;rw[bv];exact .refl
        have kk1:=hk
        have hc:=IH a i ((a+b)/2) _ wr (by omega) (by omega) q1 h2.1 h2.2 p1 p2
        rw[cm] at hc
        go_wp2_with (go_at_fn (ρ.f 30);refine hc.mono ?_;rintro e w2 ⟨rfl,⟨d2,q2,sw2,s2⟩,k2⟩;have cc0:=(kk1.trans k2).2 w.heap.size 0 (.func (.func g) #[] lb) (by omega) (by simp) (by simp);have cc1:=(kk1.trans k2).2 w.heap.size 1 (.func (.func sf) #[] sb) (by omega) (by simp) (by simp))
        have kk2:=kk1.trans k2
        have p3b:SOn lt d2 ((a+b)/2) ((a+b)/2+m-i):=p3.congr fun k h _=>sw2.out k (.inr h)
        have p4b:SOn lt d2 ((a+b)/2+m-i) b:=p4.congr fun k h _=>sw2.out k (.inr (by omega))
        have hc:=IH ((a+b)/2) ((a+b)/2+m-i) b _ w2 (by omega) (by omega) q2 h3.1 h3.2 p3b p4b
        rw[cm,ce] at hc
        go_wp2_with (go_at_fn (ρ.f 30);refine hc.mono ?_;rintro e w3 ⟨rfl,⟨d3,q3,sw3,s3⟩,k3⟩)
        have kk3:=kk2.trans k3
        go_end0
        exact⟨rfl,⟨_,q3,((sw1.mono (by omega) (by omega)).trans (sw2.mono (Nat.le_refl _) (by omega))).trans (sw3.mono (by omega) (Nat.le_refl _)),cN p5 sw2 s2 sw3 s3⟩,(Kp.alloc _ _ _).trans kk3⟩)
     ·skip
      first
      |(exfalso;omega)
      |(have q1:Q (az d i m ((a+b)/2+m-i)) wr:=by
         rcases Nat.lt_or_eq_of_le hsm with g|g
         ·rw[show(a+b)/2+m-i=m by omega,bg];exact hq
         ·subst g;rw[bv];exact hq
        have sw1:Sw i ((a+b)/2+m-i) d (az d i m ((a+b)/2+m-i)):=by
         rcases Nat.lt_or_eq_of_le hsm with g|g
         ·rw[show(a+b)/2+m-i=m by omega,bg];exact .refl
         ·subst g;rw[bv];exact .refl
        have kk1:=hk
        have hc:=IH a i ((a+b)/2) _ wr (by omega) (by omega) q1 h2.1 h2.2 p1 p2
        rw[cm] at hc
        go_wp2_with (go_at_fn (ρ.f 30);refine hc.mono ?_;rintro e w2 ⟨rfl,⟨d2,q2,sw2,s2⟩,k2⟩;have cc0:=(kk1.trans k2).2 w.heap.size 0 (.func (.func g) #[] lb) (by omega) (by simp) (by simp);have cc1:=(kk1.trans k2).2 w.heap.size 1 (.func (.func sf) #[] sb) (by omega) (by simp) (by simp))
        have kk2:=kk1.trans k2
        have p3b:SOn lt d2 ((a+b)/2) ((a+b)/2+m-i):=p3.congr fun k h _=>sw2.out k (.inr h)
        have p4b:SOn lt d2 ((a+b)/2+m-i) b:=p4.congr fun k h _=>sw2.out k (.inr (by omega))
        have q3:=q2
        have sw3:Sw ((a+b)/2) b d2 d2:=.refl
        have s3:SOn lt d2 ((a+b)/2) b:=by
         rcases Nat.lt_or_eq_of_le heb with g|g
         ·exact fun x y g1 g2 g3=>p4b x y (by omega) g2 g3
         ·exact fun x y g1 g2 g3=>p3b x y g1 g2 (by omega)
        have kk3:=kk2
        go_wp2
        go_end0
        exact⟨rfl,⟨_,q3,((sw1.mono (by omega) (by omega)).trans (sw2.mono (Nat.le_refl _) (by omega))).trans (sw3.mono (by omega) (Nat.le_refl _)),cN p5 sw2 s2 sw3 s3⟩,(Kp.alloc _ _ _).trans kk3⟩)
    ·skip
     by_cases h3:(a+b)/2<(a+b)/2+m-i∧(a+b)/2+m-i<b
     ·skip
      first
      |(exfalso;omega)
      |(have q1:Q (az d i m ((a+b)/2+m-i)) wr:=by
         rcases Nat.lt_or_eq_of_le hsm with g|g
         ·rw[show(a+b)/2+m-i=m by omega,bg];exact hq
         ·subst g;rw[bv];exact hq
        have sw1:Sw i ((a+b)/2+m-i) d (az d i m ((a+b)/2+m-i)):=by
         rcases Nat.lt_or_eq_of_le hsm with g|g
         ·rw[show(a+b)/2+m-i=m by omega,bg];exact .refl
         ·subst g;rw[bv];exact .refl
        have kk1:=hk
        have q2:=q1
        have sw2:Sw a ((a+b)/2) (az d i m ((a+b)/2+m-i)) (az d i m ((a+b)/2+m-i)):=.refl
        have s2:SOn lt (az d i m ((a+b)/2+m-i)) a ((a+b)/2):=by
         rcases Nat.lt_or_eq_of_le has with g|g
         ·exact fun x y g1 g2 g3=>p1 x y g1 g2 (by omega)
         ·exact fun x y g1 g2 g3=>p2 x y (by omega) g2 g3
        have kk2:=kk1
        have p3b:SOn lt (az d i m ((a+b)/2+m-i)) ((a+b)/2) ((a+b)/2+m-i):=p3.congr fun k h _=>sw2.out k (.inr h)
        have p4b:SOn lt (az d i m ((a+b)/2+m-i)) ((a+b)/2+m-i) b:=p4.congr fun k h _=>sw2.out k (.inr (by omega))
        have hc:=IH ((a+b)/2) ((a+b)/2+m-i) b _ wr (by omega) (by omega) q2 h3.1 h3.2 p3b p4b
        rw[cm,ce] at hc
        go_wp2_with (go_at_fn (ρ.f 30);refine hc.mono ?_;rintro e w3 ⟨rfl,⟨d3,q3,sw3,s3⟩,k3⟩)
        have kk3:=kk2.trans k3
        go_end0
        exact⟨rfl,⟨_,q3,((sw1.mono (by omega) (by omega)).trans (sw2.mono (Nat.le_refl _) (by omega))).trans (sw3.mono (by omega) (Nat.le_refl _)),cN p5 sw2 s2 sw3 s3⟩,(Kp.alloc _ _ _).trans kk3⟩)
     ·skip
      first
      |(exfalso;omega)
      |(have q1:Q (az d i m ((a+b)/2+m-i)) wr:=by
         rcases Nat.lt_or_eq_of_le hsm with g|g
         ·rw[show(a+b)/2+m-i=m by omega,bg];exact hq
         ·subst g;rw[bv];exact hq
        have sw1:Sw i ((a+b)/2+m-i) d (az d i m ((a+b)/2+m-i)):=by
         rcases Nat.lt_or_eq_of_le hsm with g|g
         ·rw[show(a+b)/2+m-i=m by omega,bg];exact .refl
         ·subst g;rw[bv];exact .refl
        have kk1:=hk
        have q2:=q1
        have sw2:Sw a ((a+b)/2) (az d i m ((a+b)/2+m-i)) (az d i m ((a+b)/2+m-i)):=.refl
        have s2:SOn lt (az d i m ((a+b)/2+m-i)) a ((a+b)/2):=by
         rcases Nat.lt_or_eq_of_le has with g|g
         ·exact fun x y g1 g2 g3=>p1 x y g1 g2 (by omega)
         ·exact fun x y g1 g2 g3=>p2 x y (by omega) g2 g3
        have kk2:=kk1
        have p3b:SOn lt (az d i m ((a+b)/2+m-i)) ((a+b)/2) ((a+b)/2+m-i):=p3.congr fun k h _=>sw2.out k (.inr h)
        have p4b:SOn lt (az d i m ((a+b)/2+m-i)) ((a+b)/2+m-i) b:=p4.congr fun k h _=>sw2.out k (.inr (by omega))
        have q3:=q2
        have sw3:Sw ((a+b)/2) b (az d i m ((a+b)/2+m-i)) (az d i m ((a+b)/2+m-i)):=.refl
        have s3:SOn lt (az d i m ((a+b)/2+m-i)) ((a+b)/2) b:=by
         rcases Nat.lt_or_eq_of_le heb with g|g
         ·exact fun x y g1 g2 g3=>p4b x y (by omega) g2 g3
         ·exact fun x y g1 g2 g3=>p3b x y g1 g2 (by omega)
        have kk3:=kk2
        go_wp2
        go_end0
        exact⟨rfl,⟨_,q3,((sw1.mono (by omega) (by omega)).trans (sw2.mono (Nat.le_refl _) (by omega))).trans (sw3.mono (by omega) (Nat.le_refl _)),cN p5 sw2 s2 sw3 s3⟩,(Kp.alloc _ _ _).trans kk3⟩)
end Go.Vs
namespace Go.Vs
open Go Go.Proofs Go.Shelf Go.RowKit Go.Lib Go.Sort
variable {P:Program} {ρ:Ren} {α:Type}
set_option maxHeartbeats 8000000 in
set_option maxRecDepth 100000 in
theorem D6 {lt:α→α→Bool} {g:Nat} {lb:Array Value} {sf:Nat} {sb:Array Value} {blk N:Nat} {Q:(Nat→α)→World→Prop} (L:LaysGt.n30 P ρ) (S:Sv P lt g lb sf sb blk N Q) (O:Swo lt)
 (a m b:Nat) (d:Nat→α) (w:World) (hQ:Q d w) (ham:a+1<m) (hmb:m+1<b) (hb:b≤N) (hN:N<4611686018427387904) (hs1:SOn lt d a m) (hs2:SOn lt d m b) (hmm:m≤(a+b)/2)
 (IH:∀(a' m' b':Nat) (d:Nat→α) (w:World),b'-a'<b-a→b'≤N→Q d w→a'<m'→m'<b'→SOn lt d a' m'→SOn lt d m' b'→Calls P (ρ.f 30) #[.agg #[.func (.func g) #[] lb,.func (.func sf) #[] sb],.int .i64 a',.int .i64 m',.int .i64 b'] w fun e w'=>e=.returned (.tuple #[])∧(∃d',Q d' w'∧Sw a' b' d d'∧SOn lt d' a' b')∧Kp blk w w'):
 Calls P (ρ.f 30) #[.agg #[.func (.func g) #[] lb,.func (.func sf) #[] sb],.int .i64 a,.int .i64 m,.int .i64 b] w fun e w'=>e=.returned (.tuple #[])∧(∃d',Q d' w'∧Sw a b d d'∧SOn lt d' a b)∧Kp blk w w':=by
 have mixed:=L.mixed;have t0:=L.t0;have a0:=L.a0;have z0:=L.z0;have v0:=L.v0;have t3:=L.t3;have a3:=L.a3;have z3:=L.z3;have v3:=L.v3;have t4:=L.t4;have a4:=L.a4;have z4:=L.z4;have v4:=L.v4;have t26:=L.t26;have a26:=L.a26;have z26:=L.z26;have v26:=L.v26;have t38:=L.t38;have a38:=L.a38;have z38:=L.z38;have v38:=L.v38;have t42:=L.t42;have a42:=L.a42;have z42:=L.z42;have v42:=L.v42;have t47:=L.t47;have a47:=L.a47;have z47:=L.z47;have v47:=L.v47
 have u42:=run_underlying L.t42
 have hlt:=S.lt d w hQ
 have eg:=S.eg
 have L42:LaysGt.n42 P ρ:={L with}
 have e42:∀args w,(callFunc (ρ.f 42) args).run P w=.ok (.enter (ρ.f 42) args) w:=enters_of L.f42 (by kernel_rfl) rfl
 have e30:∀args w,(callFunc (ρ.f 30) args).run P w=.ok (.enter (ρ.f 30) args) w:=enters_of L.f30 (by kernel_rfl) rfl
 have hRT:∀(a m b:Nat) (d:Nat→α) (w:World),Q d w→a<m→m<b→b≤N→Calls P (ρ.f 42) #[.agg #[.func (.func g) #[] lb,.func (.func sf) #[] sb],.int .i64 a,.int .i64 m,.int .i64 b] w fun e w'=>e=.returned (.tuple #[])∧Q (az d a m b) w'∧Sw a b d (az d a m b)∧Kp blk w w':=
  fun a m b d w h1 h2 h3 h4=>wt L42 S a m b d w h1 h2 h3 h4 hN
 clear L42
 have em:(((m:Int)-(a:Int))==1)=false:=by rw[beq_eq_false_iff_ne];omega
 have em2:(((b:Int)-(m:Int))==1)=false:=by rw[beq_eq_false_iff_ne];omega
 have hmi:¬(((a:Int)+(b:Int))/2<(m:Int)):=by omega
 go_enter L.f30,BodyGt.n30_ntmps ρ
 go_wp2
 go_loopw [18,19] (fun vi vj wr=>∃(i j:Nat),vi=.int .i64 i∧vj=.int .i64 j∧a≤i∧i≤j∧j≤m∧Q d wr∧Kp blk (w.alloc (.cells #[.func (.func g) #[] lb,.func (.func sf) #[] sb] (ρ.t 42))) wr∧
  (a<i→lt (d ((a+b)/2+m-1-(i-1))) (d (i-1))=false)∧(j<m→lt (d ((a+b)/2+m-1-j)) (d j)=true)) (fun vi vj _=>(Proofs.intOf vj).toNat-(Proofs.intOf vi).toNat)
 case atStart=>exact⟨a,m,by first|rfl|(congr 1;omega),by first|rfl|(congr 1;omega),by omega,by omega,by omega,S.alloc _ _ _ hQ,Kp.refl _ _,fun h=>absurd h (by omega),fun h=>absurd h (by omega)⟩
 case round=>
  obtain⟨i,j,rfl,rfl,i1,ij,j1,hq,hk,lo,hi⟩:=hrel
  have c0:wr.cell? ⟨w.heap.size,0,none⟩=some (.func (.func g) #[] lb):=hk.2 _ _ _ (by omega) (by simp) (by simp)
  have c1:wr.cell? ⟨w.heap.size,1,none⟩=some (.func (.func sf) #[] sb):=hk.2 _ _ _ (by omega) (by simp) (by simp)
  by_cases hij:i<j
  ·have hl:=S.less d wr ((a+b)/2+m-1-(i+j)/2) ((i+j)/2) hq (by omega) (by omega)
   cases hv:lt (d ((a+b)/2+m-1-(i+j)/2)) (d ((i+j)/2)) with
   |true=>
    rw[hv,show((((a+b)/2+m-1-(i+j)/2:Nat)):Int)=((a:Int)+b)/2+m-1-((i:Int)+j)/2 by omega,show((((i+j)/2:Nat)):Int)=((i:Int)+j)/2 by omega] at hl
    go_wp2_with (go_at_fn g;refine hl.mono ?_;rintro e w' ⟨rfl,q1,k1⟩)
    go_roundw
    case rel=>
     exact⟨i,(i+j)/2,rfl,by congr 1,i1,by omega,by omega,q1,hk.trans k1,lo,fun _=>hv⟩
    case measure=>simp[Proofs.intOf];omega
   |false=>
    rw[hv,show((((a+b)/2+m-1-(i+j)/2:Nat)):Int)=((a:Int)+b)/2+m-1-((i:Int)+j)/2 by omega,show((((i+j)/2:Nat)):Int)=((i:Int)+j)/2 by omega] at hl
    go_wp2_with (go_at_fn g;refine hl.mono ?_;rintro e w' ⟨rfl,q1,k1⟩)
    go_roundw
    case rel=>
     exact⟨(i+j)/2+1,j,by congr 1,rfl,by omega,by omega,j1,q1,hk.trans k1,fun _=>hv,hi⟩
    case measure=>simp[Proofs.intOf];omega
  ·obtain rfl:i=j:=by omega
   have C:=sG O (s:=i) (by omega) (by omega) hs1 hs2 (.inr ⟨hmm,rfl,rfl⟩) i1 j1 lo hi
   obtain⟨p1,p2,p3,p4,p5⟩:=C.parts hs1 hs2
   have hme:=C.me
   have heb:=C.eb
   have hsm:=C.sm
   have has:=C.aS
   have emid:i+((a+b)/2+m-i-m)=(a+b)/2:=by omega
   rw[emid] at p2 p3 p5
   have ce:(((a+b)/2+m-i:Nat):Int)=((a:Int)+b)/2+m-i:=by omega
   have cm:(((a+b)/2:Nat):Int)=((a:Int)+b)/2:=by omega
   by_cases h1:i<m∧m<(a+b)/2+m-i
   ·skip
    by_cases h2:a<i∧i<(a+b)/2
    ·skip
     by_cases h3:(a+b)/2<(a+b)/2+m-i∧(a+b)/2+m-i<b
     ·skip
      first
      |(exfalso;omega)
      |(have hc:=hRT i m ((a+b)/2+m-i) d wr hq h1.1 h1.2 (by omega)
        rw[ce] at hc
        go_wp2_with (go_at_fn (ρ.f 42);refine hc.mono ?_;rintro e w1 ⟨rfl,q1,sw1,k1⟩;have cc0:=(hk.trans k1).2 w.heap.size 0 (.func (.func g) #[] lb) (by omega) (by simp) (by simp);have cc1:=(hk.trans k1).2 w.heap.size 1 (.func (.func sf) #[] sb) (by omega) (by simp) (by simp))
        have kk1:=(hk.trans k1)
        have hc:=IH a i ((a+b)/2) _ w1 (by omega) (by omega) q1 h2.1 h2.2 p1 p2
        rw[cm] at hc
        go_wp2_with (go_at_fn (ρ.f 30);refine hc.mono ?_;rintro e w2 ⟨rfl,⟨d2,q2,sw2,s2⟩,k2⟩;have cc0:=(kk1.trans k2).2 w.heap.size 0 (.func (.func g) #[] lb) (by omega) (by simp) (by simp);have cc1:=(kk1.trans k2).2 w.heap.size 1 (.func (.func sf) #[] sb) (by omega) (by simp) (by simp))
        have kk2:=kk1.trans k2
        have p3b:SOn lt d2 ((a+b)/2) ((a+b)/2+m-i):=p3.congr fun k h _=>sw2.out k (.inr h)
        have p4b:SOn lt d2 ((a+b)/2+m-i) b:=p4.congr fun k h _=>sw2.out k (.inr (by omega))
        have hc:=IH ((a+b)/2) ((a+b)/2+m-i) b _ w2 (by omega) (by omega) q2 h3.1 h3.2 p3b p4b
        rw[cm,ce] at hc
        go_wp2_with (go_at_fn (ρ.f 30);refine hc.mono ?_;rintro e w3 ⟨rfl,⟨d3,q3,sw3,s3⟩,k3⟩)
        have kk3:=kk2.trans k3
        go_end0
        exact⟨rfl,⟨_,q3,((sw1.mono (by omega) (by omega)).trans (sw2.mono (Nat.le_refl _) (by omega))).trans (sw3.mono (by omega) (Nat.le_refl _)),cN p5 sw2 s2 sw3 s3⟩,(Kp.alloc _ _ _).trans kk3⟩)
     ·skip
      first
      |(exfalso;omega)
      |(have hc:=hRT i m ((a+b)/2+m-i) d wr hq h1.1 h1.2 (by omega)
        rw[ce] at hc
        go_wp2_with (go_at_fn (ρ.f 42);refine hc.mono ?_;rintro e w1 ⟨rfl,q1,sw1,k1⟩;have cc0:=(hk.trans k1).2 w.heap.size 0 (.func (.func g) #[] lb) (by omega) (by simp) (by simp);have cc1:=(hk.trans k1).2 w.heap.size 1 (.func (.func sf) #[] sb) (by omega) (by simp) (by simp))
        have kk1:=(hk.trans k1)
        have hc:=IH a i ((a+b)/2) _ w1 (by omega) (by omega) q1 h2.1 h2.2 p1 p2
        rw[cm] at hc
        go_wp2_with (go_at_fn (ρ.f 30);refine hc.mono ?_;rintro e w2 ⟨rfl,⟨d2,q2,sw2,s2⟩,k2⟩;have cc0:=(kk1.trans k2).2 w.heap.size 0 (.func (.func g) #[] lb) (by omega) (by simp) (by simp);have cc1:=(kk1.trans k2).2 w.heap.size 1 (.func (.func sf) #[] sb) (by omega) (by simp) (by simp))
        have kk2:=kk1.trans k2
        have p3b:SOn lt d2 ((a+b)/2) ((a+b)/2+m-i):=p3.congr fun k h _=>sw2.out k (.inr h)
        have p4b:SOn lt d2 ((a+b)/2+m-i) b:=p4.congr fun k h _=>sw2.out k (.inr (by omega))
        have q3:=q2
        have sw3:Sw ((a+b)/2) b d2 d2:=.refl
        have s3:SOn lt d2 ((a+b)/2) b:=by
         rcases Nat.lt_or_eq_of_le heb with g|g
         ·exact fun x y g1 g2 g3=>p4b x y (by omega) g2 g3
         ·exact fun x y g1 g2 g3=>p3b x y g1 g2 (by omega)
        have kk3:=kk2
        go_wp2
        go_end0
        exact⟨rfl,⟨_,q3,((sw1.mono (by omega) (by omega)).trans (sw2.mono (Nat.le_refl _) (by omega))).trans (sw3.mono (by omega) (Nat.le_refl _)),cN p5 sw2 s2 sw3 s3⟩,(Kp.alloc _ _ _).trans kk3⟩)
    ·skip
     by_cases h3:(a+b)/2<(a+b)/2+m-i∧(a+b)/2+m-i<b
     ·skip
      first
      |(exfalso;omega)
      |(have hc:=hRT i m ((a+b)/2+m-i) d wr hq h1.1 h1.2 (by omega)
        rw[ce] at hc
        go_wp2_with (go_at_fn (ρ.f 42);refine hc.mono ?_;rintro e w1 ⟨rfl,q1,sw1,k1⟩;have cc0:=(hk.trans k1).2 w.heap.size 0 (.func (.func g) #[] lb) (by omega) (by simp) (by simp);have cc1:=(hk.trans k1).2 w.heap.size 1 (.func (.func sf) #[] sb) (by omega) (by simp) (by simp))
        have kk1:=(hk.trans k1)
        have q2:=q1
        have sw2:Sw a ((a+b)/2) (az d i m ((a+b)/2+m-i)) (az d i m ((a+b)/2+m-i)):=.refl
        have s2:SOn lt (az d i m ((a+b)/2+m-i)) a ((a+b)/2):=by
         rcases Nat.lt_or_eq_of_le has with g|g
         ·exact fun x y g1 g2 g3=>p1 x y g1 g2 (by omega)
         ·exact fun x y g1 g2 g3=>p2 x y (by omega) g2 g3
        have kk2:=kk1
        have p3b:SOn lt (az d i m ((a+b)/2+m-i)) ((a+b)/2) ((a+b)/2+m-i):=p3.congr fun k h _=>sw2.out k (.inr h)
        have p4b:SOn lt (az d i m ((a+b)/2+m-i)) ((a+b)/2+m-i) b:=p4.congr fun k h _=>sw2.out k (.inr (by omega))
        have hc:=IH ((a+b)/2) ((a+b)/2+m-i) b _ w1 (by omega) (by omega) q2 h3.1 h3.2 p3b p4b
        rw[cm,ce] at hc
        go_wp2_with (go_at_fn (ρ.f 30);refine hc.mono ?_;rintro e w3 ⟨rfl,⟨d3,q3,sw3,s3⟩,k3⟩)
        have kk3:=kk2.trans k3
        go_end0
        exact⟨rfl,⟨_,q3,((sw1.mono (by omega) (by omega)).trans (sw2.mono (Nat.le_refl _) (by omega))).trans (sw3.mono (by omega) (Nat.le_refl _)),cN p5 sw2 s2 sw3 s3⟩,(Kp.alloc _ _ _).trans kk3⟩)
     ·skip
      first
      |(exfalso;omega)
      |(have hc:=hRT i m ((a+b)/2+m-i) d wr hq h1.1 h1.2 (by omega)
        rw[ce] at hc
        go_wp2_with (go_at_fn (ρ.f 42);refine hc.mono ?_;rintro e w1 ⟨rfl,q1,sw1,k1⟩;have cc0:=(hk.trans k1).2 w.heap.size 0 (.func (.func g) #[] lb) (by omega) (by simp) (by simp);have cc1:=(hk.trans k1).2 w.heap.size 1 (.func (.func sf) #[] sb) (by omega) (by simp) (by simp))
        have kk1:=(hk.trans k1)
        have q2:=q1
        have sw2:Sw a ((a+b)/2) (az d i m ((a+b)/2+m-i)) (az d i m ((a+b)/2+m-i)):=.refl
        have s2:SOn lt (az d i m ((a+b)/2+m-i)) a ((a+b)/2):=by
         rcases Nat.lt_or_eq_of_le has with g|g
         ·exact fun x y g1 g2 g3=>p1 x y g1 g2 (by omega)
         ·exact fun x y g1 g2 g3=>p2 x y (by omega) g2 g3
        have kk2:=kk1
        have p3b:SOn lt (az d i m ((a+b)/2+m-i)) ((a+b)/2) ((a+b)/2+m-i):=p3.congr fun k h _=>sw2.out k (.inr h)
        have p4b:SOn lt (az d i m ((a+b)/2+m-i)) ((a+b)/2+m-i) b:=p4.congr fun k h _=>sw2.out k (.inr (by omega))
        have q3:=q2
        have sw3:Sw ((a+b)/2) b (az d i m ((a+b)/2+m-i)) (az d i m ((a+b)/2+m-i)):=.refl
        have s3:SOn lt (az d i m ((a+b)/2+m-i)) ((a+b)/2) b:=by
         rcases Nat.lt_or_eq_of_le heb with g|g
         ·exact fun x y g1 g2 g3=>p4b x y (by omega) g2 g3
         ·exact fun x y g1 g2 g3=>p3b x y g1 g2 (by omega)
        have kk3:=kk2
        go_wp2
        go_end0
        exact⟨rfl,⟨_,q3,((sw1.mono (by omega) (by omega)).trans (sw2.mono (Nat.le_refl _) (by omega))).trans (sw3.mono (by omega) (Nat.le_refl _)),cN p5 sw2 s2 sw3 s3⟩,(Kp.alloc _ _ _).trans kk3⟩)
   ·skip
    by_cases h2:a<i∧i<(a+b)/2
    ·skip
     by_cases h3:(a+b)/2<(a+b)/2+m-i∧(a+b)/2+m-i<b
     ·skip
      first
      |(exfalso;omega)
      |(have q1:Q (az d i m ((a+b)/2+m-i)) wr:=by
         rcases Nat.lt_or_eq_of_le hsm with g|g
         ·rw[show(a+b)/2+m-i=m by omega,bg];exact hq
         ·subst g;rw[bv];exact hq
        have sw1:Sw i ((a+b)/2+m-i) d (az d i m ((a+b)/2+m-i)):=by
         rcases Nat.lt_or_eq_of_le hsm with g|g
         ·rw[show(a+b)/2+m-i=m by omega,bg];exact .refl
         ·subst g;rw[bv];exact .refl
        have kk1:=hk
        have hc:=IH a i ((a+b)/2) _ wr (by omega) (by omega) q1 h2.1 h2.2 p1 p2
        rw[cm] at hc
        go_wp2_with (go_at_fn (ρ.f 30);refine hc.mono ?_;rintro e w2 ⟨rfl,⟨d2,q2,sw2,s2⟩,k2⟩;have cc0:=(kk1.trans k2).2 w.heap.size 0 (.func (.func g) #[] lb) (by omega) (by simp) (by simp);have cc1:=(kk1.trans k2).2 w.heap.size 1 (.func (.func sf) #[] sb) (by omega) (by simp) (by simp))
        have kk2:=kk1.trans k2
        have p3b:SOn lt d2 ((a+b)/2) ((a+b)/2+m-i):=p3.congr fun k h _=>sw2.out k (.inr h)
        have p4b:SOn lt d2 ((a+b)/2+m-i) b:=p4.congr fun k h _=>sw2.out k (.inr (by omega))
        have hc:=IH ((a+b)/2) ((a+b)/2+m-i) b _ w2 (by omega) (by omega) q2 h3.1 h3.2 p3b p4b
        rw[cm,ce] at hc
        go_wp2_with (go_at_fn (ρ.f 30);refine hc.mono ?_;rintro e w3 ⟨rfl,⟨d3,q3,sw3,s3⟩,k3⟩)
        have kk3:=kk2.trans k3
        go_end0
        exact⟨rfl,⟨_,q3,((sw1.mono (by omega) (by omega)).trans (sw2.mono (Nat.le_refl _) (by omega))).trans (sw3.mono (by omega) (Nat.le_refl _)),cN p5 sw2 s2 sw3 s3⟩,(Kp.alloc _ _ _).trans kk3⟩)
     ·skip
      first
      |(exfalso;omega)
      |(have q1:Q (az d i m ((a+b)/2+m-i)) wr:=by
         rcases Nat.lt_or_eq_of_le hsm with g|g
         ·rw[show(a+b)/2+m-i=m by omega,bg];exact hq
         ·subst g;rw[bv];exact hq
        have sw1:Sw i ((a+b)/2+m-i) d (az d i m ((a+b)/2+m-i)):=by
         rcases Nat.lt_or_eq_of_le hsm with g|g
         ·rw[show(a+b)/2+m-i=m by omega,bg];exact .refl
         ·subst g;rw[bv];exact .refl
        have kk1:=hk
        have hc:=IH a i ((a+b)/2) _ wr (by omega) (by omega) q1 h2.1 h2.2 p1 p2
        rw[cm] at hc
        go_wp2_with (go_at_fn (ρ.f 30);refine hc.mono ?_;rintro e w2 ⟨rfl,⟨d2,q2,sw2,s2⟩,k2⟩;have cc0:=(kk1.trans k2).2 w.heap.size 0 (.func (.func g) #[] lb) (by omega) (by simp) (by simp);have cc1:=(kk1.trans k2).2 w.heap.size 1 (.func (.func sf) #[] sb) (by omega) (by simp) (by simp))
        have kk2:=kk1.trans k2
        have p3b:SOn lt d2 ((a+b)/2) ((a+b)/2+m-i):=p3.congr fun k h _=>sw2.out k (.inr h)
        have p4b:SOn lt d2 ((a+b)/2+m-i) b:=p4.congr fun k h _=>sw2.out k (.inr (by omega))
        have q3:=q2
        have sw3:Sw ((a+b)/2) b d2 d2:=.refl
        have s3:SOn lt d2 ((a+b)/2) b:=by
         rcases Nat.lt_or_eq_of_le heb with g|g
         ·exact fun x y g1 g2 g3=>p4b x y (by omega) g2 g3
         ·exact fun x y g1 g2 g3=>p3b x y g1 g2 (by omega)
        have kk3:=kk2
        go_wp2
        go_end0
        exact⟨rfl,⟨_,q3,((sw1.mono (by omega) (by omega)).trans (sw2.mono (Nat.le_refl _) (by omega))).trans (sw3.mono (by omega) (Nat.le_refl _)),cN p5 sw2 s2 sw3 s3⟩,(Kp.alloc _ _ _).trans kk3⟩)
    ·skip
     by_cases h3:(a+b)/2<(a+b)/2+m-i∧(a+b)/2+m-i<b
     ·skip
      first
      |(exfalso;omega)
      |(have q1:Q (az d i m ((a+b)/2+m-i)) wr:=by
         rcases Nat.lt_or_eq_of_le hsm with g|g
         ·rw[show(a+b)/2+m-i=m by omega,bg];exact hq
         ·subst g;rw[bv];exact hq
        have sw1:Sw i ((a+b)/2+m-i) d (az d i m ((a+b)/2+m-i)):=by
         rcases Nat.lt_or_eq_of_le hsm with g|g
         ·rw[show(a+b)/2+m-i=m by omega,bg];exact .refl
         ·subst g;rw[bv];exact .refl
        have kk1:=hk
        have q2:=q1
        have sw2:Sw a ((a+b)/2) (az d i m ((a+b)/2+m-i)) (az d i m ((a+b)/2+m-i)):=.refl
        have s2:SOn lt (az d i m ((a+b)/2+m-i)) a ((a+b)/2):=by
         rcases Nat.lt_or_eq_of_le has with g|g
         ·exact fun x y g1 g2 g3=>p1 x y g1 g2 (by omega)
         ·exact fun x y g1 g2 g3=>p2 x y (by omega) g2 g3
        have kk2:=kk1
        have p3b:SOn lt (az d i m ((a+b)/2+m-i)) ((a+b)/2) ((a+b)/2+m-i):=p3.congr fun k h _=>sw2.out k (.inr h)
        have p4b:SOn lt (az d i m ((a+b)/2+m-i)) ((a+b)/2+m-i) b:=p4.congr fun k h _=>sw2.out k (.inr (by omega))
        have hc:=IH ((a+b)/2) ((a+b)/2+m-i) b _ wr (by omega) (by omega) q2 h3.1 h3.2 p3b p4b
        rw[cm,ce] at hc
        go_wp2_with (go_at_fn (ρ.f 30);refine hc.mono ?_;rintro e w3 ⟨rfl,⟨d3,q3,sw3,s3⟩,k3⟩)
        have kk3:=kk2.trans k3
        go_end0
        exact⟨rfl,⟨_,q3,((sw1.mono (by omega) (by omega)).trans (sw2.mono (Nat.le_refl _) (by omega))).trans (sw3.mono (by omega) (Nat.le_refl _)),cN p5 sw2 s2 sw3 s3⟩,(Kp.alloc _ _ _).trans kk3⟩)
     ·skip
      first
      |(exfalso;omega)
      |(have q1:Q (az d i m ((a+b)/2+m-i)) wr:=by
         rcases Nat.lt_or_eq_of_le hsm with g|g
         ·rw[show(a+b)/2+m-i=m by omega,bg];exact hq
         ·subst g;rw[bv];exact hq
        have sw1:Sw i ((a+b)/2+m-i) d (az d i m ((a+b)/2+m-i)):=by
         rcases Nat.lt_or_eq_of_le hsm with g|g
         ·rw[show(a+b)/2+m-i=m by omega,bg];exact .refl
         ·subst g;rw[bv];exact .refl
        have kk1:=hk
        have q2:=q1
        have sw2:Sw a ((a+b)/2) (az d i m ((a+b)/2+m-i)) (az d i m ((a+b)/2+m-i)):=.refl
        have s2:SOn lt (az d i m ((a+b)/2+m-i)) a ((a+b)/2):=by
         rcases Nat.lt_or_eq_of_le has with g|g
         ·exact fun x y g1 g2 g3=>p1 x y g1 g2 (by omega)
         ·exact fun x y g1 g2 g3=>p2 x y (by omega) g2 g3
        have kk2:=kk1
        have p3b:SOn lt (az d i m ((a+b)/2+m-i)) ((a+b)/2) ((a+b)/2+m-i):=p3.congr fun k h _=>sw2.out k (.inr h)
        have p4b:SOn lt (az d i m ((a+b)/2+m-i)) ((a+b)/2+m-i) b:=p4.congr fun k h _=>sw2.out k (.inr (by omega))
        have q3:=q2
        have sw3:Sw ((a+b)/2) b (az d i m ((a+b)/2+m-i)) (az d i m ((a+b)/2+m-i)):=.refl
        have s3:SOn lt (az d i m ((a+b)/2+m-i)) ((a+b)/2) b:=by
         rcases Nat.lt_or_eq_of_le heb with g|g
         ·exact fun x y g1 g2 g3=>p4b x y (by omega) g2 g3
         ·exact fun x y g1 g2 g3=>p3b x y g1 g2 (by omega)
        have kk3:=kk2
        go_wp2
        go_end0
        exact⟨rfl,⟨_,q3,((sw1.mono (by omega) (by omega)).trans (sw2.mono (Nat.le_refl _) (by omega))).trans (sw3.mono (by omega) (Nat.le_refl _)),cN p5 sw2 s2 sw3 s3⟩,(Kp.alloc _ _ _).trans kk3⟩)
end Go.Vs
namespace Go.Vs
open Go Go.Proofs Go.Shelf Go.RowKit Go.Lib Go.Sort
variable {P:Program} {ρ:Ren} {α:Type}
theorem vp {lt:α→α→Bool} {g:Nat} {lb:Array Value} {sf:Nat} {sb:Array Value} {blk N:Nat} {Q:(Nat→α)→World→Prop} (L:LaysGt.n30 P ρ) (S:Sv P lt g lb sf sb blk N Q) (O:Swo lt) (hN:N<4611686018427387904):
 ∀(k a m b:Nat) (d:Nat→α) (w:World),b-a≤k→b≤N→Q d w→a<m→m<b→SOn lt d a m→SOn lt d m b→Calls P (ρ.f 30) #[.agg #[.func (.func g) #[] lb,.func (.func sf) #[] sb],.int .i64 a,.int .i64 m,.int .i64 b] w fun e w'=>e=.returned (.tuple #[])∧(∃d',Q d' w'∧Sw a b d d'∧SOn lt d' a b)∧Kp blk w w'
 |0,a,m,b,d,w,h,_,_,h1,h2,_,_=>by omega
 |k+1,a,m,b,d,w,h,hb,hQ,h1,h2,hs1,hs2=>by
  by_cases g1:m≤a+1
  ·exact Bh L S O a m b d w hQ g1 h1 h2 hb hN hs2
  ·by_cases g2:b≤m+1
   ·exact ze L S O a m b d w hQ (by omega) h2 g2 hb hN hs1
   ·have IH:=fun(a' m' b':Nat) (d:Nat→α) (w:World) (q1:b'-a'<b-a) q2 q3 q4 q5 q6 q7=>vp L S O hN k a' m' b' d w (by omega) q2 q3 q4 q5 q6 q7
    by_cases g3:(a+b)/2<m
    ·exact D8 L S O a m b d w hQ (by omega) (by omega) hb hN hs1 hs2 g3 IH
    ·exact D6 L S O a m b d w hQ (by omega) (by omega) hb hN hs1 hs2 (by omega) IH
theorem SOn.one {lt:α→α→Bool} {d:Nat→α} {a b:Nat} (h:b≤a+1):SOn lt d a b:=fun i j h1 h2 h3=>by omega
set_option maxHeartbeats 2000000 in
set_option maxRecDepth 100000 in
theorem Cp {lt:α→α→Bool} {g:Nat} {lb:Array Value} {sf:Nat} {sb:Array Value} {blk N:Nat} {Q:(Nat→α)→World→Prop} (L:LaysGt.n29 P ρ) (S:Sv P lt g lb sf sb blk N Q) (O:Swo lt)
 (a b:Nat) (d:Nat→α) (w:World) (hQ:Q d w) (hab:a≤b) (hb:b≤N) (hN:N<4611686018427387904):
 Calls P (ρ.f 29) #[.agg #[.func (.func g) #[] lb,.func (.func sf) #[] sb],.int .i64 a,.int .i64 b] w fun e w'=>e=.returned (.tuple #[])∧(∃d',Q d' w'∧Sw a b d d'∧SOn lt d' a b)∧Kp blk w w':=by
 have mixed:=L.mixed;have t0:=L.t0;have a0:=L.a0;have z0:=L.z0;have v0:=L.v0;have t3:=L.t3;have a3:=L.a3;have z3:=L.z3;have v3:=L.v3;have t4:=L.t4;have a4:=L.a4;have z4:=L.z4;have v4:=L.v4;have t26:=L.t26;have a26:=L.a26;have z26:=L.z26;have v26:=L.v26;have t38:=L.t38;have a38:=L.a38;have z38:=L.z38;have v38:=L.v38;have t42:=L.t42;have a42:=L.a42;have z42:=L.z42;have v42:=L.v42
 have u42:=run_underlying L.t42
 have hlt:=S.lt d w hQ
 have eg:=S.eg
 go_enter L.f29,BodyGt.n29_ntmps ρ
 go_wp2
 go_loopw [6] (fun vi wr=>∃(i:Nat) (d1:Nat→α),vi=.int .i64 i∧a<i∧i≤b+1∧Q d1 wr∧Kp blk (w.alloc (.cells #[.func (.func g) #[] lb,.func (.func sf) #[] sb] (ρ.t 42))) wr∧Sw a b d d1∧SOn lt d1 a i) (fun vi _=>b+1-(Proofs.intOf vi).toNat)
 case atStart=>exact⟨a+1,d,by congr 1,by omega,by omega,S.alloc _ _ _ hQ,Kp.refl _ _,.refl,SOn.one (Nat.le_refl _)⟩
 case round=>
  obtain⟨i,d1,rfl,hai,hib,hq,hk,hw,hs⟩:=hrel
  by_cases hlt2:i<b
  ·go_wp2
   go_loopw [7] (fun vj wr2=>∃(j:Nat),vj=.int .i64 j∧a≤j∧j≤i∧Q (az d1 j i (i+1)) wr2∧Kp blk (w.alloc (.cells #[.func (.func g) #[] lb,.func (.func sf) #[] sb] (ρ.t 42))) wr2∧(∀k,j≤k→k<i→lt (d1 i) (d1 k)=true)) (fun vj _=>(Proofs.intOf vj).toNat)
   case atStart=>exact⟨i,rfl,by omega,Nat.le_refl _,by rw[bv];exact hq,hk,fun k h1 h2=>absurd h1 (by omega)⟩
   case round=>
    obtain⟨j,rfl,haj,hji,hq2,hk2,hi⟩:=hrel
    have c0:wr.cell? ⟨w.heap.size,0,none⟩=some (.func (.func g) #[] lb):=hk2.2 _ _ _ (by omega) (by simp) (by simp)
    have c1:wr.cell? ⟨w.heap.size,1,none⟩=some (.func (.func sf) #[] sb):=hk2.2 _ _ _ (by omega) (by simp) (by simp)
    have done:(∀k,a≤k→k<j→lt (d1 i) (d1 k)=false)→Sw a b d (az d1 j i (i+1))∧SOn lt (az d1 j i (i+1)) a (i+1):=fun lo=>by
     have hh:=mz d1 (m:=i) (n:=i-j) (by omega)
     rw[show i-(i-j)=j by omega] at hh
     exact⟨hw.trans (hh.mono haj (by omega)),tm O haj hji lo hi hs⟩
    by_cases hja:a<j
    ·have hl:=S.less _ wr j (j-1) hq2 (by omega) (by omega)
     rw[show az d1 j i (i+1) j=d1 i by rw[wV d1 hji,if_pos rfl],show az d1 j i (i+1) (j-1)=d1 (j-1) by rw[gT (by omega)]] at hl
     rw[show(((j-1:Nat)):Int)=(j:Int)-1 by omega] at hl
     cases hv:lt (d1 i) (d1 (j-1)) with
     |true=>
      rw[hv] at hl
      go_wp2_with (go_at_fn g;refine hl.mono ?_;rintro e w' ⟨rfl,q1,k1⟩;have cc1:=(hk2.trans k1).2 w.heap.size 1 (.func (.func sf) #[] sb) (by omega) (by simp) (by simp))
      obtain⟨w2,e1,q2,k2⟩:=S.swap _ w' j (j-1) q1 (by omega) (by omega)
      rw[show(((j-1:Nat)):Int)=(j:Int)-1 by omega] at e1
      rw[e1,Oper.upon_value]
      go_wp2
      go_roundw
      case rel=>
       exact⟨j-1,by congr 1;omega,by omega,by omega,by rw[←rc d1 (by omega) hji];exact q2,(hk2.trans k1).trans k2,fun k h1 h2=>by
        rcases Nat.lt_or_ge k j with hkj|hkj
        ·rw[show k=j-1 by omega];exact hv
        ·exact hi k hkj h2⟩
      case measure=>simp[Proofs.intOf];omega
     |false=>
      rw[hv] at hl
      go_wp2_with (go_at_fn g;refine hl.mono ?_;rintro e w' ⟨rfl,q1,k1⟩)
      go_roundw
      case rel=>
       obtain⟨n1,n2⟩:=done fun k h1 h2=>O.trans _ _ _ (SOn.le O hs h1 (show k≤j-1 by omega) (by omega)) hv
       exact⟨i+1,_,by congr 1,by omega,by omega,q1,hk2.trans k1,n1,n2⟩
      case measure=>simp[Proofs.intOf];omega
    ·go_wp2
     go_roundw
     case rel=>
      obtain⟨n1,n2⟩:=done fun k h1 h2=>absurd h2 (by omega)
      exact⟨i+1,_,by congr 1,by omega,by omega,hq2,hk2,n1,n2⟩
     case measure=>simp[Proofs.intOf];omega
  ·go_wp2
   go_end0
   exact⟨rfl,⟨d1,hq,hw,fun x y g1 g2 g3=>hs x y g1 g2 (by omega)⟩,(Kp.alloc _ _ _).trans hk⟩
theorem SOn.mono {lt:α→α→Bool} {d:Nat→α} {a b a' b':Nat} (h:SOn lt d a b) (h1:a≤a') (h2:b'≤b):SOn lt d a' b':=fun i j g1 g2 g3=>h i j (by omega) g2 (by omega)
inductive Bl (lt:α→α→Bool) (d:Nat→α) (s n:Nat):Nat→Prop
 |done {a:Nat}:n≤a→Bl lt d s n a
 |more {a:Nat}:SOn lt d a (min (a+s) n)→Bl lt d s n (a+s)→Bl lt d s n a
inductive Pre (lt:α→α→Bool) (d:Nat→α) (s:Nat):Nat→Prop
 |zero:Pre lt d s 0
 |step {a:Nat}:Pre lt d s a→SOn lt d a (a+s)→Pre lt d s (a+s)
theorem Pre.congr {lt:α→α→Bool} {d d':Nat→α} {s a:Nat} (h:Pre lt d s a):(∀k,k<a→d' k=d k)→Pre lt d' s a:=by
 induction h with
 |zero=>exact fun _=>.zero
 |step _ hs ih=>exact fun he=>.step (ih fun k hk=>he k (by omega)) (hs.congr fun k _ h2=>he k h2)
theorem Bl.congr {lt:α→α→Bool} {d d':Nat→α} {s n a:Nat} (h:Bl lt d s n a):(∀k,a≤k→d' k=d k)→Bl lt d' s n a:=by
 induction h with
 |done h=>exact fun _=>.done h
 |more hs _ ih=>exact fun he=>.more (hs.congr fun k h1 _=>he k h1) (ih fun k hk=>he k (by omega))
theorem Pre.bl {lt:α→α→Bool} {d:Nat→α} {s n a:Nat} (h:Pre lt d s a):a≤n→Bl lt d s n a→Bl lt d s n 0:=by
 induction h with
 |zero=>exact fun _ h=>h
 |step _ hs ih=>exact fun h1 h2=>ih (by omega) (.more (hs.mono (Nat.le_refl _) (by omega)) h2)
theorem Bl.head {lt:α→α→Bool} {d:Nat→α} {s n a:Nat} (h:Bl lt d s n a):SOn lt d a (min (a+s) n)∧Bl lt d s n (a+s):=by
 cases h with
 |done h=>exact⟨fun i j h1 h2 h3=>by omega,.done (by omega)⟩
 |more h1 h2=>exact⟨h1,h2⟩
theorem Bl.last {lt:α→α→Bool} {d:Nat→α} {s n a:Nat} (h:SOn lt d a n) (hs:n≤a+s):Bl lt d s n a:=.more (h.mono (Nat.le_refl _) (by omega)) (.done hs)
set_option maxHeartbeats 4000000 in
set_option maxRecDepth 100000 in
theorem zB {lt:α→α→Bool} {g:Nat} {lb:Array Value} {sf:Nat} {sb:Array Value} {blk N:Nat} {Q:(Nat→α)→World→Prop} (L:LaysGt.n15 P ρ) (S:Sv P lt g lb sf sb blk N Q) (O:Swo lt)
 (n:Nat) (d:Nat→α) (w:World) (hQ:Q d w) (hn:n≤N) (hN:N<1152921504606846976):
 Calls P (ρ.f 15) #[.agg #[.func (.func g) #[] lb,.func (.func sf) #[] sb],.int .i64 n] w fun e w'=>e=.returned (.tuple #[])∧(∃d',Q d' w'∧Sw 0 n d d'∧SOn lt d' 0 n)∧Kp blk w w':=by
 have mixed:=L.mixed;have t0:=L.t0;have a0:=L.a0;have z0:=L.z0;have v0:=L.v0;have t3:=L.t3;have a3:=L.a3;have z3:=L.z3;have v3:=L.v3;have t4:=L.t4;have a4:=L.a4;have z4:=L.z4;have v4:=L.v4;have t26:=L.t26;have a26:=L.a26;have z26:=L.z26;have v26:=L.v26;have t38:=L.t38;have a38:=L.a38;have z38:=L.z38;have v38:=L.v38;have t42:=L.t42;have a42:=L.a42;have z42:=L.z42;have v42:=L.v42
 have u42:=run_underlying L.t42
 have hlt:=S.lt d w hQ
 have L29:LaysGt.n29 P ρ:={L with}
 have L30:LaysGt.n30 P ρ:={L with}
 have e29:∀args w,(callFunc (ρ.f 29) args).run P w=.ok (.enter (ρ.f 29) args) w:=enters_of L.f29 (by kernel_rfl) rfl
 have e30:∀args w,(callFunc (ρ.f 30) args).run P w=.ok (.enter (ρ.f 30) args) w:=enters_of L.f30 (by kernel_rfl) rfl
 have hI:=fun(a b:Nat) (d:Nat→α) (w:World) h1 h2 h3=>Cp L29 S O a b d w h1 h2 h3 (by omega)
 have hM:=fun(a m b:Nat) (d:Nat→α) (w:World) h1 h2 h3 h4 h5 h6=>vp L30 S O (by omega) (b-a) a m b d w (Nat.le_refl _) h1 h2 h3 h4 h5 h6
 clear L29 L30
 go_enter L.f15,BodyGt.n15_ntmps ρ
 go_wp2
 go_loopw [5,6] (fun va vb wr=>∃(a b:Nat) (d1:Nat→α),va=.int .i64 a∧vb=.int .i64 b∧a+20≤b∧b≤a+20∧a≤n∧Q d1 wr∧Kp blk (w.alloc (.cells #[.func (.func g) #[] lb,.func (.func sf) #[] sb] (ρ.t 42))) wr∧Sw 0 n d d1∧Pre lt d1 20 a) (fun va _ _=>n-(Proofs.intOf va).toNat)
 case atStart=>exact⟨0,20,d,by congr 1,by congr 1,by omega,by omega,by omega,S.alloc _ _ _ hQ,Kp.refl _ _,.refl,.zero⟩
 case round=>
  obtain⟨a,b,d1,rfl,rfl,b1,b2,an,hq,hk,hw,hp⟩:=hrel
  have c0:wr.cell? ⟨w.heap.size,0,none⟩=some (.func (.func g) #[] lb):=hk.2 _ _ _ (by omega) (by simp) (by simp)
  have c1:wr.cell? ⟨w.heap.size,1,none⟩=some (.func (.func sf) #[] sb):=hk.2 _ _ _ (by omega) (by simp) (by simp)
  by_cases hbn:b≤n
  ·have hc:=hI a b d1 wr hq (by omega) (by omega)
   go_wp2_with (go_at_fn (ρ.f 29);refine hc.mono ?_;rintro e w' ⟨rfl,⟨d2,q2,w2,s2⟩,k2⟩)
   refine⟨⟨b,b+20,d2,rfl,by congr 1,by omega,by omega,hbn,q2,hk.trans k2,hw.trans (w2.mono (by omega) hbn),?_⟩,?_⟩
   ·obtain rfl:b=a+20:=by omega
    exact .step (hp.congr fun k hk=>w2.out k (.inl hk)) s2
   ·simp[Proofs.intOf];omega
  ·have hc:=hI a n d1 wr hq (by omega) hn
   go_wp2_with (go_at_fn (ρ.f 29);refine hc.mono ?_;rintro e w' ⟨rfl,⟨d2,q2,w2,s2⟩,k2⟩)
   have hbl:Bl lt d2 20 n 0:=(hp.congr fun k hk=>w2.out k (.inl hk)).bl an (Bl.last s2 (by omega))
   have hw2:=hw.trans (w2.mono (Nat.zero_le _) (Nat.le_refl _))
   have hk2:=hk.trans k2
   clear hp hq hc hI c0 c1
   go_loopw [4] (fun vs wr=>∃(s:Nat) (d3:Nat→α),vs=.int .i64 s∧0<s∧s≤2*n+20∧Q d3 wr∧Kp blk (w.alloc (.cells #[.func (.func g) #[] lb,.func (.func sf) #[] sb] (ρ.t 42))) wr∧Sw 0 n d d3∧Bl lt d3 s n 0) (fun vs _=>n-(Proofs.intOf vs).toNat)
   case atStart=>exact⟨20,d2,by congr 1,by omega,by omega,q2,hk2,hw2,hbl⟩
   case round=>
    obtain⟨s,d3,rfl,s0,s1,hq,hk3,hw3,hb3⟩:=hrel
    by_cases hsn:s<n
    ·go_wp2
     go_loopw [5,6] (fun va vb wr=>∃(a b:Nat) (d4:Nat→α),va=.int .i64 a∧vb=.int .i64 b∧a+2*s≤b∧b≤a+2*s∧a≤n∧Q d4 wr∧Kp blk (w.alloc (.cells #[.func (.func g) #[] lb,.func (.func sf) #[] sb] (ρ.t 42))) wr∧Sw 0 n d d4∧Pre lt d4 (2*s) a∧Bl lt d4 s n a) (fun va _ _=>n-(Proofs.intOf va).toNat)
     case atStart=>exact⟨0,2*s,d3,by congr 1,by congr 1,by omega,by omega,by omega,hq,hk3,hw3,.zero,hb3⟩
     case round=>
      obtain⟨a,b,d4,rfl,rfl,b1,b2,an,hq4,hk4,hw4,hp4,hb4⟩:=hrel
      have c0:wr.cell? ⟨w.heap.size,0,none⟩=some (.func (.func g) #[] lb):=hk4.2 _ _ _ (by omega) (by simp) (by simp)
      have c1:wr.cell? ⟨w.heap.size,1,none⟩=some (.func (.func sf) #[] sb):=hk4.2 _ _ _ (by omega) (by simp) (by simp)
      obtain⟨g1,hb5⟩:=hb4.head
      obtain⟨g2,hb6⟩:=hb5.head
      by_cases hbn:b≤n
      ·have hc:=hM a (a+s) b d4 wr (by omega) hq4 (by omega) (by omega) (g1.mono (Nat.le_refl _) (by omega)) (g2.mono (Nat.le_refl _) (by omega))
       rw[show(((a+s:Nat)):Int)=(a:Int)+s by omega] at hc
       go_wp2_with (go_at_fn (ρ.f 30);refine hc.mono ?_;rintro e w' ⟨rfl,⟨d5,q5,w5,s5⟩,k5⟩)
       refine⟨⟨b,b+2*s,d5,rfl,by congr 1,by omega,by omega,hbn,q5,hk4.trans k5,hw4.trans (w5.mono (by omega) hbn),?_,?_⟩,?_⟩
       ·obtain rfl:b=a+2*s:=by omega
        exact .step (hp4.congr fun k hk=>w5.out k (.inl hk)) s5
       ·obtain rfl:b=a+s+s:=by omega
        exact hb6.congr fun k hk=>w5.out k (.inr hk)
       ·simp[Proofs.intOf];omega
      ·by_cases hmn:a+s<n
       ·have hc:=hM a (a+s) n d4 wr hn hq4 (by omega) hmn (g1.mono (Nat.le_refl _) (by omega)) (g2.mono (Nat.le_refl _) (by omega))
        rw[show(((a+s:Nat)):Int)=(a:Int)+s by omega] at hc
        go_wp2_with (go_at_fn (ρ.f 30);refine hc.mono ?_;rintro e w' ⟨rfl,⟨d5,q5,w5,s5⟩,k5⟩)
        refine⟨⟨2*s,d5,by congr 1;omega,by omega,by omega,q5,hk4.trans k5,hw4.trans (w5.mono (by omega) (Nat.le_refl _)),(hp4.congr fun k hk=>w5.out k (.inl hk)).bl an (Bl.last s5 (by omega))⟩,?_⟩
        simp[Proofs.intOf];omega
       ·go_wp2
        refine⟨⟨2*s,d4,by congr 1;omega,by omega,by omega,hq4,hk4,hw4,hp4.bl an (Bl.last (g1.mono (Nat.le_refl _) (by omega)) (by omega))⟩,?_⟩
        simp[Proofs.intOf];omega
    ·go_wp2
     go_end0
     exact⟨rfl,⟨d3,hq,hw3,hb3.head.1.mono (Nat.le_refl _) (by omega)⟩,(Kp.alloc _ _ _).trans hk3⟩
end Go.Vs
namespace Go.Vs
open Go Go.Proofs Go.Shelf Go.RowKit Go.Lib Go.Sort
def stM (F:Array Value):Nat→List Value→Array Value
 |_,[]=>F
 |s,v::r=>stM (F.setIfInBounds s v) (s+1) r
theorem nj:∀(vs:List Value) (s:Nat) (F:Array Value),(stM F s vs).size=F.size
 |[],_,_=>rfl
 |v::r,s,F=>by rw[stM,nj r];simp
theorem pE:∀(vs:List Value) (s:Nat) (F:Array Value) (t:Nat),t<s∨s+vs.length≤t→(stM F s vs)[t]?=F[t]?
 |[],_,_,_,_=>rfl
 |v::r,s,F,t,h=>by
  simp only[List.length_cons] at h
  rw[stM,pE r (s+1) _ t (by omega),Array.getElem?_setIfInBounds,if_neg (by omega)]
theorem wL:∀(vs:List Value) (s:Nat) (F:Array Value) (c:Nat) (v:Value),vs[c]?=some v→s+vs.length≤F.size→(stM F s vs)[s+c]?=some v
 |[],_,_,c,v,h,_=>by simp at h
 |x::r,s,F,0,v,h,hs=>by
  simp only[List.length_cons] at hs
  simp at h
  rw[stM,pE r (s+1) _ _ (by omega),Nat.add_zero,Array.getElem?_setIfInBounds,if_pos rfl,if_pos (by omega),h]
 |x::r,s,F,c+1,v,h,hs=>by
  simp only[List.length_cons] at hs
  rw[stM,show s+(c+1)=s+1+c by omega]
  exact wL r (s+1) _ c v (by simpa using h) (by simp;omega)
theorem i6 (b:Nat) {ty:TypeId} {fr:Nat×Nat}:∀(vs:List Value) (o:Nat) (w:World) (cur:Array Value),w.heap[b]?=some (.cells cur ty fr)→(w.setCells b o vs).heap[b]?=some (.cells (stM cur o vs) ty fr)
 |[],_,_,_,h=>h
 |v::r,o,w,cur,h=>by
  rw[World.setCells,stM]
  refine i6 b r (o+1) _ _ ?_
  simp[World.setCell,Array.getElem?_modify,h]
theorem A7 {k i x c:Nat} (hc:c<k) (h:x≠i):x*k+c<i*k∨i*k+k≤x*k+c:=by
 rcases Nat.lt_or_gt_of_ne h with h|h
 ·have:=Nat.mul_le_mul_right k (show x+1≤i from h)
  rw[Nat.add_mul,Nat.one_mul] at this;omega
 ·have:=Nat.mul_le_mul_right k (show i+1≤x from h)
  rw[Nat.add_mul,Nat.one_mul] at this;omega
theorem BK {k i n:Nat} (h:i<n):i*k+k≤n*k:=by
 have:=Nat.mul_le_mul_right k (show i+1≤n from h)
 rw[Nat.add_mul,Nat.one_mul] at this;exact this
structure Qr (V:List Value→Prop) (ty:TypeId) (k n cap b:Nat) (w0:World) (d:Nat→List Value) (W:World):Prop where
 obj:∃cur,W.heap[b]?=some (.cells cur ty (0,0))∧cur.size=cap*k∧∀i,i<n→∀c v,(d i)[c]?=some v→cur[i*k+c]?=some v
 len:∀i,i<n→(d i).length=k∧∀v∈d i,v.oneCell'=true
 val:∀i,i<n→V (d i)
 le:n≤cap
 size:w0.heap.size≤W.heap.size
 oth:∀x,x<w0.heap.size→x≠b→W.heap[x]?=w0.heap[x]?
 os:W.os=w0.os
 tape:W.tape=w0.tape
 output:W.output=w0.output
section
variable {V:List Value→Prop} {ty:TypeId} {k n cap b:Nat} {w0:World} {d:Nat→List Value} {W:World} {P:Program}
theorem Qr.lt (h:Qr V ty k n cap b w0 d W):b<W.heap.size:=by
 obtain⟨cur,h1,_⟩:=h.obj
 exact(Array.getElem?_eq_some_iff.1 h1).1
theorem Qr.cell (h:Qr V ty k n cap b w0 d W) {i c:Nat} {v:Value} (hi:i<n) (hv:(d i)[c]?=some v):W.cell? ⟨b,i*k+c,none⟩=some v:=by
 obtain⟨cur,h1,_,h3⟩:=h.obj
 simp only[World.cell?,h1,Option.isSome_none,Bool.false_eq_true,if_false]
 exact h3 i hi c v hv
theorem Qr.free (h:Qr V ty k n cap b w0 d W) (o:Nat):W.frozen? ⟨b,o,none⟩=false:=by
 obtain⟨cur,h1,_,_⟩:=h.obj
 simp[World.frozen?,h1]
theorem Qr.drew (h:Qr V ty k n cap b w0 d W) (q:Nat):Qr V ty k n cap b w0 d (W.drewN q):=
 ⟨h.obj,h.len,h.val,h.le,h.size,h.oth,h.os,h.tape,h.output⟩
theorem Qr.alloc (h:Qr V ty k n cap b w0 d W) (o:Obj):Qr V ty k n cap b w0 d (W.alloc o):=by
 have hb:=h.lt
 refine⟨?_,h.len,h.val,h.le,?_,fun x hx hne=>?_,h.os,h.tape,h.output⟩
 ·obtain⟨cur,h1,h2,h3⟩:=h.obj
  refine⟨cur,?_,h2,h3⟩
  rw[alloc_eq_grow,heap_grow_old _ _ hb];exact h1
 ·rw[alloc_eq_grow,size_grow];have:=h.size;omega
 ·rw[alloc_eq_grow,heap_grow_old _ _ (by have:=h.size;omega)];exact h.oth x hx hne
theorem Qr.below (h:Qr V ty k n cap b w0 d W) {W':World} (hs:W.heap.size≤W'.heap.size) (hb:∀x,x<W.heap.size→W'.heap[x]?=W.heap[x]?) (ho:W'.os=W.os) (ht:W'.tape=W.tape) (hp:W'.output=W.output):Qr V ty k n cap b w0 d W':=by
 refine⟨?_,h.len,h.val,h.le,Nat.le_trans h.size hs,fun x hx hne=>?_,ho.trans h.os,ht.trans h.tape,hp.trans h.output⟩
 ·obtain⟨cur,h1,h2,h3⟩:=h.obj
  exact⟨cur,by rw[hb b h.lt];exact h1,h2,h3⟩
 ·rw[hb x (Nat.lt_of_lt_of_le hx h.size)];exact h.oth x hx hne
theorem fy (b:Nat):∀(vs:List Value) (o:Nat) (w:World),(w.setCells b o vs).tape=w.tape∧(w.setCells b o vs).os=w.os∧(w.setCells b o vs).output=w.output∧(w.setCells b o vs).heap.size=w.heap.size∧∀x,x≠b→(w.setCells b o vs).heap[x]?=w.heap[x]?
 |[],_,_=>⟨rfl,rfl,rfl,rfl,fun _ _=>rfl⟩
 |v::r,o,w=>by
  obtain⟨h1,h2,h3,h4,h5⟩:=fy b r (o+1) (w.setCell ⟨b,o,none⟩ v)
  rw[World.setCells]
  refine⟨h1,h2,h3,by rw[h4];simp[World.setCell],fun x hx=>?_⟩
  rw[h5 x hx]
  simp[World.setCell,Array.getElem?_modify,Ne.symm hx]
theorem Qr.swapped (h:Qr V ty k n cap b w0 d W) {i j:Nat} (hi:i<n) (hj:j<n):Qr V ty k n cap b w0 (fsw d i j) ((W.setCells b (i*k) (d j)).setCells b (j*k) (d i)):=by
 obtain⟨p1,p2,p3,p4,p5⟩:=fy b (d j) (i*k) W
 obtain⟨q1,q2,q3,q4,q5⟩:=fy b (d i) (j*k) (W.setCells b (i*k) (d j))
 refine⟨?_,fun x hx=>?_,fun x hx=>?_,h.le,by rw[q4,p4];exact h.size,fun x hx hne=>by rw[q5 x hne,p5 x hne];exact h.oth x hx hne,by rw[q2,p2];exact h.os,by rw[q1,p1];exact h.tape,by rw[q3,p3];exact h.output⟩
 ·obtain⟨cur,h1,h2,h3⟩:=h.obj
  have hle:=Nat.mul_le_mul_right k h.le
  have ii:=BK (k:=k) hi
  have jj:=BK (k:=k) hj
  have li:=(h.len i hi).1
  have lj:=(h.len j hj).1
  refine⟨_,i6 b (d i) (j*k) _ _ (i6 b (d j) (i*k) W cur h1),by rw[nj,nj,h2],fun x hx c v hv=>?_⟩
  by_cases x1:x=j
  ·subst x1
   have e:fsw d i x x=d i:=by unfold fsw;split<;>simp_all
   rw[e] at hv
   exact wL (d i) (x*k) _ c v hv (by rw[nj,h2,li];omega)
  ·have lc:c<k:=by
    have:=(List.getElem?_eq_some_iff.1 hv).1
    unfold fsw at this
    split at this
    ·omega
    ·first
     |(rw[if_neg x1,(h.len x hx).1] at this;exact this)
     |(rw[(h.len x hx).1] at this;exact this)
   rw[pE (d i) (j*k) _ _ (by rw[li];exact A7 lc x1)]
   by_cases x2:x=i
   ·subst x2
    have e:fsw d x j x=d j:=by unfold fsw;rw[if_pos rfl]
    rw[e] at hv
    exact wL (d j) (x*k) _ c v hv (by rw[h2,lj];omega)
   ·rw[pE (d j) (i*k) _ _ (by rw[lj];exact A7 lc x2)]
    have e:fsw d i j x=d x:=by unfold fsw;rw[if_neg x2,if_neg x1]
    rw[e] at hv
    exact h3 x hx c v hv
 ·unfold fsw
  split
  ·exact h.len j hj
  ·split
   ·exact h.len i hi
   ·exact h.len x hx
 ·unfold fsw
  split
  ·exact h.val j hj
  ·split
   ·exact h.val i hi
   ·exact h.val x hx
end
end Go.Vs
namespace Go.Vs
open Go Go.Proofs Go.Shelf Go.RowKit Go.Lib Go.Sort
variable {P:Program} {ρ:Ren}
theorem AK {V:List Value→Prop} {lt:List Value→List Value→Bool} (L:LaysGt.n8 P ρ) (t e ty:TypeId) (i ie:TypeInfo) (hi:P.info? t=some i) (hd:i.desc=.slice e) (hpk:P.packed t=false) (hie:P.info? e=some ie) (ke:Nat) (hke:∀w,(Extern.Rtype.kind e).run P w=.ok ke w)
 (k:Nat) (hs1:ie.size=k) (hagg:∀w,(isAgg e).run P w=.ok true w) (O:Swo lt) (g:Nat) (lb:Array Value) (eg:∀args w,(callFunc g args).run P w=.ok (.enter g args) w)
 (b n c:Nat) (h2:2≤n) (hN:n<1152921504606846976) (f:Nat) (hf:P.funcs.findIdx? (·.name== "internal/reflectlite" ++ ".Swapper$" ++toString (swapperK n ie ke))=some f)
 (gS:Bool) (hx:∀args W,(callFunc f args).run P W=((Extern.ReflectliteSwapper.swap gS args).run P W).andThen fun v w'=>.ok (.value v) w')
 (w0:World) (d:Nat→List Value) (hQ:Qr V ty k n c b w0 d w0)
 (hless:∀(d:Nat→List Value) (W:World) (i j:Nat),Qr V ty k n c b w0 d W→i<n→j<n→Calls P g (#[.int .i64 i,.int .i64 j]++lb) W fun e w'=>e=.returned (.bool (lt (d i) (d j)))∧Qr V ty k n c b w0 d w'∧Kp b W w'):
 Calls P (ρ.f 8) #[.iface t (.slice (some ⟨b,0,none⟩) n c),.func (.func g) #[] lb] w0 fun e w'=>e=.returned (.tuple #[])∧∃d',Qr V ty k n c b w0 d' w'∧Sw 0 n d d'∧SOn lt d' 0 n:=by
 refine Any.sort_SliceStable_of_stable L t e i ie hi hd hpk hie ke hke _ n c (by omega) f hf (.func g) #[] lb w0 _ ?_
 have hB:sliceBound P e ie ke (some ⟨b,0,none⟩) n c=#[.slice (some ⟨b,0,none⟩) n c,typeHandle P e]:=by
  unfold sliceBound;rw[if_neg (swapperK_gt _ _ _ h2)]
 rw[hB]
 have S:Sv P lt g lb f #[.slice (some ⟨b,0,none⟩) n c,typeHandle P e] b n (Qr V ty k n c b w0):=by
  refine⟨eg,hless,fun d W i j hq hi hj=>?_,fun d W q hq=>hq.drew q,fun d W o hq=>hq.alloc o,fun d W hq=>hq.lt⟩
  subst hs1
  have run:=run_swap_cells (P:=P) gS e ie hie hagg b 0 n c i j hi hj (d i) (d j) (hq.len i hi).1 (hq.len j hj).1 (hq.len i hi).2 (hq.len j hj).2 W
   (fun u v h=>by rw[Nat.zero_add];exact hq.cell hi h) (fun u v h=>by rw[Nat.zero_add];exact hq.cell hj h) (fun u _=>hq.free _) (fun u _=>hq.free _)
  rw[Nat.zero_add,Nat.zero_add] at run
  refine⟨_,?_,hq.swapped hi hj,?_⟩
  ·rw[hx,show(#[Value.int .i64 (i:Int),Value.int .i64 (j:Int)]++#[Value.slice (some ⟨b,0,none⟩) n c,typeHandle P e])=#[.int .i64 i,.int .i64 j,.slice (some ⟨b,0,none⟩) n c,typeHandle P e] from rfl,run]
   rfl
  ·obtain⟨_,_,_,p4,p5⟩:=fy b (d j) (i*ie.size) W
   obtain⟨_,_,_,q4,q5⟩:=fy b (d i) (j*ie.size) (W.setCells b (i*ie.size) (d j))
   refine⟨by rw[q4,p4];exact Nat.le_refl _,fun x u v hne _ hv=>?_⟩
   rw[World.cell?_of_block (w:=W) (by show _=W.heap[x]?;rw[q5 x hne,p5 x hne])];exact hv
 have hc:=zB (P:=P) (ρ:=ρ) ({L with}:LaysGt.n15 P ρ) S O n d (stableWorld P ρ t (some ⟨b,0,none⟩) n c w0) ((hQ.alloc _).alloc _) (Nat.le_refl _) hN
 refine hc.mono ?_
 rintro e w' ⟨rfl,⟨d',h1,h2,h3⟩,_⟩
 exact⟨rfl,d',h1,h2,h3⟩
end Go.Vs
namespace Go.Vs
open Go Go.Proofs Go.Shelf Go.RowKit Go.Lib Go.Sort
def rT (x:List Value):List R:=x.map R.v
def mR (x:List Value):List D:=x.map fun v=>D.r (R.v v)
theorem qu {w:World} {S:Nat→Prop} {b:Nat}:∀(x:List Value) (o:Nat),(∀v∈x,v.oneCell'=true)→(∀c v,x[c]?=some v→w.cell? ⟨b,o+c,none⟩=some v)→aK w S b o (rT x)
 |[],_,_,_=>by simp[rT,aK]
 |v::x,o,h1,h2=>by
  rw[show rT (v::x)=R.v v::rT x from rfl,aK]
  refine⟨⟨v,h2 0 v rfl,?_⟩,qu x (o+1) (fun u hu=>h1 u (by simp[hu])) fun c u hu=>?_⟩
  ·rw[a8];exact⟨rfl,h1 v (by simp)⟩
  ·rw[show o+1+c=o+(c+1) by omega];exact h2 (c+1) u hu
theorem yi {w:World} {S:Nat→Prop} {b k:Nat}:∀(Y:List (List Value)) (o:Nat),(∀y∈Y,y.length=k∧∀v∈y,v.oneCell'=true)→(∀i c v y,Y[i]?=some y→y[c]?=some v→w.cell? ⟨b,o+(i*k+c),none⟩=some v)→bA w S b k o (Y.map rT)
 |[],_,_,_=>by simp[bA]
 |y::Y,o,h1,h2=>by
  rw[List.map_cons,bA]
  refine⟨⟨by simp[rT,(h1 y (by simp)).1],qu y o (h1 y (by simp)).2 fun c v hv=>?_⟩,yi Y (o+k) (fun z hz=>h1 z (by simp[hz])) fun i c v z hz hv=>?_⟩
  ·have:=h2 0 c v y rfl hv
   rwa [Nat.zero_mul,Nat.zero_add] at this
  ·have:=h2 (i+1) c v z hz hv
   rw[Nat.succ_mul] at this
   rw[show o+k+(i*k+c)=o+(i*k+k+c) by omega];exact this
theorem qg {k:Nat}:∀(X:List (List Value)),(∀x∈X,x.length=k)→∀i c x v,X[i]?=some x→x[c]?=some v→X.flatten[i*k+c]?=some v
 |[],_,i,c,x,v,h,_=>by simp at h
 |y::X,h1,0,c,x,v,h,hv=>by
  obtain rfl:y=x:=by simpa using h
  rw[List.flatten_cons,Nat.zero_mul,Nat.zero_add,List.getElem?_append_left (List.getElem?_eq_some_iff.1 hv).1]
  exact hv
 |y::X,h1,i+1,c,x,v,h,hv=>by
  have hy:=h1 y (by simp)
  rw[List.flatten_cons,Nat.succ_mul,List.getElem?_append_right (by omega),show i*k+k+c-y.length=i*k+c by omega]
  exact qg X (fun z hz=>h1 z (by simp[hz])) i c x v (by simpa using h) hv
theorem ww {k:Nat}:∀(X:List (List Value)),(∀x∈X,x.length=k)→X.flatten.length=X.length*k
 |[],_=>by simp
 |y::X,h=>by
  rw[List.flatten_cons,List.length_append,ww X (fun z hz=>h z (by simp[hz])),h y (by simp),List.length_cons,Nat.succ_mul];omega
theorem sD {w:World} {S:Nat→Prop}:∀(x:List Value),(∀v∈x,v.oneCell'=true)→am w S (mR x) x []
 |[],_=>by simp[mR,am]
 |v::x,h=>by
  rw[show mR (v::x)=D.r (R.v v)::mR x from rfl,am]
  exact⟨v,x,[],[],rfl,rfl,by rw[cQ];exact⟨rfl,by rw[a8];exact⟨rfl,h v (by simp)⟩⟩,sD x fun u hu=>h u (by simp[hu])⟩
theorem qA {w:World} {S:Nat→Prop} {k:Nat}:∀(X:List (List Value)),(∀x∈X,x.length=k∧∀v∈x,v.oneCell'=true)→av w S k (X.map mR) X.flatten []
 |[],_=>by simp[av]
 |y::X,h=>by
  rw[List.map_cons,av]
  exact⟨y,X.flatten,[],[],rfl,rfl,⟨by simp[mR,(h y (by simp)).1],sD y (h y (by simp)).2⟩,qA X fun z hz=>h z (by simp[hz])⟩
theorem su {w:World} {S:Nat→Prop}:∀(x:List Value) {xs:List Value} {fp:List Nat},am w S (mR x) xs fp→xs=x∧fp=[]
 |[],xs,fp,h=>by simp[mR,am] at h;exact h
 |v::x,xs,fp,h=>by
  rw[show mR (v::x)=D.r (R.v v)::mR x from rfl,am] at h
  obtain⟨y,ys,f1,f2,rfl,rfl,h1,h2⟩:=h
  rw[cQ,a8] at h1
  obtain⟨rfl,rfl⟩:=su x h2
  obtain⟨rfl,rfl,_⟩:=h1
  exact⟨rfl,rfl⟩
theorem uN {w:World} {S:Nat→Prop} {k:Nat}:∀(X:List (List Value)) {xs:List Value} {fp:List Nat},av w S k (X.map mR) xs fp→xs=X.flatten∧fp=[]
 |[],xs,fp,h=>by simp[av] at h;simpa using h
 |y::X,xs,fp,h=>by
  rw[List.map_cons,av] at h
  obtain⟨x1,x2,f1,f2,rfl,rfl,h1,h2⟩:=h
  obtain⟨rfl,rfl⟩:=su y h1.2
  obtain⟨rfl,rfl⟩:=uN X h2
  exact⟨rfl,rfl⟩
end Go.Vs
namespace Go.Vs
open Go Go.Proofs Go.Shelf Go.RowKit Go.Lib Go.Sort
variable {P:Program} {ρ:Ren} {α:Type}
theorem DP {enc:α→List Value} {d:Nat→List Value}:∀(n:Nat),(∀i,i<n→∃a,d i=enc a)→∃l:List α,l.length=n∧∀i,i<n→(l.map enc)[i]?=some (d i)
 |0,_=>⟨[],rfl,fun i h=>by omega⟩
 |n+1,h=>by
  obtain⟨l,l1,l2⟩:=DP n fun i hi=>h i (by omega)
  obtain⟨a,ha⟩:=h n (by omega)
  refine⟨l++[a],by simp[l1],fun i hi=>?_⟩
  rw[List.map_append]
  by_cases hn:i<n
  ·rw[List.getElem?_append_left (by simp[l1];exact hn)];exact l2 i hn
  ·obtain rfl:i=n:=by omega
   rw[List.getElem?_append_right (by simp[l1])];simp[l1,ha]
theorem Gk {enc:α→List Value} {lt:List Value→List Value→Bool} (L:LaysGt.n8 P ρ) (t e:TypeId) (i ie:TypeInfo) (hi:P.info? t=some i) (hd:i.desc=.slice e) (hpk:P.packed t=false) (hie:P.info? e=some ie) (ke:Nat) (hke:∀w,(Extern.Rtype.kind e).run P w=.ok ke w)
 (k:Nat) (k0:0<k) (hs1:ie.size=k) (hagg:∀w,(isAgg e).run P w=.ok true w) (O:Swo lt) (g:Nat) (eg:∀args w,(callFunc g args).run P w=.ok (.enter g args) w)
 (f:Nat) (hf:∀n,2≤n→P.funcs.findIdx? (·.name== "internal/reflectlite" ++ ".Swapper$" ++toString (swapperK n ie ke))=some f)
 (hf1:∀n,n≤1→∃f,P.funcs.findIdx? (·.name== "internal/reflectlite" ++ ".Swapper$" ++toString (swapperK n ie ke))=some f)
 (gS:Bool) (hx:∀args W,(callFunc f args).run P W=((Extern.ReflectliteSwapper.swap gS args).run P W).andThen fun v w'=>.ok (.value v) w')
 (henc:∀a,(enc a).length=k∧∀v∈enc a,v.oneCell'=true)
 (hFn:∀(l:List α) (i j:Nat) (x y:List Value),(l.map enc)[i]?=some x→(l.map enc)[j]?=some y→Fn P g [.c (.v (.int .i64 i)),.c (.v (.int .i64 j)),.q [.s k ((l.map enc).map rT)]] (.c (.r (.v (.bool (lt x y))))))
 (l l':List α) (hN:l.length<1152921504606846976) (hl':l'.length=l.length)
 (huniq:∀d':Nat→List Value,Sw 0 l.length (fun i=>(l.map enc).getD i []) d'→SOn lt d' 0 l.length→∀i,i<l.length→(l'.map enc)[i]?=some (d' i)):
 BH P (ρ.f 8) t g k ((l.map enc).map mR) ((l'.map enc).map mR):=by
 have hX:∀(l:List α),∀x∈l.map enc,x.length=k∧∀v∈x,v.oneCell'=true:=fun l x hx=>by
  obtain⟨a,_,rfl⟩:=List.mem_map.1 hx;exact henc a
 refine⟨by simp[hl'],?_⟩
 intro w S0 y0 bb F hS hdr hnd hF hbb hbs hbc hK
 rw[cQ] at hdr
 obtain⟨ty,xs,fps,own,rows,rfl⟩:=hdr
 obtain⟨rfl,rfl⟩:=uN _ rows
 rw[List.length_map,List.length_map] at own
 have hget:∀i,i<l.length→(l.map enc)[i]?=some ((l.map enc).getD i []):=fun i hi=>by
  rw[List.getD_eq_getElem?_getD,List.getElem?_eq_getElem (by simpa using hi)];rfl
 by_cases h2:l.length≤1
 ·
  obtain⟨f1,hf1⟩:=hf1 l.length h2
  have hsame:l'.map enc=l.map enc:=by
   refine List.ext_getElem? fun i=>?_
   by_cases hi:i<l.length
   ·rw[huniq _ .refl (SOn.one h2) i hi,hget i hi]
   ·rw[List.getElem?_eq_none (by simp;omega),List.getElem?_eq_none (by simp;omega)]
  rw[hsame]
  obtain⟨hlen,hy⟩:=own
  have hy0:∃p c,y0=.slice p l.length c:=by
   rcases hy with⟨rfl,h0⟩|⟨b,cap,cur,rfl,_⟩
   ·exact⟨none,0,by rw[h0]⟩
   ·exact⟨_,_,rfl⟩
  obtain⟨p,c,rfl⟩:=hy0
  refine(Any.sort_SliceStable_tiny L t e i ie hi hd hpk hie ke hke p l.length c h2 f1 hf1 (.func g) #[] #[.pointer (some ⟨bb,0,none⟩)] w).mono ?_
  rintro e w' ⟨rfl,os,rfl⟩
  refine⟨(Value.slice p l.length c).ownBlock.toList++[],fun _=>False,rfl,?_,?_⟩
  ·rw[cQ]
   refine⟨ty,_,[],?_,qA _ (hX l),rfl⟩
   rw[List.length_map,List.length_map]
   refine⟨hlen,?_⟩
   rcases hy with⟨h0,h1⟩|⟨b,cap,cur,h0,h1,h3,h4⟩
   ·exact .inl ⟨h0,h1⟩
   ·exact .inr ⟨b,cap,cur,h0,h1,by rw[heap_grow_old _ _ (Array.getElem?_eq_some_iff.1 h3).1];exact h3,h4⟩
  ·refine⟨rfl,rfl,rfl,by rw[size_grow];omega,fun x hx _=>heap_grow_old _ _ hx,by simpa using hnd,fun x hx=>?_,fun x hx=>hx.elim⟩
   have:=hF x (by simpa using hx)
   exact⟨.inl (by simpa using hx),by rw[size_grow];omega,fun h=>h⟩
 ·obtain⟨hlen,⟨_,h0⟩|⟨b,cap,cur,rfl,_,hcur,hle,hmax,hsz,htake⟩⟩:=own
  ·omega
  have hbF:bb≠b:=fun h=>hbb (by simp[Value.ownBlock,h])
  have hblt:b<w.heap.size:=(Array.getElem?_eq_some_iff.1 hcur).1
  have hQ:Qr (fun x=>∃a,x=enc a) ty k l.length cap b w (fun i=>(l.map enc).getD i []) w:=by
   refine⟨⟨cur,hcur,hsz,fun i hi c v hv=>?_⟩,fun i hi=>?_,fun i hi=>?_,hle,Nat.le_refl _,fun _ _ _=>rfl,rfl,rfl,rfl⟩
   ·have h1:=qg (k:=k) (l.map enc) (fun x hx=>(hX l x hx).1) i c _ v (hget i hi) hv
    rw[←htake] at h1
    have h3:=(List.getElem?_eq_some_iff.1 h1).1
    rw[List.getElem?_take_of_lt (by simp at h3;omega)] at h1
    simpa using h1
   ·exact hX l _ (List.mem_of_getElem? (hget i hi))
   ·obtain⟨a,_,ha⟩:=List.mem_map.1 (List.mem_of_getElem? (hget i hi))
    exact⟨a,ha.symm⟩
  have hc:=AK L t e ty i ie hi hd hpk hie ke hke k hs1 hagg O g #[.pointer (some ⟨bb,0,none⟩)] eg b l.length cap (by omega) hN f (hf _ (by omega)) gS hx w _ hQ (fun d W i j hq hi hj=>by
   obtain⟨l2,l3,l4⟩:=DP l.length hq.val
   have hFn:=hFn l2 i j _ _ (l4 i hi) (l4 j hj)
   have hsW:=hq.size
   have hbW:=hq.lt
   have hrow:bA W (fun x=>S0 x∨x=b∨x=bb) b k 0 ((l2.map enc).map rT):=yi _ 0 (hX l2) fun i c v y hy hv=>by
    have hil:i<l.length:=by
     have:=(List.getElem?_eq_some_iff.1 hy).1
     simpa [l3] using this
    rw[l4 i hil] at hy
    cases hy
    rw[Nat.zero_add]
    exact hq.cell hil hv
   refine(hFn W (fun x=>S0 x∨x=b∨x=bb) [.int .i64 i,.int .i64 j,.pointer (some ⟨bb,0,none⟩)] (fun x hx=>?_) ?_ (hK W fun x hx hne=>hq.oth x hx fun h=>hne (by simp[Value.ownBlock,h]))).mono ?_
   ·rcases hx with h|rfl|rfl
    ·have:=(hS x h).1;omega
    ·exact hbW
    ·omega
   ·simp only[eN]
    refine⟨_,_,rfl,?_,_,_,rfl,?_,_,_,rfl,?_,rfl⟩
    ·rw[rI,a8];exact⟨rfl,rfl⟩
    ·rw[rI,a8];exact⟨rfl,rfl⟩
    ·simp only[rI]
     refine⟨bb,0,rfl,fun _=>.inr (.inr rfl),?_⟩
     rw[aK,aK]
     refine⟨⟨.slice (some ⟨b,0,none⟩) l.length cap,?_,?_⟩,trivial⟩
     ·rw[World.cell?_of_block (w:=w) (by show W.heap[bb]?=w.heap[bb]?;exact hq.oth bb hbs hbF)];exact hbc
     ·rw[a8]
      refine⟨_,cap,by rw[List.length_map,List.length_map,l3],by rw[List.length_map,List.length_map,l3];exact hle,hmax,fun _=>⟨b,0,rfl,.inr (.inl rfl),hrow⟩⟩
   ·rintro e w' ⟨y,F2,S2,rfl,xr,left⟩
    simp only[dL,cQ,a8] at xr
    refine⟨?_,hq.below left.below.size left.below.block left.below.os left.below.tape left.below.output,left.below.size,fun x u v _ hx hv=>?_⟩
    ·first|rw[xr.2.1]|rw[xr.1]|simp_all
    ·rw[World.cell?_of_block (w:=W) (left.below.block x hx)];exact hv)
  refine hc.mono ?_
  rintro e w' ⟨rfl,d',hq,hsw,hso⟩
  have hu:=huniq d' hsw hso
  obtain⟨cur',c1,c2,c3⟩:=hq.obj
  refine⟨[b],fun _=>False,rfl,?_,?_⟩
  ·rw[cQ]
   refine⟨ty,_,[],?_,qA _ (hX l'),by simp[Value.ownBlock]⟩
   rw[List.length_map,List.length_map,hl']
   have hfl:=ww (k:=k) (l'.map enc) fun x hx=>(hX l' x hx).1
   rw[List.length_map,hl'] at hfl
   refine⟨hfl,.inr ⟨b,cap,cur',rfl,Nat.zero_le _,c1,hle,hmax,c2,?_⟩⟩
   have hmul:=Nat.mul_le_mul_right k hle
   refine List.ext_getElem? fun t=>?_
   by_cases ht:t<l.length*k
   ·have hdiv:t/k<l.length:=Nat.div_lt_of_lt_mul (by rw[Nat.mul_comm];exact ht)
    have hmod:t%k<k:=Nat.mod_lt _ k0
    have hte:t/k*k+t%k=t:=Nat.div_add_mod' t k
    have hlt2:t%k<(d' (t/k)).length:=by rw[(hq.len _ hdiv).1];exact hmod
    have h1:=c3 (t/k) hdiv (t%k) _ (List.getElem?_eq_getElem hlt2)
    have h3:=qg (k:=k) (l'.map enc) (fun x hx=>(hX l' x hx).1) (t/k) (t%k) _ _ (hu _ hdiv) (List.getElem?_eq_getElem hlt2)
    rw[hte] at h1 h3
    rw[List.getElem?_take_of_lt ht,h3]
    simpa using h1
   ·rw[List.getElem?_eq_none (by simp;omega),List.getElem?_eq_none (by omega)]
  ·refine⟨hq.os,hq.tape,hq.output,hq.size,fun x hx hne=>hq.oth x hx (fun h=>hne (by simp[Value.ownBlock,h])),by simp,fun x hx=>?_,fun x hx=>hx.elim⟩
   obtain rfl:x=b:=by simpa using hx
   exact⟨.inl (by simp[Value.ownBlock]),hq.lt,fun h=>h⟩
end Go.Vs
namespace Go.Vs
variable {α β:Type}
theorem uS {enc:α→β} {lt:β→β→Bool} {le:α→α→Bool} {d0:β} (hlt:∀a b,lt (enc b) (enc a)= !le a b) (htr:∀a b c,le a b=true→le b c=true→le a c=true) (hto:∀a b,(le a b||le b a)=true) (han:∀a b,le a b=true→le b a=true→a=b)
 (l:List α) (d':Nat→β) (hs:Sw 0 l.length (fun i=>(l.map enc).getD i d0) d') (ho:SOn lt d' 0 l.length):∀i,i<l.length→((l.mergeSort le).map enc)[i]?=some (d' i):=by
 have hp:=hs.perm (Nat.le_refl _)
 have e0:(List.range l.length).map (fun i=>(l.map enc).getD i d0)=l.map enc:=by
  refine List.ext_getElem? fun i=>?_
  by_cases hi:i<l.length
  ·rw[List.getElem?_map,List.getElem?_range hi,Option.map_some,List.getD_eq_getElem?_getD,List.getElem?_eq_getElem (by simpa using hi)];rfl
  ·rw[List.getElem?_eq_none (by simp;omega),List.getElem?_eq_none (by simp;omega)]
 rw[e0] at hp
 have hm:∀i,i<l.length→∃a,d' i=enc a:=fun i hi=>by
  have:d' i∈(List.range l.length).map d':=List.mem_map.2 ⟨i,List.mem_range.2 hi,rfl⟩
  obtain⟨a,_,ha⟩:=List.mem_map.1 (hp.mem_iff.1 this)
  exact⟨a,ha.symm⟩
 have hpw:((List.range l.length).map d').Pairwise fun x y=>lt y x=false:=by
  rw[List.pairwise_map]
  refine List.Pairwise.imp_of_mem (R:=fun i j=>i<j) (fun{i j} hi hj hij=>?_) List.pairwise_lt_range
  exact ho i j (Nat.zero_le _) hij (List.mem_range.1 hj)
 have hms:((l.mergeSort le).map enc).Pairwise fun x y=>lt y x=false:=by
  rw[List.pairwise_map]
  refine List.Pairwise.imp (fun{a b} h=>?_) (List.pairwise_mergeSort htr hto l)
  rw[hlt,h];rfl
 have hpm:((List.range l.length).map d').Perm ((l.mergeSort le).map enc):=hp.trans ((List.mergeSort_perm l le).map enc).symm
 have he:(List.range l.length).map d'=(l.mergeSort le).map enc:=by
  refine List.Perm.eq_of_pairwise (le:=fun x y=>lt y x=false) (fun x y hx hy h1 h2=>?_) hpw hms hpm
  obtain⟨i,hi,rfl⟩:=List.mem_map.1 hx
  obtain⟨a,ha⟩:=hm i (List.mem_range.1 hi)
  obtain⟨b,_,rfl⟩:=List.mem_map.1 hy
  rw[ha] at h1 h2 ⊢
  rw[hlt] at h1 h2
  rw[han a b (by simpa using h1) (by simpa using h2)]
 intro i hi
 rw[←he,List.getElem?_map,List.getElem?_range hi];rfl
end Go.Vs
