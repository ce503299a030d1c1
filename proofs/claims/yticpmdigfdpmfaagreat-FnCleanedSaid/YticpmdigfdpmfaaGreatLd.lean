/- What is left of scans: the laws Cleaned and Between, over any network and scans. -/
import Derived.Test.YticpmdigfdpmfaaGreatPk
import Derived.Test.YticpmdigfdpmfaaGreatLab
import Derived.Test.YticpmdigfdpmfaaGreatLaa
import Derived.Test.YticpmdigfdpmfaaGreatLaf
set_option linter.unusedVariables false
set_option linter.unusedSimpArgs false
set_option linter.unusedSectionVars false
namespace Go.Vs
open Go.IntWalk
theorem qG {n:Network} (ht:n.tot≤1048576) (l:List Scan) (x:Int) {w:List Scan} (hw:w.length≤200) (hc:Chn n none w):∀(m k:Nat),k+1+m=w.length→bv G.real TE.real (n,l,x) w m ((k+1:Nat):Int)=some (.out ())
 |0,k,_=>by rw[bv]
 |m+1,k,h=>by
  have g1:=List.getElem?_eq_getElem (l:=w) (i:=k) (by omega)
  have g2:=List.getElem?_eq_getElem (l:=w) (i:=k+1) (by omega)
  rw[bv]
  simp only[gq,bq,bp,zA,dq,D6 ht (gw ht),ag]
  rw[w64 (n:=((k+1:Nat):Int)-1) (by omega) (by omega),aj (by omega),show(((k+1:Nat):Int)-1).toNat=k by omega,aq g1,Int.toNat_natCast,aq g2,uA hc g1 g2,cu,w64 (by omega) (by omega),show((k+1:Nat):Int)+1=((k+1+1:Nat):Int) by omega]
  exact qG ht l x hw hc m (k+1) (by omega)
theorem xX {n:Network} (ht:n.tot≤1048576) {l:List Scan} (hl:l.length≤1048576) (x:Int):
 (cl (dk G.real TE.real n l x) fun x3=>cl (gF G.real TE.real n l x) fun x4=>
  br (G.real.eq (G.real.llen (TE.real.r_Scan x3)) (G.real.llen (TE.real.r_Scan x4)))
  (cl (gb G.real TE.real n x3 x) fun x5=>
   br (G.real.lt 0 (G.real.llen (TE.real.r_I64 x5))) (some false)
   (cl (dk G.real TE.real n x3 x) fun x6=>cl (iJ G.real TE.real x6 x3) fun x7=>
    br x7 (gd ((G.real.llen (TE.real.r_Scan x3))≤9223372036854775807)<|
     cl (bv G.real TE.real (n,l,x) x3 (ap 1 (G.real.llen (TE.real.r_Scan x3))) 1) fun o1=>lr o1 fun y1=>
     cl (d7 G.real TE.real n l x) fun x11=>
     br (G.real.eq (G.real.llen (TE.real.r_Scan x3)) 0)
      (br (G.real.eq (G.real.llen (TE.real.r_Scan x11)) 0) (some true) (some false))
      (br (G.real.eq (G.real.llen (TE.real.r_Scan x11)) 0) (some false) (some true)))
    (some false))) (some false))=some true:=by
 have hw:=qq n l x
 have hs:=iV n l x
 rw[AN ht l hl,GM ht l hl,ag,ag]
 simp only[ml,wo,dM,dR,decide_true,cu]
 rw[Cb ht _ (by omega),ag,DP,AN ht _ (by omega),ag,Fk,qt _ (by omega),ag,ub ht l hl]
 rw[show decide ((0:Int)<(([]:List Int).length:Int))=false from rfl,qk,cu,aj (by omega)]
 have hloop:bv G.real TE.real (n,l,x) (cnB n l x) (ap 1 ((cnB n l x).length:Int)) 1=some (.out ()):=by
  by_cases h0:(cnB n l x).length=0
  ·rw[h0];exact(by rw[show ap 1 ((0:Nat):Int)=0 from rfl,bv])
  ·have hc:ap 1 ((cnB n l x).length:Int)=(cnB n l x).length-1:=by unfold ap;omega
   rw[hc]
   exact qG ht l x hw (qw n l x) _ 0 (by omega)
 rw[hloop,ag,mL,ag]
 by_cases h0:cnB n l x=[]
 ·rw[h0,zN.1 h0];rfl
 ·have h1:ir n l x≠[]:=fun h=>h0 (zN.2 h)
  have l0:=List.length_pos_iff.2 h0
  have l1:=List.length_pos_iff.2 h1
  rw[am,am,am,if_neg (by omega),if_neg (by omega)]
theorem nS {o:Option Scan} (h:(opS o).2=true):o=some (opS o).1:=by
 cases o with
 |none=>cases h
 |some s=>rfl
theorem td {o:Option Scan} (h:(opS o).2=false):o=none:=by
 cases o with
 |none=>rfl
 |some s=>cases h
theorem FI {l:List Scan} (h:od l):l.Pairwise fun a b=>a.At≤b.At:=h.imp fun{a b} hc=>by
 rw[vx] at hc
 unfold lex at hc
 split at hc
 ·rename_i h0
  exact Int.le_of_eq (iP h0)
 ·have hc2:fH a.At b.At<0:=hc
  unfold fH at hc2
  split at hc2
  ·omega
  ·split at hc2
   ·omega
   ·omega
theorem tE:∀{w:List Scan} {a:Int},(w.Pairwise fun a b:Scan=>a.At≤b.At)→∃k,w.take k=w.filter (fun s=>decide (s.At≤a))∧w.drop k=w.filter (fun s=>decide (a<s.At))∧k≤w.length
 |[],a,_=>⟨0,rfl,rfl,Nat.le_refl _⟩
 |s::w,a,h=>by
  obtain⟨h1,h2⟩:=List.pairwise_cons.1 h
  by_cases hc:s.At≤a
  ·obtain⟨k,k1,k2,k3⟩:=tE (a:=a) h2
   refine⟨k+1,?_,?_,by simpa using k3⟩
   ·rw[List.take_succ_cons,k1,List.filter_cons_of_pos (by simpa using hc)]
   ·rw[List.drop_succ_cons,k2,List.filter_cons_of_neg (by simpa using hc)]
  ·refine⟨0,?_,?_,Nat.zero_le _⟩
   ·rw[List.take_zero];symm
    rw[List.filter_eq_nil_iff]
    intro z hz
    rcases List.mem_cons.1 hz with rfl|hz
    ·simpa using hc
    ·have:=h1 z hz
     simp;omega
   ·rw[List.drop_zero];symm
    rw[List.filter_eq_self]
    intro z hz
    rcases List.mem_cons.1 hz with rfl|hz
    ·simp;omega
    ·have:=h1 z hz
     simp;omega
theorem AZ {w:List Scan} {p:Scan→Bool}:w.reverse.find? p=(w.filter p).getLast? :=by
 rw[←List.head?_filter,List.filter_reverse,List.head?_reverse]
theorem GS {n:Network} {l:List Scan} {x a:Int} (h1:(laB n l x a).2=true) (h2:(nxB n l x a).2=true):cfB n (laB n l x a).1 (nxB n l x a).1=true:=by
 have e1:(cnB n l x).reverse.find? (fun s=>decide (s.At≤a))=some (laB n l x a).1:=nS h1
 have e2:(cnB n l x).find? (fun s=>decide (a<s.At))=some (nxB n l x a).1:=nS h2
 obtain⟨k,k1,k2,k3⟩:=tE (a:=a) (FI (zj n l x))
 rw[AZ,←k1] at e1
 rw[←List.head?_filter,←k2] at e2
 have hk:0<k:=by
  rcases Nat.eq_zero_or_pos k with h|h
  ·subst h;simp at e1
  ·exact h
 rw[List.getLast?_eq_getElem?,List.length_take,Nat.min_eq_left k3,List.getElem?_take_of_lt (by omega)] at e1
 rw[List.head?_drop] at e2
 exact uA (k:=k-1) (qw n l x) e1 (by rw[Nat.sub_add_cancel hk];exact e2)
theorem wJ {n:Network} (ht:n.tot≤1048576) {l:List Scan} (hl:l.length≤1048576) (x a:Int):
 (cl (fL G.real TE.real n l x a) fun x3=>cl (gK G.real TE.real n l x a) fun x4=>
  br x3.2
  (br x4.2
   (cl (eO G.real TE.real n l x a) fun x5=>
    br (G.real.lt a x3.1.At) (some false)
    (br x5.2
     (br (G.real.le x5.1.At a) (some false)
      (cl (dJ G.real TE.real n (Scan.mk x3.1.Thing x3.1.At x3.1.Kind x3.1.Place (Trip.mk x3.1.Trip.Leg x3.1.Trip.Day)) (Scan.mk x5.1.Thing x5.1.At x5.1.Kind x5.1.Place (Trip.mk x5.1.Trip.Leg x5.1.Trip.Day))) fun x6=>br x6 (some true) (some false)))
     (some true)))
   (some false))
  (br x4.2 (some false)
   (cl (eO G.real TE.real n l x a) fun x7=>
    br x7.2 (br (G.real.le x7.1.At a) (some false) (some true))
     (cl (dk G.real TE.real n l x) fun x8=>some (G.real.eq (G.real.llen (TE.real.r_Scan x8)) 0)))))=some true:=by
 rw[Hz ht l hl,la_s ht l hl,nx_i ht l hl,AN ht l hl,ag,ag,ag,ag,ag]
 simp only[dq,D6 ht (gw ht),ag,dR,jQ,dM,ml,am]
 have hnx:(nxB n l x a).2=true→a<(nxB n l x a).1.At:=fun h=>by
  have e:(cnB n l x).find? (fun s=>decide (a<s.At))=some (nxB n l x a).1:=nS h
  have:=List.find?_some e
  simpa using this
 have hla:(laB n l x a).2=true→(laB n l x a).1.At≤a:=fun h=>by
  have e:(cnB n l x).reverse.find? (fun s=>decide (s.At≤a))=some (laB n l x a).1:=nS h
  have:=List.find?_some e
  simpa using this
 cases h1:(laB n l x a).2 with
 |true=>
  have q1:=hla h1
  rw[cu,cu,if_neg (by omega)]
  cases h2:(nxB n l x a).2 with
  |true=>
   have q2:=hnx h2
   rw[cu,if_neg (by omega),GS h1 h2];rfl
  |false=>rfl
 |false=>
  rw[qk,qk]
  cases h2:(nxB n l x a).2 with
  |true=>
   have q2:=hnx h2
   rw[cu,if_neg (by omega)]
  |false=>
   rw[qk]
   have e1:=td h1
   have e2:=td h2
   rw[List.find?_eq_none] at e1 e2
   have:cnB n l x=[]:=by
    cases hc:cnB n l x with
    |nil=>rfl
    |cons y m=>
     have a1:=e1 y (by rw[hc];simp)
     have a2:=e2 y (by rw[hc];simp)
     simp at a1 a2;omega
   rw[this];rfl
end Go.Vs
