/- The soonest time at a place: both texts agree. Conditions on the last and the next scan. -/
import Derived.Test.YtilplaaijbpilaaGreatGbA
import Derived.Test.YtilplaaijbpilaaGreatLaf
set_option linter.unusedVariables false
set_option linter.unusedSimpArgs false
set_option linter.unusedSectionVars false
namespace Go.Vs
open Go.IntWalk
theorem pP {n:Network} (ht:n.tot≤1048576):(plc n).length≤4194304:=by
 have:=hJ n
 have:=cf ht
 omega
theorem Ft {n:Network} (ht:n.tot≤1048576) (s:ByteArray) (a:Int) (p:ByteArray):kA G.real TE.real n s a p=some (reB n ⟨s,a⟩ p):=by
 unfold kA reB
 simp only[iR,ao,Ha ht (cf ht),ag]
 split<;>rfl
def snB (n:Network) (l:List Scan) (x:Int) (p:ByteArray):Int:=
 match (cnB n l x).getLast? with
 |none=> -1
 |some s=>if s.Kind=4 then-1 else if ix (plc n) p<0 then-1 else reB n (bhB n s) p
theorem sn_i {n:Network} (ht:n.tot≤1048576) (l:List Scan) (hl:l.length≤1048576) (x:Int) (p:ByteArray):kz G.real TE.real n l x p=some (snB n l x p):=by
 have h2:=sU n l x
 unfold kz snB
 rw[Cv ht l hl,ag]
 simp only[bx,cg,co,kN,aZ,bv,aA,dh,ao,vc (cf ht),ag,tu (pP ht),GG ht,Ft ht]
 by_cases h0:cnB n l x=[]
 ·rw[if_pos (by rw[h0];rfl),h0];rfl
 ·have hwl:0<(cnB n l x).length:=List.length_pos_iff.2 h0
  have hp:=List.getElem?_eq_getElem (l:=cnB n l x) (i:=(cnB n l x).length-1) (by omega)
  rw[if_neg (by omega),w64 (by omega) (by omega),aj (by omega),show(((cnB n l x).length:Int)-1).toNat=(cnB n l x).length-1 from by omega,az hp,List.getLast?_eq_getElem?,hp,aj (by omega)]
  dsimp only
  split
  ·rfl
  ·split<;>rfl
theorem sn_s {n:Network} (ht:n.tot≤1048576) (l:List Scan) (hl:l.length≤1048576) (x:Int) (p:ByteArray):kB G.real TE.real n l x p=some (snB n l x p):=by
 have h2:=sU n l x
 unfold kB snB
 rw[FH ht l hl,ag]
 simp only[bx,cg,co,kN,aZ,bv,aA,dh,ao,rL (cf ht),ag,wb (pP ht),Fh ht,qx ht (cf ht)]
 by_cases h0:cnB n l x=[]
 ·rw[w64 (by omega) (by omega),if_pos (by rw[h0];simp),h0];rfl
 ·have hwl:0<(cnB n l x).length:=List.length_pos_iff.2 h0
  have hp:=List.getElem?_eq_getElem (l:=cnB n l x) (i:=(cnB n l x).length-1) (by omega)
  rw[w64 (by omega) (by omega),if_neg (by omega),aj (by omega),show(((cnB n l x).length:Int)-1).toNat=(cnB n l x).length-1 from by omega,az hp,List.getLast?_eq_getElem?,hp,aj (by omega)]
  dsimp only
  split
  ·rfl
  ·split<;>rfl
theorem Ef {n:Network} {l:List Scan} {x:Int} {s:Scan} (h:s∈cnB n l x):scB n s=true:=by
 have h1:=(oP n _ _).subset h
 have h2:=(qX _ _).subset (List.mem_filter.1 h1).1
 have h3:=(List.mergeSort_perm (okS n l) leS).subset h2
 exact(List.mem_filter.1 h3).2
theorem AE {l:List Scan} {o:Option Scan} (h:∀s,o=some s→s∈l):(opS o).2=true→(opS o).1∈l:=by
 cases o with
 |none=>intro h;cases h
 |some s=>intro _;exact h s rfl
theorem FG {n:Network} {l:List Scan} {x a:Int} (h:(laB n l x a).2=true):(laB n l x a).1∈cnB n l x:=
 AE (fun s h=>by have:=List.mem_of_find?_eq_some h;simpa using this) h
theorem Ga {n:Network} {l:List Scan} {x a:Int} (h:(nxB n l x a).2=true):(nxB n l x a).1∈cnB n l x:=
 AE (fun s h=>List.mem_of_find?_eq_some h) h
theorem nW {n:Network} {l:List Scan} {x a:Int} (h:(laB n l x a).2=true):scB n (laB n l x a).1=true:=Ef (FG h)
theorem Aj {n:Network} {l:List Scan} {x a:Int} (h:(nxB n l x a).2=true):scB n (nxB n l x a).1=true:=Ef (Ga h)
theorem wL {α:Type} {n:Network} (ht:n.tot≤1048576) {B:Scan×Bool} (hB:B.2=true→scB n B.1=true) (a:Int) (yes no:Option α):
 br B.2 (br (G.real.eq B.1.Kind 2) (cl (bg G.real TE.real n (Trip.mk B.1.Trip.Leg B.1.Trip.Day)) fun x=>br (G.real.le x a) yes no) no) no=if B.2=true∧B.1.Kind=2∧stN n B.1.Trip.Leg B.1.Trip.Day≤a then yes else no:=by
 cases hb:B.2 with
 |false=>rw[jn,if_neg (by simp)]
 |true=>
  rw[ba,co,ao]
  by_cases hk:B.1.Kind=2
  ·obtain⟨hn,_,r1,r2,r3,r4⟩:=d6 ht (kQ (hB hb)) (.inr hk)
   rw[if_pos hk,kR hn r1 r2 r3 r4,ag,kH,ao]
   by_cases hs:stN n B.1.Trip.Leg B.1.Trip.Day≤a
   ·rw[if_pos hs,if_pos ⟨rfl,hk,hs⟩]
   ·rw[if_neg hs,if_neg (fun h=>hs h.2.2)]
  ·rw[if_neg hk,if_neg (fun h=>hk h.2.1)]
theorem FR {α:Type} {n:Network} (ht:n.tot≤1048576) {B:Scan×Bool} (hB:B.2=true→scB n B.1=true) (a:Int) (yes no:Option α):
 br B.2 (br (G.real.eq B.1.Kind 2) (cl (dX G.real TE.real n (Trip.mk B.1.Trip.Leg B.1.Trip.Day)) fun x=>br (G.real.le x a) yes no) no) no=if B.2=true∧B.1.Kind=2∧stN n B.1.Trip.Leg B.1.Trip.Day≤a then yes else no:=by
 rw[←wL ht hB a yes no]
 cases hb:B.2 with
 |false=>rfl
 |true=>
  rw[ba,ba,co,ao,ao]
  by_cases hk:B.1.Kind=2
  ·obtain⟨hn,_,r1,r2,r3,r4⟩:=d6 ht (kQ (hB hb)) (.inr hk)
   rw[if_pos hk,if_pos hk,kR hn r1 r2 r3 r4,mc hn r1 r2 r3 r4]
  ·rw[if_neg hk,if_neg hk]
theorem AU {α:Type} {n:Network} (ht:n.tot≤1048576) {A:Scan×Bool} (hA:scB n A.1=true) (a:Int) (yes no:Option α):
 br (G.real.eq A.1.Kind 3) (cl (bP G.real TE.real n (Trip.mk A.1.Trip.Leg A.1.Trip.Day)) fun x=>br (G.real.lt a x) yes no) no=if A.1.Kind=3∧a<enN n A.1.Trip.Leg A.1.Trip.Day then yes else no:=by
 rw[co,ao]
 by_cases hk:A.1.Kind=3
 ·obtain⟨hn,_,r1,r2,r3,r4⟩:=d6 ht (kQ hA) (.inl hk)
  rw[if_pos hk,vN hn r1 r2 r3 r4,ag,bv,ao]
  by_cases hs:a<enN n A.1.Trip.Leg A.1.Trip.Day
  ·rw[if_pos hs,if_pos ⟨hk,hs⟩]
  ·rw[if_neg hs,if_neg (fun h=>hs h.2)]
 ·rw[if_neg hk,if_neg (fun h=>hk h.1)]
theorem FE {α:Type} {n:Network} (ht:n.tot≤1048576) {A:Scan×Bool} (hA:scB n A.1=true) (a:Int) (yes no:Option α):
 br (G.real.eq A.1.Kind 3) (cl (iv G.real TE.real n (Trip.mk A.1.Trip.Leg A.1.Trip.Day)) fun x=>br (G.real.lt a x) yes no) no=if A.1.Kind=3∧a<enN n A.1.Trip.Leg A.1.Trip.Day then yes else no:=by
 rw[co,ao]
 by_cases hk:A.1.Kind=3
 ·obtain⟨hn,_,r1,r2,r3,r4⟩:=d6 ht (kQ hA) (.inl hk)
  rw[if_pos hk,vq hn r1 r2 r3 r4,ag,bv,ao]
  by_cases hs:a<enN n A.1.Trip.Leg A.1.Trip.Day
  ·rw[if_pos hs,if_pos ⟨hk,hs⟩]
  ·rw[if_neg hs,if_neg (fun h=>hs h.2)]
 ·rw[if_neg hk,if_neg (fun h=>hk h.1)]
end Go.Vs
