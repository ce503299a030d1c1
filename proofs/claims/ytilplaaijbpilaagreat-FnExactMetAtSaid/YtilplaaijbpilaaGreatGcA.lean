/- The soonest time at a place: both texts agree. Conditions on the last and the next scan. -/
import Derived.Test.YtilplaaijbpilaaGreatGbA
import Derived.Test.YtilplaaijbpilaaGreatLae
set_option linter.unusedVariables false
set_option linter.unusedSimpArgs false
set_option linter.unusedSectionVars false
namespace Go.Vs
open Go.IntWalk
theorem sA {n:Network} (ht:n.tot≤1048576):(plc n).length≤4194304:=by
 have:=fX n
 have:=de ht
 omega
theorem Cp {n:Network} {l:List Scan} {x:Int} {s:Scan} (h:s∈cnB n l x):scB n s=true:=by
 have h1:=(oY n _ _).subset h
 have h2:=(qL _ _).subset (List.mem_filter.1 h1).1
 have h3:=(List.mergeSort_perm (okS n l) leS).subset h2
 exact(List.mem_filter.1 h3).2
theorem zG {l:List Scan} {o:Option Scan} (h:∀s,o=some s→s∈l):(opS o).2=true→(opS o).1∈l:=by
 cases o with
 |none=>intro h;cases h
 |some s=>intro _;exact h s rfl
theorem Es {n:Network} {l:List Scan} {x a:Int} (h:(laB n l x a).2=true):(laB n l x a).1∈cnB n l x:=
 zG (fun s h=>by have:=List.mem_of_find?_eq_some h;simpa using this) h
theorem DX {n:Network} {l:List Scan} {x a:Int} (h:(nxB n l x a).2=true):(nxB n l x a).1∈cnB n l x:=
 zG (fun s h=>List.mem_of_find?_eq_some h) h
theorem nz {n:Network} {l:List Scan} {x a:Int} (h:(laB n l x a).2=true):scB n (laB n l x a).1=true:=Cp (Es h)
theorem yS {n:Network} {l:List Scan} {x a:Int} (h:(nxB n l x a).2=true):scB n (nxB n l x a).1=true:=Cp (DX h)
theorem vt {α:Type} {n:Network} (ht:n.tot≤1048576) {B:Scan×Bool} (hB:B.2=true→scB n B.1=true) (a:Int) (yes no:Option α):
 br B.2 (br (G.real.eq B.1.Kind 2) (cl (aU G.real TE.real n (Trip.mk B.1.Trip.Leg B.1.Trip.Day)) fun x=>br (G.real.le x a) yes no) no) no=if B.2=true∧B.1.Kind=2∧stN n B.1.Trip.Leg B.1.Trip.Day≤a then yes else no:=by
 cases hb:B.2 with
 |false=>rw[gX,if_neg (by simp)]
 |true=>
  rw[bd,cB,am]
  by_cases hk:B.1.Kind=2
  ·obtain⟨hn,_,r1,r2,r3,r4⟩:=dg ht (iX (hB hb)) (.inr hk)
   rw[if_pos hk,jd hn r1 r2 r3 r4,af,iI,am]
   by_cases hs:stN n B.1.Trip.Leg B.1.Trip.Day≤a
   ·rw[if_pos hs,if_pos ⟨rfl,hk,hs⟩]
   ·rw[if_neg hs,if_neg (fun h=>hs h.2.2)]
  ·rw[if_neg hk,if_neg (fun h=>hk h.2.1)]
theorem EK {α:Type} {n:Network} (ht:n.tot≤1048576) {B:Scan×Bool} (hB:B.2=true→scB n B.1=true) (a:Int) (yes no:Option α):
 br B.2 (br (G.real.eq B.1.Kind 2) (cl (da G.real TE.real n (Trip.mk B.1.Trip.Leg B.1.Trip.Day)) fun x=>br (G.real.le x a) yes no) no) no=if B.2=true∧B.1.Kind=2∧stN n B.1.Trip.Leg B.1.Trip.Day≤a then yes else no:=by
 rw[←vt ht hB a yes no]
 cases hb:B.2 with
 |false=>rfl
 |true=>
  rw[bd,bd,cB,am,am]
  by_cases hk:B.1.Kind=2
  ·obtain⟨hn,_,r1,r2,r3,r4⟩:=dg ht (iX (hB hb)) (.inr hk)
   rw[if_pos hk,if_pos hk,jd hn r1 r2 r3 r4,kb hn r1 r2 r3 r4]
  ·rw[if_neg hk,if_neg hk]
theorem z5 {α:Type} {n:Network} (ht:n.tot≤1048576) {A:Scan×Bool} (hA:scB n A.1=true) (a:Int) (yes no:Option α):
 br (G.real.eq A.1.Kind 3) (cl (bw G.real TE.real n (Trip.mk A.1.Trip.Leg A.1.Trip.Day)) fun x=>br (G.real.lt a x) yes no) no=if A.1.Kind=3∧a<enN n A.1.Trip.Leg A.1.Trip.Day then yes else no:=by
 rw[cB,am]
 by_cases hk:A.1.Kind=3
 ·obtain⟨hn,_,r1,r2,r3,r4⟩:=dg ht (iX hA) (.inl hk)
  rw[if_pos hk,tQ hn r1 r2 r3 r4,af,bB,am]
  by_cases hs:a<enN n A.1.Trip.Leg A.1.Trip.Day
  ·rw[if_pos hs,if_pos ⟨hk,hs⟩]
  ·rw[if_neg hs,if_neg (fun h=>hs h.2)]
 ·rw[if_neg hk,if_neg (fun h=>hk h.1)]
theorem D7 {α:Type} {n:Network} (ht:n.tot≤1048576) {A:Scan×Bool} (hA:scB n A.1=true) (a:Int) (yes no:Option α):
 br (G.real.eq A.1.Kind 3) (cl (f9 G.real TE.real n (Trip.mk A.1.Trip.Leg A.1.Trip.Day)) fun x=>br (G.real.lt a x) yes no) no=if A.1.Kind=3∧a<enN n A.1.Trip.Leg A.1.Trip.Day then yes else no:=by
 rw[cB,am]
 by_cases hk:A.1.Kind=3
 ·obtain⟨hn,_,r1,r2,r3,r4⟩:=dg ht (iX hA) (.inl hk)
  rw[if_pos hk,tY hn r1 r2 r3 r4,af,bB,am]
  by_cases hs:a<enN n A.1.Trip.Leg A.1.Trip.Day
  ·rw[if_pos hs,if_pos ⟨hk,hs⟩]
  ·rw[if_neg hs,if_neg (fun h=>hs h.2)]
 ·rw[if_neg hk,if_neg (fun h=>hk h.1)]
end Go.Vs
