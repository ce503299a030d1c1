/- The law FnScanOrder holds: whatever its arguments, the call returns true and leaves them as they were. No condition. -/
import Derived.Test.YticpmdigfdpmfaaGreatDra
import Derived.Test.YticpmdigfdpmfaaGreatPk
import Derived.Test.YticpmdigfdpmfaaGreatLaa
import Derived.Test.YticpmdigfdpmfaaGreatLag
import Derived.Test.YticpmdigfdpmfaaGreatIs
import Derived.Test.YticpmdigfdpmfaaGreatOrder
import Derived.Test.YticpmdigfdpmfaaGreatRows
set_option linter.unusedVariables false
set_option linter.unusedSimpArgs false
set_option linter.unusedSectionVars false
namespace Go.Vs
open Go.IntWalk
theorem xP (x2:Network×(List Scan)×Int) (hl:x2.2.1.length≤1000):∀(k fuel:Nat) (w:List Scan),k≤x2.2.1.length→k<fuel→w.length+k≤5000→
 bO G.real TE.real x2 fuel w ((k:Int)-1)=some (w++(x2.2.1.take k).reverse)
 |_,0,_,_,hf,_=>absurd hf (Nat.not_lt_zero _)
 |0,fuel+1,w,_,_,_=>by
  rw[bO,jQ,am,if_neg (by omega)];simp
 |k+1,fuel+1,w,hk,hf,hw=>by
  have g:=List.getElem?_eq_getElem (l:=x2.2.1) (i:=k) (by omega)
  rw[bO,jQ,am,if_pos (by omega),aj (by omega),bp,show(((k+1:Nat):Int)-1).toNat=k by omega,aq g]
  simp only[a9,dq,gq]
  rw[aj (by simp;omega),show((k+1:Nat):Int)-1=(k:Int) by omega,w64 (by omega) (by omega),xP x2 hl k fuel _ (by omega) (by omega) (by simp;omega),List.take_add_one,g,Option.toList_some,List.reverse_append,List.reverse_singleton,List.append_assoc]
theorem xi {w:List Scan} (hw:w.length≤200) (hs:od w):∀(m k:Nat),k+1+m=w.length→bj G.real TE.real w m ((k+1:Nat):Int)=some (.out ())
 |0,k,_=>by rw[bj]
 |m+1,k,h=>by
  have g1:=List.getElem?_eq_getElem (l:=w) (i:=k) (by omega)
  have g2:=List.getElem?_eq_getElem (l:=w) (i:=k+1) (by omega)
  have hc:cmS (w[k]'(by omega)) (w[k+1]'(by omega))<0:=List.pairwise_iff_getElem.1 hs k (k+1) (by omega) (by omega) (by omega)
  rw[bj]
  simp only[gq,bq,bp,jQ,dq,a9,FN,am]
  rw[w64 (n:=((k+1:Nat):Int)-1) (by omega) (by omega),aj (by omega),show(((k+1:Nat):Int)-1).toNat=k by omega,aq g1,Int.toNat_natCast,aq g2,if_neg (by omega),w64 (by omega) (by omega),show((k+1:Nat):Int)+1=((k+1+1:Nat):Int) by omega]
  exact xi hw hs m (k+1) (by omega)
theorem Co {n:Network} {l m:List Scan} (h1:l.length≤200) (h2:m.length≤200) (h:∀x,x∈l↔x∈m):soB n l=soB n m:=by
 refine oF (mp n l) (mp n m) fun x=>?_
 rw[oj,oj,List.take_of_length_le h1,List.take_of_length_le h2,h]
theorem vz (a:List Int) (_:a.length≤9223372036854775807∧∀x∈a,0≤x∧x≤255):fz G.real TE.real a=some true:=by
 unfold fz
 rw[a9,Cz,am]
 split
 ·rfl
 ·obtain⟨⟨n,l,x⟩,e,ht,hl⟩:=lT a (by omega)
  have ht:n.tot≤1048576:=ht
  have hl:l.length≤1000:=hl
  rw[e,ag]
  have h1:=xP (n,l,x) hl l.length 1000000000 [] (Nat.le_refl _) (by omega) (by simp;omega)
  simp only[ml,a9,gq,zA,dz,bC,dR,dM,am]
  rw[w64 (by omega) (by omega),h1,ag,List.take_length,aj (by simp;omega),aj (by simp;omega)]
  simp only[List.nil_append]
  split
  ·rfl
  ·rename_i hlen
   have hl2:l.length+l.length≤200:=by simp at hlen;omega
   have hb:(l.reverse++l).length≤200:=by simp;omega
   have e1:soB n (l.reverse++l)=soB n l:=Co hb (by omega) (fun z=>by simp)
   have e2:soB n l.reverse=soB n l:=Co (by simp;omega) (by omega) (fun z=>by simp)
   have e3:soB n (soB n l)=soB n l:=zB (mp n l) (qz n l) (fun z hz=>(oj.1 hz).2)
   have hsl:=qz n l
   have hsf:=iV n l x
   have f1:ir n (l.reverse++l) x=ir n l x:=by unfold ir;rw[e1]
   have f2:vG n l.reverse x=vG n l x:=by unfold vG ir;rw[e2]
   have hcl:=Dd n l x
   rw[Ci ht l (by omega),Id ht l (by omega),ag,ag,if_pos rfl,aj (by omega)]
   have hloop:bj G.real TE.real (soB n l) (ap 1 ((soB n l).length:Int)) 1=some (.out ()):=by
    by_cases h0:(soB n l).length=0
    ·rw[h0];exact(by rw[show ap 1 ((0:Nat):Int)=0 from rfl,bj])
    ·have hc:ap 1 ((soB n l).length:Int)=(soB n l).length-1:=by unfold ap;omega
     rw[hc]
     exact xi hsl (mp n l) _ 0 (by omega)
   rw[hloop,ag,mL,Ci ht _ (by omega),ag,e1,qt _ (by omega),ag,cu,Ci ht _ (by omega),ag,e3,qt _ (by omega),ag,cu,ub ht l (by omega),ag,ub ht _ (by omega),ag,f1,qt _ (by omega),ag,cu,
    Cb ht l (by omega),ag,Cb ht _ (by simp;omega),ag,f2,FK _ (by omega),ag]
end Go.Vs
namespace Go.Vs
theorem law5 (a:List Int) (h:a.length≤9223372036854775807∧∀x∈a,0≤x∧x≤255):fz G.real TE.real a=some true:=vz a h
end Go.Vs
namespace Go.Proofs.YticpmdigfdpmfaaGreat.fnScanOrder
open Go.Vs Go.RowKit Go.WideShapes Go.ChangeShapes
set_option linter.unusedVariables false
set_option maxRecDepth 100000
theorem xL (as0:List A) (h:pq Tryz.prog 8 Tryz.f5.params.toList as0):Go.Vs.Fn Tryz.prog 5 as0 (.c (.r (.v (.bool true)))):=by
 rw[Tryz.params5] at h
 obtain⟨x0,xs0,rfl,⟨ts0,t0,q0⟩,h⟩:=h
 rw[show lk Tryz.prog 8 22=some [.sl [.int .u8]] from by kernel_rfl] at t0
 cases t0
 rw[show wF Tryz.prog 22=false from by kernel_rfl] at q0
 obtain⟨r0,rfl,q0⟩:=q0
 obtain⟨_,_,e0,q0,e0_⟩:=qs q0
 cases e0
 obtain⟨b0,rfl,l0,q0⟩:=B3 q0
 obtain⟨a0,rfl,p0⟩:=qv CV b0 q0
 rw[List.length_map] at l0
 have h:=h
 subst h
 exact qg rfl rfl (law5 _ ⟨l0,p0⟩)
theorem lifted (os:Os) (started:os.Started) (H:Type) (enc:TypeId×Value→H):
 ReturnsInHanded {} Tryz.checked os 5 .any (Rows.fnScanOrderSpec.pre6 enc Tryz.prog Tryz.f5 Rows.fnScanOrderRow.domain false) (Rows.fnScanOrderSpec.post enc Tryz.prog Tryz.f5 false true false false):=by
 refine returnsInHanded_of_change (C:=Tryz.checked) (s:=Rows.fnScanOrderSpec) (by kernel_rfl) started (by kernel_rfl) Tryz.func5
  (ChangeSpec.witness6 (enc:=enc) (C:=Tryz.checked) false ⟨#[],#[.slice none 0 0],[]⟩ 8 (by kernel_rfl) (by kernel_rfl) (by kernel_rfl) (by kernel_rfl)) ?_
 intro W base args ds gs before hval hW _ _
 refine kW (n:=8) (tb:=4) rfl rfl Tryz.underlying4 (by kernel_rfl) (by kernel_rfl) (fun ds hl=>?_) xL W base args ds gs before hval hW
 rw[Tryz.params5] at hl
 match ds,hl with
 |[d0],_=>exact⟨rfl,rfl,rfl⟩
theorem we:joinedFacts Tryz.prog 5 Tryz.f5 Rows.fnScanOrderSpec Rows.fnScanOrderRow=true:=by
 unfold joinedFacts
 exact(av (av (av (av (av (av (av (av (av (av (av (av (av (av (av (av (av (av (av (av (av (av (av (av (av (av (av (av (av (av (av (by kernel_rfl) uH) vE) (by kernel_rfl)) (by kernel_rfl)) (by kernel_rfl)) (by kernel_rfl)) (by kernel_rfl)) (by kernel_rfl)) (by kernel_rfl)) (by kernel_rfl)) (by kernel_rfl)) (by kernel_rfl)) (by kernel_rfl)) (by kernel_rfl)) (by kernel_rfl)) (by kernel_rfl)) (by kernel_rfl)) (by kernel_rfl)) (by kernel_rfl)) (by kernel_rfl)) (by kernel_rfl)) (by kernel_rfl)) (by kernel_rfl)) ru) qT) (by rw[qZ];rfl)) (by rw[uP];rfl)) (by kernel_rfl)) (by kernel_rfl)) (by kernel_rfl)) (by kernel_rfl))
theorem holds:Rows.FnScanOrderSaid:=
 OpenClaim.holds_of_wide 5 Tryz.f5 rfl rfl rfl rfl rfl rfl rfl ⟨rfl,rfl,rfl,rfl,rfl⟩ rfl rfl rfl rfl rfl (by kernel_rfl) Tryz.func5 we
  (of_decide_eq_true (by kernel_rfl)) (by unfold Func.isWrapper;first|(rw[if_pos (by decide+kernel)];kernel_rfl)|(rw[if_neg (by decide+kernel)];exact⟨rfl,rfl⟩))
  (fun os started H enc _=>lifted os started H enc)
end Go.Proofs.YticpmdigfdpmfaaGreat.fnScanOrder
