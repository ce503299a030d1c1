/- The law FnBetween holds: whatever its arguments, the call returns true and leaves them as they were. No condition. -/
import Derived.Test.YticpmdigfdpmfaaGreatDra
import Derived.Test.YticpmdigfdpmfaaGreatLd
import Derived.Test.YticpmdigfdpmfaaGreatIs
import Derived.Test.YticpmdigfdpmfaaGreatOrder
import Derived.Test.YticpmdigfdpmfaaGreatLaf
import Derived.Test.YticpmdigfdpmfaaGreatRows
set_option linter.unusedVariables false
set_option linter.unusedSimpArgs false
set_option linter.unusedSectionVars false
namespace Go.Vs
open Go.IntWalk
theorem yv (a:List Int) (_:a.length≤9223372036854775807∧∀x∈a,0≤x∧x≤255):im G.real TE.real a=some true:=by
 unfold im
 rw[a9,Cz,am]
 split
 ·rfl
 ·obtain⟨⟨n,l,x,t⟩,e,ht,hl⟩:=qe a (by omega)
  rw[e,ag]
  exact wJ ht (Nat.le_trans hl (by decide)) x t
end Go.Vs
namespace Go.Vs
theorem Hs (a:List Int) (h:a.length≤9223372036854775807∧∀x∈a,0≤x∧x≤255):im G.real TE.real a=some true:=yv a h
end Go.Vs
namespace Go.Proofs.YticpmdigfdpmfaaGreat.fnBetween
open Go.Vs Go.RowKit Go.WideShapes Go.ChangeShapes
set_option linter.unusedVariables false
set_option maxRecDepth 100000
theorem xL (as0:List A) (h:pq Tryz.prog 8 Tryz.f10.params.toList as0):Go.Vs.Fn Tryz.prog 10 as0 (.c (.r (.v (.bool true)))):=by
 rw[Tryz.params10] at h
 obtain⟨x0,xs0,rfl,⟨ts0,t0,q0⟩,h⟩:=h
 rw[show lk Tryz.prog 8 22=some [.sl [.int .u8]] from by kernel_rfl] at t0
 cases t0
 rw[show wF Tryz.prog 22=false from by kernel_rfl] at q0
 obtain⟨r0,rfl,q0⟩:=q0
 obtain⟨_,_,e0,q0,e0_⟩:=qs q0
 cases e0
 obtain⟨b0,rfl,l0,q0⟩:=B3 q0
 obtain⟨a0,rfl,p0⟩:=qv CV b0 q0
 rw[List.length_map] at l0
 have h:=h
 subst h
 exact sT rfl rfl (Hs _ ⟨l0,p0⟩)
theorem lifted (os:Os) (started:os.Started) (H:Type) (enc:TypeId×Value→H):
 ReturnsInHanded {} Tryz.checked os 10 .any (Rows.fnBetweenSpec.pre6 enc Tryz.prog Tryz.f10 Rows.fnBetweenRow.domain false) (Rows.fnBetweenSpec.post enc Tryz.prog Tryz.f10 false true false false):=by
 refine returnsInHanded_of_change (C:=Tryz.checked) (s:=Rows.fnBetweenSpec) (by kernel_rfl) started (by kernel_rfl) Tryz.func10
  (ChangeSpec.witness6 (enc:=enc) (C:=Tryz.checked) false ⟨#[],#[.slice none 0 0],[]⟩ 8 (by kernel_rfl) (by kernel_rfl) (by kernel_rfl) (by kernel_rfl)) ?_
 intro W base args ds gs before hval hW _ _
 refine kW (n:=8) (tb:=4) rfl rfl Tryz.underlying4 (by kernel_rfl) (by kernel_rfl) (fun ds hl=>?_) xL W base args ds gs before hval hW
 rw[Tryz.params10] at hl
 match ds,hl with
 |[d0],_=>exact⟨rfl,rfl,rfl⟩
theorem we:joinedFacts Tryz.prog 10 Tryz.f10 Rows.fnBetweenSpec Rows.fnBetweenRow=true:=by
 unfold joinedFacts
 exact(av (av (av (av (av (av (av (av (av (av (av (av (av (av (av (av (av (av (av (av (av (av (av (av (av (av (av (av (av (av (av (by kernel_rfl) uH) vE) (by kernel_rfl)) (by kernel_rfl)) (by kernel_rfl)) (by kernel_rfl)) (by kernel_rfl)) (by kernel_rfl)) (by kernel_rfl)) (by kernel_rfl)) (by kernel_rfl)) (by kernel_rfl)) (by kernel_rfl)) (by kernel_rfl)) (by kernel_rfl)) (by kernel_rfl)) (by kernel_rfl)) (by kernel_rfl)) (by kernel_rfl)) (by kernel_rfl)) (by kernel_rfl)) (by kernel_rfl)) (by kernel_rfl)) ru) qT) (by rw[qZ];rfl)) (by rw[uP];rfl)) (by kernel_rfl)) (by kernel_rfl)) (by kernel_rfl)) (by kernel_rfl))
theorem holds:Rows.FnBetweenSaid:=
 OpenClaim.holds_of_wide 10 Tryz.f10 rfl rfl rfl rfl rfl rfl rfl ⟨rfl,rfl,rfl,rfl,rfl⟩ rfl rfl rfl rfl rfl (by kernel_rfl) Tryz.func10 we
  (of_decide_eq_true (by kernel_rfl)) (by unfold Func.isWrapper;first|(rw[if_pos (by decide+kernel)];kernel_rfl)|(rw[if_neg (by decide+kernel)];exact⟨rfl,rfl⟩))
  (fun os started H enc _=>lifted os started H enc)
end Go.Proofs.YticpmdigfdpmfaaGreat.fnBetween
