/- The law FnStory holds: whatever its arguments, the call returns true and leaves them as they were. No condition. -/
import Derived.Test.YticpmdigfdpmfaaGreatRea
import Derived.Test.YticpmdigfdpmfaaGreatDra
import Derived.Test.YticpmdigfdpmfaaGreatLac
import Derived.Test.YticpmdigfdpmfaaGreatLag
import Derived.Test.YticpmdigfdpmfaaGreatIs
import Derived.Test.YticpmdigfdpmfaaGreatOrder
import Derived.Test.YticpmdigfdpmfaaGreatRows
set_option linter.unusedVariables false
set_option linter.unusedSimpArgs false
set_option linter.unusedSectionVars false
namespace Go.Vs
open Go.IntWalk
theorem BN (a:List Int) (h:a.length≤9223372036854775807∧∀x∈a,0≤x∧x≤255):jI G.real TE.real a=some true:=by
 unfold jI
 rw[aN,Bz,al]
 split
 ·rfl
 ·obtain⟨⟨n,f,to,w⟩,e,hW,_⟩:=iJ a (by omega)
  have hW:NetW n:=hW
  have ht:=ru hW
  rw[e,ae]
  simp only[vc]
  obtain⟨r,r1,r2,r3,r4⟩:=Cw ht f to w
  rw[r1,r2,ae,ae]
  cases hr:r.2 with
  |false=>rfl
  |true=>
   obtain⟨hb,hf,hto,hw,hp⟩:=r4 hr
   have hn:=gb ht hb
   rw[bS,bS,dc,al]
   split
   ·rfl
   ·rename_i hw0
    rw[show max w 0=w by omega] at hp
    have htr:∀t∈r.1,cf n t=true:=fun t htm=>by
     unfold cf
     rw[hb,(aV hn hp t htm).1];rfl
    obtain⟨v,v1,_⟩:=CP a h.2 (i:=1) (by omega)
    have hl2:=nS n 3 r.1
    rw[vd ht 3 w f htr (by omega),ae,v1,ae,BK _ _ _ (by omega),ae]
    have hS:=u7 hn hb (th:=3) (by omega) hf (by omega) hw hp (by omega) (jG v (stl n 3 r.1) 1)
    have hsl:=(jG v (stl n 3 r.1) 1).length_le
    have hlen:(heS 3 w f::qX v 1 (stl n 3 r.1)).length≤200:=by simp only[List.length_cons];omega
    generalize heS 3 w f::qX v 1 (stl n 3 r.1)=F at hS hlen ⊢
    rw[C9 ht _ (by omega),G2 ht _ (by omega),FU ht _ (by omega),ae,ae,ae,hS.sof,hS.cls,hS.cn,DJ _ (by omega),ae]
    simp only[tx,vt,de,decide_true]
    rfl
end Go.Vs
namespace Go.Vs
theorem law3 (a:List Int) (h:a.length≤9223372036854775807∧∀x∈a,0≤x∧x≤255):jI G.real TE.real a=some true:=BN a h
end Go.Vs
namespace Go.Proofs.YticpmdigfdpmfaaGreat.fnStory
open Go.Vs Go.RowKit Go.WideShapes Go.ChangeShapes
set_option linter.unusedVariables false
set_option maxRecDepth 100000
theorem w8 (as0:List A) (h:pg Tryz.prog 8 Tryz.f3.params.toList as0):Go.Vs.Fn Tryz.prog 3 as0 (.c (.r (.v (.bool true)))):=by
 rw[Tryz.params3] at h
 obtain⟨x0,xs0,rfl,⟨ts0,t0,q0⟩,h⟩:=h
 rw[show lB Tryz.prog 8 22=some [.sl [.int .u8]] from by kernel_rfl] at t0
 cases t0
 rw[show wW Tryz.prog 22=false from by kernel_rfl] at q0
 obtain⟨r0,rfl,q0⟩:=q0
 obtain⟨_,_,e0,q0,e0_⟩:=qi q0
 cases e0
 obtain⟨b0,rfl,l0,q0⟩:=CJ q0
 obtain⟨a0,rfl,p0⟩:=qk BT b0 q0
 rw[List.length_map] at l0
 have h:=h
 subst h
 exact xw rfl rfl (law3 _ ⟨l0,p0⟩)
theorem lifted (os:Os) (started:os.Started) (H:Type) (enc:TypeId×Value→H):
 ReturnsInHanded {} Tryz.checked os 3 .any (Rows.fnStorySpec.pre6 enc Tryz.prog Tryz.f3 Rows.fnStoryRow.domain false) (Rows.fnStorySpec.post enc Tryz.prog Tryz.f3 false true false false):=by
 refine returnsInHanded_of_change (C:=Tryz.checked) (s:=Rows.fnStorySpec) (by kernel_rfl) started (by kernel_rfl) Tryz.func3
  (ChangeSpec.witness6 (enc:=enc) (C:=Tryz.checked) false ⟨#[],#[.slice none 0 0],[]⟩ 8 (by kernel_rfl) (by kernel_rfl) (by kernel_rfl) (by kernel_rfl)) ?_
 intro W base args ds gs before hval hW _ _
 refine kP (n:=8) (tb:=4) rfl rfl Tryz.underlying4 (by kernel_rfl) (by kernel_rfl) (fun ds hl=>?_) w8 W base args ds gs before hval hW
 rw[Tryz.params3] at hl
 match ds,hl with
 |[d0],_=>exact⟨rfl,rfl,rfl⟩
theorem wa:joinedFacts Tryz.prog 3 Tryz.f3 Rows.fnStorySpec Rows.fnStoryRow=true:=by
 unfold joinedFacts
 exact(au (au (au (au (au (au (au (au (au (au (au (au (au (au (au (au (au (au (au (au (au (au (au (au (au (au (au (au (au (au (au (by kernel_rfl) ur) uq) (by kernel_rfl)) (by kernel_rfl)) (by kernel_rfl)) (by kernel_rfl)) (by kernel_rfl)) (by kernel_rfl)) (by kernel_rfl)) (by kernel_rfl)) (by kernel_rfl)) (by kernel_rfl)) (by kernel_rfl)) (by kernel_rfl)) (by kernel_rfl)) (by kernel_rfl)) (by kernel_rfl)) (by kernel_rfl)) (by kernel_rfl)) (by kernel_rfl)) (by kernel_rfl)) (by kernel_rfl)) (by kernel_rfl)) rJ) qD) (by rw[rM];rfl)) (by rw[vg];rfl)) (by kernel_rfl)) (by kernel_rfl)) (by kernel_rfl)) (by kernel_rfl))
theorem holds:Rows.FnStorySaid:=
 OpenClaim.holds_of_wide 3 Tryz.f3 rfl rfl rfl rfl rfl rfl rfl ⟨rfl,rfl,rfl,rfl,rfl⟩ rfl rfl rfl rfl rfl (by kernel_rfl) Tryz.func3 wa
  (of_decide_eq_true (by kernel_rfl)) (by unfold Func.isWrapper;first|(rw[if_pos (by decide+kernel)];kernel_rfl)|(rw[if_neg (by decide+kernel)];exact⟨rfl,rfl⟩))
  (fun os started H enc _=>lifted os started H enc)
end Go.Proofs.YticpmdigfdpmfaaGreat.fnStory
