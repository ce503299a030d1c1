/- Part of the proofs of this seat's laws: Is. No condition. -/
import Derived.Test.YtolplompnmammaaGreatDoorVg
import Derived.Test.YtolplompnmammaaGreatDoorHa
set_option linter.unusedVariables false
set_option linter.unusedSimpArgs false
set_option linter.unusedSectionVars false
namespace Go.Vs
set_option linter.unusedVariables false
theorem F4 {r:R} (h:R.is (.int .u8) r):∃n,r=.v (.int .u8 n)∧0≤n∧n≤255:=by
 cases r with
 |v x=>
  simp only[R.is] at h
  obtain⟨n,rfl,hw⟩:=h
  simp only[Lit.wf,Bool.and_eq_true,decide_eq_true_eq] at hw
  exact⟨n,rfl,hw.1,hw.2⟩
 |s k es=>simp[R.is] at h
 |fn q bs=>simp[R.is] at h
theorem FE {r:R} {es:List Ty} (h:R.is (.sl es) r):∃rows,r=.s es.length rows∧rows.length≤9223372036854775807∧RRows.is es rows:=by
 cases r with
 |v x=>simp[R.is] at h
 |s k rows=>simp only[R.is] at h;obtain⟨rfl,h2,h3⟩:=h;exact⟨rows,rfl,by unfold maxLen at h2;omega,h3⟩
 |fn q bs=>simp[R.is] at h
theorem yx {t:Ty} {ts:List Ty} {rs:List R} (h:Rs.is (t::ts) rs):∃r r2,rs=r::r2∧R.is t r∧Rs.is ts r2:=by
 cases rs with
 |nil=>simp[Rs.is] at h
 |cons r r2=>simp only[Rs.is] at h;exact⟨r,r2,rfl,h.1,h.2⟩
theorem Ee {rs:List R} (h:Rs.is [] rs):rs=[]:=by cases rs<;>simp_all [Rs.is]
theorem xS {α:Type} {es:List Ty} {f:α→List R} {p:α→Prop} (h:∀r,Rs.is es r→∃x,r=f x∧p x):∀rows:List (List R),RRows.is es rows→∃l:List α,rows=l.map f∧∀x∈l,p x
 |[],_=>⟨[],rfl,by simp⟩
 |r::rows,hr=>by
  simp only[RRows.is] at hr
  obtain⟨x,rfl,hx⟩:=h r hr.1
  obtain⟨l,rfl,hl⟩:=xS h rows hr.2
  exact⟨x::l,rfl,fun y hy=>by
   rcases List.mem_cons.1 hy with rfl|hy
   ·exact hx
   ·exact hl y hy⟩
theorem Ge (r:List R) (h:Rs.is [.int .u8] r):∃x:Int,r=U8.rs TE.real x∧0≤x∧x≤255:=by
 obtain⟨c0,r0,rfl,h0,h⟩:=yx h
 obtain rfl:=Ee h
 obtain⟨x0,rfl,w0⟩:=F4 h0
 exact⟨x0,rfl,w0⟩
end Go.Vs
