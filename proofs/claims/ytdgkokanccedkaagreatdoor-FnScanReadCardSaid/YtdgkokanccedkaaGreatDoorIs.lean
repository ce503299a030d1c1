/- Part of the proofs of this seat's laws: Is. No condition. -/
import Derived.Test.YtdgkokanccedkaaGreatDoorVg
import Derived.Test.YtdgkokanccedkaaGreatDoorHa
set_option linter.unusedVariables false
set_option linter.unusedSimpArgs false
set_option linter.unusedSectionVars false
namespace Go.Vs
set_option linter.unusedVariables false
theorem lN {r:R} {k:IntKind} (h:R.is (.int k) r):∃n,r=.v (.int k n):=by
 cases r with
 |v x=>simp only[R.is] at h;obtain⟨n,rfl,_⟩:=h;exact⟨n,rfl⟩
 |s k es=>simp[R.is] at h
 |fn q bs=>simp[R.is] at h
theorem BE {r:R} (h:R.is (.int .u8) r):∃n,r=.v (.int .u8 n)∧0≤n∧n≤255:=by
 cases r with
 |v x=>
  simp only[R.is] at h
  obtain⟨n,rfl,hw⟩:=h
  simp only[Lit.wf,Bool.and_eq_true,decide_eq_true_eq] at hw
  exact⟨n,rfl,hw.1,hw.2⟩
 |s k es=>simp[R.is] at h
 |fn q bs=>simp[R.is] at h
theorem ti {r:R} (h:R.is .str r):∃s,r=.v (.string s)∧s.size≤9223372036854775807:=by
 cases r with
 |v x=>simp only[R.is] at h;obtain⟨n,rfl,hm⟩:=h;exact⟨n,rfl,by unfold maxLen at hm;omega⟩
 |s k es=>simp[R.is] at h
 |fn q bs=>simp[R.is] at h
theorem yo {r:R} {es:List Ty} (h:R.is (.sl es) r):∃rows,r=.s es.length rows∧rows.length≤9223372036854775807∧RRows.is es rows:=by
 cases r with
 |v x=>simp[R.is] at h
 |s k rows=>simp only[R.is] at h;obtain⟨rfl,h2,h3⟩:=h;exact⟨rows,rfl,by unfold maxLen at h2;omega,h3⟩
 |fn q bs=>simp[R.is] at h
theorem dL {t:Ty} {ts:List Ty} {rs:List R} (h:Rs.is (t::ts) rs):∃r r2,rs=r::r2∧R.is t r∧Rs.is ts r2:=by
 cases rs with
 |nil=>simp[Rs.is] at h
 |cons r r2=>simp only[Rs.is] at h;exact⟨r,r2,rfl,h.1,h.2⟩
theorem rh {rs:List R} (h:Rs.is [] rs):rs=[]:=by cases rs<;>simp_all [Rs.is]
theorem nf {α:Type} {es:List Ty} {f:α→List R} {p:α→Prop} (h:∀r,Rs.is es r→∃x,r=f x∧p x):∀rows:List (List R),RRows.is es rows→∃l:List α,rows=l.map f∧∀x∈l,p x
 |[],_=>⟨[],rfl,by simp⟩
 |r::rows,hr=>by
  simp only[RRows.is] at hr
  obtain⟨x,rfl,hx⟩:=h r hr.1
  obtain⟨l,rfl,hl⟩:=nf h rows hr.2
  exact⟨x::l,rfl,fun y hy=>by
   rcases List.mem_cons.1 hy with rfl|hy
   ·exact hx
   ·exact hl y hy⟩
theorem Bh (r:List R) (h:Rs.is [.int .u8] r):∃x:Int,r=U8.rs TE.real x∧0≤x∧x≤255:=by
 obtain⟨c0,r0,rfl,h0,h⟩:=dL h
 obtain rfl:=rh h
 obtain⟨x0,rfl,w0⟩:=BE h0
 exact⟨x0,rfl,w0⟩
theorem Ab (r:List R) (h:Rs.is [.str,.str,.int .i64,.int .i64,.int .i64,.int .i64] r):∃x:Leg,r=Leg.rs TE.real x∧Leg.wd x:=by
 obtain⟨c0,r0,rfl,h0,h⟩:=dL h
 obtain⟨c1,r1,rfl,h1,h⟩:=dL h
 obtain⟨c2,r2,rfl,h2,h⟩:=dL h
 obtain⟨c3,r3,rfl,h3,h⟩:=dL h
 obtain⟨c4,r4,rfl,h4,h⟩:=dL h
 obtain⟨c5,r5,rfl,h5,h⟩:=dL h
 obtain rfl:=rh h
 obtain⟨x0,rfl,w0⟩:=ti h0
 obtain⟨x1,rfl,w1⟩:=ti h1
 obtain⟨x2,rfl⟩:=lN h2
 obtain⟨x3,rfl⟩:=lN h3
 obtain⟨x4,rfl⟩:=lN h4
 obtain⟨x5,rfl⟩:=lN h5
 exact⟨⟨x0,x1,x2,x3,x4,x5⟩,rfl,⟨w0,w1⟩⟩
theorem A5 (r:List R) (h:Rs.is [.int .i64] r):∃x:Int,r=I64.rs TE.real x∧True:=by
 obtain⟨c0,r0,rfl,h0,h⟩:=dL h
 obtain rfl:=rh h
 obtain⟨x0,rfl⟩:=lN h0
 exact⟨x0,rfl,trivial⟩
theorem tv (r:List R) (h:Rs.is [.sl [.str,.str,.int .i64,.int .i64,.int .i64,.int .i64],.sl [.int .i64],.int .i64] r):∃x:Network,r=Network.rs TE.real x∧Network.wd x:=by
 obtain⟨c0,r0,rfl,h0,h⟩:=dL h
 obtain⟨c1,r1,rfl,h1,h⟩:=dL h
 obtain⟨c2,r2,rfl,h2,h⟩:=dL h
 obtain rfl:=rh h
 obtain⟨w0,rfl,l0,q0⟩:=yo h0
 obtain⟨x0,rfl,p0⟩:=nf Ab w0 q0
 rw[List.length_map] at l0
 obtain⟨w1,rfl,l1,q1⟩:=yo h1
 obtain⟨x1,rfl,p1⟩:=nf A5 w1 q1
 rw[List.length_map] at l1
 obtain⟨x2,rfl⟩:=lN h2
 exact⟨⟨x0,x1,x2⟩,rfl,⟨⟨l0,p0⟩,l1⟩⟩
end Go.Vs
