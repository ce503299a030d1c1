/- Part of the proofs of this seat's laws: Is. No condition. -/
import Derived.Test.YtilplaaijbpilaaGreatVg
import Derived.Test.YtilplaaijbpilaaGreatHa
set_option linter.unusedVariables false
set_option linter.unusedSimpArgs false
set_option linter.unusedSectionVars false
namespace Go.Vs
set_option linter.unusedVariables false
theorem jQ {r:R} {k:IntKind} (h:R.is (.int k) r):∃n,r=.v (.int k n):=by
 cases r with
 |v x=>simp only[R.is] at h;obtain⟨n,rfl,_⟩:=h;exact⟨n,rfl⟩
 |s k es=>simp[R.is] at h
 |fn q bs=>simp[R.is] at h
theorem sy {r:R} (h:R.is (.int .i64) r):∃n,r=.v (.int .i64 n)∧ -9223372036854775808≤n∧n≤9223372036854775807:=by
 cases r with
 |v x=>
  simp only[R.is] at h
  obtain⟨n,rfl,hw⟩:=h
  simp only[Lit.wf,Bool.and_eq_true,decide_eq_true_eq] at hw
  exact⟨n,rfl,hw.1,hw.2⟩
 |s k es=>simp[R.is] at h
 |fn q bs=>simp[R.is] at h
theorem y4 {r:R} (h:R.is .str r):∃s,r=.v (.string s)∧s.size≤9223372036854775807:=by
 cases r with
 |v x=>simp only[R.is] at h;obtain⟨n,rfl,hm⟩:=h;exact⟨n,rfl,by unfold maxLen at hm;omega⟩
 |s k es=>simp[R.is] at h
 |fn q bs=>simp[R.is] at h
theorem zN {r:R} {es:List Ty} (h:R.is (.sl es) r):∃rows,r=.s es.length rows∧rows.length≤9223372036854775807∧RRows.is es rows:=by
 cases r with
 |v x=>simp[R.is] at h
 |s k rows=>simp only[R.is] at h;obtain⟨rfl,h2,h3⟩:=h;exact⟨rows,rfl,by unfold maxLen at h2;omega,h3⟩
 |fn q bs=>simp[R.is] at h
theorem cu {t:Ty} {ts:List Ty} {rs:List R} (h:Rs.is (t::ts) rs):∃r r2,rs=r::r2∧R.is t r∧Rs.is ts r2:=by
 cases rs with
 |nil=>simp[Rs.is] at h
 |cons r r2=>simp only[Rs.is] at h;exact⟨r,r2,rfl,h.1,h.2⟩
theorem u7 {rs:List R} (h:Rs.is [] rs):rs=[]:=by cases rs<;>simp_all [Rs.is]
theorem oB {α:Type} {es:List Ty} {f:α→List R} {p:α→Prop} (h:∀r,Rs.is es r→∃x,r=f x∧p x):∀rows:List (List R),RRows.is es rows→∃l:List α,rows=l.map f∧∀x∈l,p x
 |[],_=>⟨[],rfl,by simp⟩
 |r::rows,hr=>by
  simp only[RRows.is] at hr
  obtain⟨x,rfl,hx⟩:=h r hr.1
  obtain⟨l,rfl,hl⟩:=oB h rows hr.2
  exact⟨x::l,rfl,fun y hy=>by
   rcases List.mem_cons.1 hy with rfl|hy
   ·exact hx
   ·exact hl y hy⟩
theorem F6 (r:List R) (h:Rs.is [.str,.str,.int .i64,.int .i64,.int .i64,.int .i64] r):∃x:Leg,r=Leg.rs TE.real x∧Leg.wd x:=by
 obtain⟨c0,r0,rfl,h0,h⟩:=cu h
 obtain⟨c1,r1,rfl,h1,h⟩:=cu h
 obtain⟨c2,r2,rfl,h2,h⟩:=cu h
 obtain⟨c3,r3,rfl,h3,h⟩:=cu h
 obtain⟨c4,r4,rfl,h4,h⟩:=cu h
 obtain⟨c5,r5,rfl,h5,h⟩:=cu h
 obtain rfl:=u7 h
 obtain⟨x0,rfl,w0⟩:=y4 h0
 obtain⟨x1,rfl,w1⟩:=y4 h1
 obtain⟨x2,rfl⟩:=jQ h2
 obtain⟨x3,rfl⟩:=jQ h3
 obtain⟨x4,rfl⟩:=jQ h4
 obtain⟨x5,rfl⟩:=jQ h5
 exact⟨⟨x0,x1,x2,x3,x4,x5⟩,rfl,⟨w0,w1⟩⟩
theorem Fz (r:List R) (h:Rs.is [.int .i64] r):∃x:Int,r=I64.rs TE.real x∧True:=by
 obtain⟨c0,r0,rfl,h0,h⟩:=cu h
 obtain rfl:=u7 h
 obtain⟨x0,rfl⟩:=jQ h0
 exact⟨x0,rfl,trivial⟩
theorem rH (r:List R) (h:Rs.is [.sl [.str,.str,.int .i64,.int .i64,.int .i64,.int .i64],.sl [.int .i64],.int .i64] r):∃x:Network,r=Network.rs TE.real x∧Network.wd x:=by
 obtain⟨c0,r0,rfl,h0,h⟩:=cu h
 obtain⟨c1,r1,rfl,h1,h⟩:=cu h
 obtain⟨c2,r2,rfl,h2,h⟩:=cu h
 obtain rfl:=u7 h
 obtain⟨w0,rfl,l0,q0⟩:=zN h0
 obtain⟨x0,rfl,p0⟩:=oB F6 w0 q0
 rw[List.length_map] at l0
 obtain⟨w1,rfl,l1,q1⟩:=zN h1
 obtain⟨x1,rfl,p1⟩:=oB Fz w1 q1
 rw[List.length_map] at l1
 obtain⟨x2,rfl⟩:=jQ h2
 exact⟨⟨x0,x1,x2⟩,rfl,⟨⟨l0,p0⟩,l1⟩⟩
theorem zB (r:List R) (h:Rs.is [.int .i64,.int .i64,.int .i64,.str,.int .i64,.int .i64] r):∃x:Scan,r=Scan.rs TE.real x∧Scan.wd x:=by
 obtain⟨c0,r0,rfl,h0,h⟩:=cu h
 obtain⟨c1,r1,rfl,h1,h⟩:=cu h
 obtain⟨c2,r2,rfl,h2,h⟩:=cu h
 obtain⟨c3,r3,rfl,h3,h⟩:=cu h
 obtain⟨c4,r4,rfl,h4,h⟩:=cu h
 obtain⟨c5,r5,rfl,h5,h⟩:=cu h
 obtain rfl:=u7 h
 obtain⟨x0,rfl⟩:=jQ h0
 obtain⟨x1,rfl⟩:=jQ h1
 obtain⟨x2,rfl⟩:=jQ h2
 obtain⟨x3,rfl,w3⟩:=y4 h3
 obtain⟨x4,rfl⟩:=jQ h4
 obtain⟨x5,rfl⟩:=jQ h5
 exact⟨⟨x0,x1,x2,x3,⟨x4,x5⟩⟩,rfl,w3⟩
end Go.Vs
