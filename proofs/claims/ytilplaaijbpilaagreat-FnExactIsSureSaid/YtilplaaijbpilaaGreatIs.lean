/- Part of the proofs of this seat's laws: Is. No condition. -/
import Derived.Test.YtilplaaijbpilaaGreatVg
import Derived.Test.YtilplaaijbpilaaGreatHa
set_option linter.unusedVariables false
set_option linter.unusedSimpArgs false
set_option linter.unusedSectionVars false
namespace Go.Vs
set_option linter.unusedVariables false
theorem jW {r:R} {k:IntKind} (h:R.is (.int k) r):∃n,r=.v (.int k n):=by
 cases r with
 |v x=>simp only[R.is] at h;obtain⟨n,rfl,_⟩:=h;exact⟨n,rfl⟩
 |s k es=>simp[R.is] at h
 |fn q bs=>simp[R.is] at h
theorem fW {r:R} (h:R.is (.int .i64) r):∃n,r=.v (.int .i64 n)∧ -9223372036854775808≤n∧n≤9223372036854775807:=by
 cases r with
 |v x=>
  simp only[R.is] at h
  obtain⟨n,rfl,hw⟩:=h
  simp only[Lit.wf,Bool.and_eq_true,decide_eq_true_eq] at hw
  exact⟨n,rfl,hw.1,hw.2⟩
 |s k es=>simp[R.is] at h
 |fn q bs=>simp[R.is] at h
theorem tf {r:R} (h:R.is .str r):∃s,r=.v (.string s)∧s.size≤9223372036854775807:=by
 cases r with
 |v x=>simp only[R.is] at h;obtain⟨n,rfl,hm⟩:=h;exact⟨n,rfl,by unfold maxLen at hm;omega⟩
 |s k es=>simp[R.is] at h
 |fn q bs=>simp[R.is] at h
theorem lR {r:R} {es:List Ty} (h:R.is (.sl es) r):∃rows,r=.s es.length rows∧rows.length≤9223372036854775807∧RRows.is es rows:=by
 cases r with
 |v x=>simp[R.is] at h
 |s k rows=>simp only[R.is] at h;obtain⟨rfl,h2,h3⟩:=h;exact⟨rows,rfl,by unfold maxLen at h2;omega,h3⟩
 |fn q bs=>simp[R.is] at h
theorem aK {t:Ty} {ts:List Ty} {rs:List R} (h:Rs.is (t::ts) rs):∃r r2,rs=r::r2∧R.is t r∧Rs.is ts r2:=by
 cases rs with
 |nil=>simp[Rs.is] at h
 |cons r r2=>simp only[Rs.is] at h;exact⟨r,r2,rfl,h.1,h.2⟩
theorem tS {rs:List R} (h:Rs.is [] rs):rs=[]:=by cases rs<;>simp_all [Rs.is]
theorem fY {α:Type} {es:List Ty} {f:α→List R} {p:α→Prop} (h:∀r,Rs.is es r→∃x,r=f x∧p x):∀rows:List (List R),RRows.is es rows→∃l:List α,rows=l.map f∧∀x∈l,p x
 |[],_=>⟨[],rfl,by simp⟩
 |r::rows,hr=>by
  simp only[RRows.is] at hr
  obtain⟨x,rfl,hx⟩:=h r hr.1
  obtain⟨l,rfl,hl⟩:=fY h rows hr.2
  exact⟨x::l,rfl,fun y hy=>by
   rcases List.mem_cons.1 hy with rfl|hy
   ·exact hx
   ·exact hl y hy⟩
theorem HE (r:List R) (h:Rs.is [.str,.str,.int .i64,.int .i64,.int .i64,.int .i64] r):∃x:Leg,r=Leg.rs TE.real x∧Leg.wd x:=by
 obtain⟨c0,r0,rfl,h0,h⟩:=aK h
 obtain⟨c1,r1,rfl,h1,h⟩:=aK h
 obtain⟨c2,r2,rfl,h2,h⟩:=aK h
 obtain⟨c3,r3,rfl,h3,h⟩:=aK h
 obtain⟨c4,r4,rfl,h4,h⟩:=aK h
 obtain⟨c5,r5,rfl,h5,h⟩:=aK h
 obtain rfl:=tS h
 obtain⟨x0,rfl,w0⟩:=tf h0
 obtain⟨x1,rfl,w1⟩:=tf h1
 obtain⟨x2,rfl⟩:=jW h2
 obtain⟨x3,rfl⟩:=jW h3
 obtain⟨x4,rfl⟩:=jW h4
 obtain⟨x5,rfl⟩:=jW h5
 exact⟨⟨x0,x1,x2,x3,x4,x5⟩,rfl,⟨w0,w1⟩⟩
theorem GC (r:List R) (h:Rs.is [.int .i64] r):∃x:Int,r=I64.rs TE.real x∧True:=by
 obtain⟨c0,r0,rfl,h0,h⟩:=aK h
 obtain rfl:=tS h
 obtain⟨x0,rfl⟩:=jW h0
 exact⟨x0,rfl,trivial⟩
theorem dP (r:List R) (h:Rs.is [.sl [.str,.str,.int .i64,.int .i64,.int .i64,.int .i64],.sl [.int .i64],.int .i64] r):∃x:Network,r=Network.rs TE.real x∧Network.wd x:=by
 obtain⟨c0,r0,rfl,h0,h⟩:=aK h
 obtain⟨c1,r1,rfl,h1,h⟩:=aK h
 obtain⟨c2,r2,rfl,h2,h⟩:=aK h
 obtain rfl:=tS h
 obtain⟨w0,rfl,l0,q0⟩:=lR h0
 obtain⟨x0,rfl,p0⟩:=fY HE w0 q0
 rw[List.length_map] at l0
 obtain⟨w1,rfl,l1,q1⟩:=lR h1
 obtain⟨x1,rfl,p1⟩:=fY GC w1 q1
 rw[List.length_map] at l1
 obtain⟨x2,rfl⟩:=jW h2
 exact⟨⟨x0,x1,x2⟩,rfl,⟨⟨l0,p0⟩,l1⟩⟩
theorem iK (r:List R) (h:Rs.is [.int .i64,.int .i64,.int .i64,.str,.int .i64,.int .i64] r):∃x:Scan,r=Scan.rs TE.real x∧Scan.wd x:=by
 obtain⟨c0,r0,rfl,h0,h⟩:=aK h
 obtain⟨c1,r1,rfl,h1,h⟩:=aK h
 obtain⟨c2,r2,rfl,h2,h⟩:=aK h
 obtain⟨c3,r3,rfl,h3,h⟩:=aK h
 obtain⟨c4,r4,rfl,h4,h⟩:=aK h
 obtain⟨c5,r5,rfl,h5,h⟩:=aK h
 obtain rfl:=tS h
 obtain⟨x0,rfl⟩:=jW h0
 obtain⟨x1,rfl⟩:=jW h1
 obtain⟨x2,rfl⟩:=jW h2
 obtain⟨x3,rfl,w3⟩:=tf h3
 obtain⟨x4,rfl⟩:=jW h4
 obtain⟨x5,rfl⟩:=jW h5
 exact⟨⟨x0,x1,x2,x3,⟨x4,x5⟩⟩,rfl,w3⟩
theorem Fp (r:List R) (h:Rs.is [.int .i64,.int .i64] r):∃x:Trip,r=Trip.rs TE.real x∧True:=by
 obtain⟨c0,r0,rfl,h0,h⟩:=aK h
 obtain⟨c1,r1,rfl,h1,h⟩:=aK h
 obtain rfl:=tS h
 obtain⟨x0,rfl⟩:=jW h0
 obtain⟨x1,rfl⟩:=jW h1
 exact⟨⟨x0,x1⟩,rfl,trivial⟩
end Go.Vs
