/- What is reached along a path. -/
import Derived.Test.YticpmdigfdpmfaaGreatFre
import Derived.Test.YticpmdigfdpmfaaGreatWays
set_option linter.unusedVariables false
set_option linter.unusedSimpArgs false
set_option linter.unusedSectionVars false
namespace Go.Vs
open Go.IntWalk
theorem rY {p:Int→Bool}:∀{m:Nat} {v d:Int},p d=true→v≤d→d<v+m→∃d0,fdD p m v=some d0∧d0≤d
 |0,v,d,_,h1,h2=>by omega
 |m+1,v,d,hp,h1,h2=>by
  unfold fdD
  cases hv:p v with
  |true=>exact⟨v,by simp,h1⟩
  |false=>
   have hne:v≠d:=fun e=>by rw[e,hp] at hv;cases hv
   obtain⟨d0,q1,q2⟩:=rY (m:=m) (v:=v+1) hp (by omega) (by omega)
   exact⟨d0,by simp[q1],q2⟩
def arL (n:Network) (s:ByteArray) (a:Int):List Int:=itr n (fN n) (ixN (plc n) s) (plc n).length (fU n (ixN (plc n) s) a)
theorem CX {n:Network} (hb:netB n=true) {s p:ByteArray} {a:Int} (hs:s∈plc n) (ha:a≤100000) (hp:p∈plc n):eaB n s p a=lab (arL n s a) (ixN (plc n) p):=by
 unfold eaB
 rw[if_pos ⟨hb,hs,ha,hp⟩,sO hs ha (by omega)]
 rfl
theorem AW {n:Network} (hn:NetOk n) {s:ByteArray} {a:Int} {t:Trip} (hr:runsB n t.Leg t.Day=true)
 (h0:0≤lab (arL n s a) (ixN (plc n) (lgOf n t.Leg).From)) (h1:rdy n (lab (arL n s a) (ixN (plc n) (lgOf n t.Leg).From)) (decide (ixN (plc n) (lgOf n t.Leg).From=ixN (plc n) s))≤stN n t.Leg t.Day):
 0≤lab (arL n s a) (ixN (plc n) (lgOf n t.Leg).To)∧lab (arL n s a) (ixN (plc n) (lgOf n t.Leg).To)≤enN n t.Leg t.Day:=by
 have hok:FOk n (fN n):=⟨hn,(nH hn).ok⟩
 have hlen:=hn.len
 obtain⟨r1,r2,r3,r4⟩:=cV (n:=n) (by omega) hr
 have hset:rnd n (fN n) (ixN (plc n) s) (arL n s a)=arL n s a:=wO hok (en n _ a) (by omega)
 have hz:=d9 r1 r2
 obtain⟨d0,e1,e2⟩:=rY (p:=pN n t.Leg (rdy n (lab (arL n s a) (ixN (plc n) (lgOf n t.Leg).From)) (decide (ixN (plc n) (lgOf n t.Leg).From=ixN (plc n) s)))) (m:=61) (v:=0) (d:=t.Day) (by
  unfold pN
  rw[hr,decide_eq_true h1];rfl) r3 (by omega)
 have hv:via n (fN n) (ixN (plc n) s) (arL n s a) (lgOf n t.Leg) ((t.Leg.toNat:Nat):Int)=some (enN n t.Leg d0):=by
  unfold via
  rw[show aI n (lgOf n t.Leg)=ixN (plc n) (lgOf n t.Leg).From from rfl,if_neg (by omega),show((t.Leg.toNat:Nat):Int)=t.Leg by omega]
  show(fN n t.Leg _).map _=_
  rw[show fN n t.Leg (rdy n (lab (arL n s a) (ixN (plc n) (lgOf n t.Leg).From)) (decide (ixN (plc n) (lgOf n t.Leg).From=ixN (plc n) s)))=some d0 from e1]
  rfl
 have hb:=(gW (st:=ixN (plc n) s) hok ((ff _ _).trans (en n _ a)) (ixN (plc n) (lgOf n t.Leg).To)).2 _ _ _ hz rfl hv
 rw[show rnd n (fN n) (ixN (plc n) s) (itr n (fN n) (ixN (plc n) s) (plc n).length (fU n (ixN (plc n) s) a))=arL n s a from hset] at hb
 unfold bq at hb
 have hm:enN n t.Leg d0≤enN n t.Leg t.Day:=by
  unfold enN stN;omega
 omega
theorem lF {n:Network} (hn:NetOk n) {p:ByteArray}:∀{l:List Trip} {x:ByteArray} {a:Int},Path n p x a l→∀t∈l,runsB n t.Leg t.Day=true∧a≤stN n t.Leg t.Day∧stN n t.Leg t.Day<enN n t.Leg t.Day∧0≤stN n t.Leg t.Day∧enN n t.Leg t.Day≤92159∧(lgOf n t.Leg).From∈plc n∧(lgOf n t.Leg).To∈plc n
 |[],_,_,_,t,h=>by cases h
 |u::l,x,a,hp,t,h=>by
  have hlen:=hn.len
  have hc:=hn.change
  obtain⟨r1,r2,r3,r4⟩:=cV (n:=n) (by omega) hp.1
  obtain⟨q1,q2,q3,q4⟩:=ku hn r1 r2 r3 r4
  rcases List.mem_cons.1 h with rfl|h
  ·exact⟨hp.1,hp.2.2.1,q3,by omega,q4,(c7 n _).2 ⟨_,kL r1 r2,.inl rfl⟩,(c7 n _).2 ⟨_,kL r1 r2,.inr rfl⟩⟩
  ·obtain⟨k1,k2,k3⟩:=lF hn hp.2.2.2 t h
   have:=hp.2.2.1
   exact⟨k1,by omega,k3⟩
theorem uF {n:Network} (hn:NetOk n) {s p:ByteArray} {a:Int}:∀{l:List Trip} {x:ByteArray} {b:Int},Path n p x b l→0≤lab (arL n s a) (ixN (plc n) x)→rdy n (lab (arL n s a) (ixN (plc n) x)) (decide (ixN (plc n) x=ixN (plc n) s))≤b→
 ∀t∈l,(0≤lab (arL n s a) (ixN (plc n) (lgOf n t.Leg).From)∧lab (arL n s a) (ixN (plc n) (lgOf n t.Leg).From)≤stN n t.Leg t.Day)∧0≤lab (arL n s a) (ixN (plc n) (lgOf n t.Leg).To)∧lab (arL n s a) (ixN (plc n) (lgOf n t.Leg).To)≤enN n t.Leg t.Day
 |[],_,_,_,_,_,t,h=>by cases h
 |u::l,x,b,hp,h0,h1,t,h=>by
  have hc:=hn.change
  obtain⟨p1,p2,p3,p4⟩:=hp
  subst p2
  have hle:lab (arL n s a) (ixN (plc n) (lgOf n u.Leg).From)≤rdy n (lab (arL n s a) (ixN (plc n) (lgOf n u.Leg).From)) (decide (ixN (plc n) (lgOf n u.Leg).From=ixN (plc n) s)):=by
   unfold rdy;split<;>omega
  have ht:=AW hn p1 h0 (Int.le_trans h1 p3)
  rcases List.mem_cons.1 h with rfl|h
  ·exact⟨⟨h0,by omega⟩,ht⟩
  ·refine uF hn p4 ht.1 ?_ t h
   unfold rdy;split<;>omega
end Go.Vs
